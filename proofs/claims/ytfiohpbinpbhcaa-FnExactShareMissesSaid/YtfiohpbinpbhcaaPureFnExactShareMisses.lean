/- The plain law of FnExactShareMisses: what it computes answers true; no conditions. -/
import Derived.Test.YtfiohpbinpbhcaaQx0
import Derived.Test.YtfiohpbinpbhcaaHarePrograms
import Derived.Test.YtfiohpbinpbhcaaHshareMisses
import Derived.Test.YtfiohpbinpbhcaaHspecShareMisses
import Derived.Test.YtfiohpbinpbhcaaQx8
import Derived.Test.YtfiohpbinpbhcaaSbase
import Derived.Test.YtfiohpbinpbhcaaSnested
import Derived.Test.YtfiohpbinpbhcaaSokuses
import Derived.Test.YtfiohpbinpbhcaaSwords
namespace Go.Proofs.Ytfiohpbinpbhcaa.Q
open Go.RowKit Go.Proofs.YtfiohpbinpbhcaaW.PrintWords Go.Proofs.YtfiohpbinpbhcaaW.PrintLast Go.Proofs.YtfiohpbinpbhcaaW.PrintMore
attribute [local go_sem] max2_int min2_int max_two min_two max_three min_three max_four min_four   -- for this text's walks alone
set_option linter.unusedVariables false
set_option linter.unusedSimpArgs false

def laws_FnExactShareMisses.PureQ : Prop := ∀ (l0 : List (List Int)) (l1 : List Int), l0.length ≤ 9223372036854775807 → (∀ y ∈ l0, y.length ≤ 9223372036854775807) → l1.length ≤ 9223372036854775807 → ∃ k, laws_FnExactShareMisses.f k l0 l1 = some true
end Go.Proofs.Ytfiohpbinpbhcaa.Q
namespace Go.Proofs.Ytfiohpbinpbhcaa.Pure
open Go.RowKit Go.Proofs.Ytfiohpbinpbhcaa.Q Go.Proofs.YtfiohpbinpbhcaaW.PrintWords
theorem bothShareMisses (P : List (List Int)) (S : List Int) : ∃ r b, spec_ShareMisses.f P S = some (r, b) ∧ impl_ShareMisses.f P S = some (r, b) := by
  unfold spec_ShareMisses.f impl_ShareMisses.f
  cases okProgs P && (decide ((S.length : Int) = (P.length : Int)) && S.all okShare) with
  | false => exact ⟨0, false, by simp, by simp⟩
  | true => exact ⟨shareTo P S P.length, true, by simp, by simp⟩
theorem FnExactShareMisses : laws_FnExactShareMisses.PureQ := by
  intro l0 l1 hl0 hin0 hl1
  refine Ev.rounds (g := fun k => laws_FnExactShareMisses.f k l0 l1) ?_
  unfold laws_FnExactShareMisses.f
  by_cases c1 : (l1.length : Int) > 1048576
  · exact Ev.ite_pos c1 (Ev.now _)
  refine Ev.ite_neg c1 (ev_rows_guard l0 hl0 hin0 fun hs hin t => ?_)
  obtain ⟨r, b, es, ei⟩ := bothShareMisses l0 l1
  have etx := ev_toInt64SS l0 hs hin
  have eqx := ev_eqInt64SS_same l0 hs hin
  have etu := ev_toInt64S l1 (by omega)
  have equ := ev_eqInt64S_same l1 (by omega)
  repeat' first
    | exact Ev.now _
    | (with_reducible refine Ev.cbind es ?_)
    | (with_reducible refine Ev.cbind ei ?_)
    | (with_reducible refine Ev.bind etx ?_)
    | (with_reducible refine Ev.bind eqx ?_)
    | (with_reducible refine Ev.bind etu ?_)
    | (with_reducible refine Ev.bind equ ?_)
    | (with_reducible refine Ev.ite_pos (by first | rfl | omega | (dsimp only; omega)) ?_)
    | (with_reducible refine Ev.ite_neg (by first | omega | (dsimp only; omega) | (simp; done) | (simp; omega)) ?_)
    | (apply Ev.succ; simp only [laws_FnExactShareMisses.j0])
end Go.Proofs.Ytfiohpbinpbhcaa.Pure
