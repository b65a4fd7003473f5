/- The plain law of FnExactSetMisses: what it computes answers true; no conditions. -/
import Derived.Test.YtdhkcnhmmiigoaaQx0
import Derived.Test.YtdhkcnhmmiigoaaHsetmisses
import Derived.Test.YtdhkcnhmmiigoaaHspecSetMisses
import Derived.Test.YtdhkcnhmmiigoaaQx7
import Derived.Test.YtdhkcnhmmiigoaaQx8
import Derived.Test.YtdhkcnhmmiigoaaSbase
import Derived.Test.YtdhkcnhmmiigoaaSsince
import Derived.Test.YtdhkcnhmmiigoaaSisin
import Derived.Test.YtdhkcnhmmiigoaaSl06Is
import Derived.Test.YtdhkcnhmmiigoaaSmisses
import Derived.Test.YtdhkcnhmmiigoaaSmisses6
import Derived.Test.YtdhkcnhmmiigoaaSvalidindex
import Derived.Test.YtdhkcnhmmiigoaaSuses
import Derived.Test.YtdhkcnhmmiigoaaSwords
namespace Go.Proofs.Ytdhkcnhmmiigoaa.Q
open Go.RowKit Go.Proofs.YtdhkcnhmmiigoaaW.PrintWords Go.Proofs.YtdhkcnhmmiigoaaW.PrintLast Go.Proofs.YtdhkcnhmmiigoaaW.PrintMore
attribute [local go_sem] max2_int min2_int max_two min_two max_three min_three max_four min_four   -- for this text's walks alone
set_option linter.unusedVariables false
set_option linter.unusedSimpArgs false

def laws_FnExactSetMisses.PureQ : Prop := ∀ (l0_0 : List Int) (a1 : Int) (l2 : List Int), l0_0.length ≤ 9223372036854775807 → (Lit.int .i64 a1).wf = true → l2.length ≤ 9223372036854775807 → ∃ k, laws_FnExactSetMisses.f k l0_0 a1 l2 = some true
end Go.Proofs.Ytdhkcnhmmiigoaa.Q
namespace Go.Proofs.Ytdhkcnhmmiigoaa.Pure
open Go.RowKit Go.Proofs.Ytdhkcnhmmiigoaa.Q Go.Proofs.YtdhkcnhmmiigoaaW.PrintWords
theorem bothSetMisses (l : List Int) (p : Int) (U : List Int) : ∃ r b, Ev (fun k => spec_SetMisses.f k l p U) (r, b) ∧ impl_SetMisses.f l p U = some (r, b) := by
  unfold spec_SetMisses.f impl_SetMisses.f impl_Index_setMisses.f
  rw [impl_isPlaced_f, Bool.and_assoc]
  cases hg : okRows l && (isIn 1 4 p && okUses U) with
  | false => exact ⟨0, false, Ev.ite_neg (by simp) (Ev.now _), by simp⟩
  | true =>
    obtain ⟨h1, h2⟩ := Bool.and_eq_true_iff.1 hg
    obtain ⟨_, h3⟩ := Bool.and_eq_true_iff.1 h2
    obtain ⟨hr, hl⟩ := (okRows_iff l).1 h1
    obtain ⟨hU, hul⟩ := (okUses_iff U).1 h3
    exact ⟨(misN l p U U.length : Int), true, Ev.ite_pos rfl (Ev.bind (ev_l06Misses l p U hul hl hr hU) (Ev.now _)), by simp [h1, h3]⟩
theorem FnExactSetMisses : laws_FnExactSetMisses.PureQ := by
  intro l0_0 a1 l2
  intros
  rename_i hl0 ha1 hl2
  refine Ev.rounds (g := fun k => laws_FnExactSetMisses.f k l0_0 a1 l2) ?_
  unfold laws_FnExactSetMisses.f
  by_cases c2 : (l2.length : Int) > 1048576
  · exact Ev.ite_pos c2 (Ev.now _)
  refine Ev.ite_neg c2 (ev_index_guard l0_0 hl0 fun hs => ?_)
  obtain ⟨r, b, es, ei⟩ := bothSetMisses l0_0 a1 l2
  have etx := ev_toIndex l0_0 (by omega)
  have eqx := ev_eqIndex_same l0_0 (by omega)
  have etu := ev_toInt64S l2 (by omega)
  have equ := ev_eqInt64S_same l2 (by omega)
  repeat' first
    | exact Ev.now _
    | (with_reducible refine Ev.bind es ?_)
    | (with_reducible refine Ev.cbind ei ?_)
    | (with_reducible refine Ev.bind etx ?_)
    | (with_reducible refine Ev.bind eqx ?_)
    | (with_reducible refine Ev.bind etu ?_)
    | (with_reducible refine Ev.bind equ ?_)
    | (with_reducible refine Ev.ite_pos (by first | rfl | omega | (dsimp only; omega)) ?_)
    | (with_reducible refine Ev.ite_neg (by first | omega | (dsimp only; omega) | (simp; done) | (simp; omega)) ?_)
    | (apply Ev.succ; simp only [laws_FnExactSetMisses.j0])
end Go.Proofs.Ytdhkcnhmmiigoaa.Pure
