/- The plain law of FnExactRankOf: what it computes answers true; no conditions. -/
import Derived.Test.YtdhkcnhmmiigoaaQx0
import Derived.Test.YtdhkcnhmmiigoaaHrankOf
import Derived.Test.YtdhkcnhmmiigoaaHspecRankOf
import Derived.Test.YtdhkcnhmmiigoaaQx8
import Derived.Test.YtdhkcnhmmiigoaaSbase
import Derived.Test.YtdhkcnhmmiigoaaSindex
import Derived.Test.YtdhkcnhmmiigoaaSl06Is
import Derived.Test.YtdhkcnhmmiigoaaSrank
import Derived.Test.YtdhkcnhmmiigoaaSred
namespace Go.Proofs.Ytdhkcnhmmiigoaa.Q
open Go.RowKit Go.Proofs.YtdhkcnhmmiigoaaW.PrintWords Go.Proofs.YtdhkcnhmmiigoaaW.PrintLast Go.Proofs.YtdhkcnhmmiigoaaW.PrintMore
attribute [local go_sem] max2_int min2_int max_two min_two max_three min_three max_four min_four   -- for this text's walks alone
set_option linter.unusedVariables false
set_option linter.unusedSimpArgs false

def laws_FnExactRankOf.PureQ : Prop := ∀ (l0_0 : List Int), l0_0.length ≤ 9223372036854775807 → ∃ k, laws_FnExactRankOf.f k l0_0 = some true
end Go.Proofs.Ytdhkcnhmmiigoaa.Q
namespace Go.Proofs.Ytdhkcnhmmiigoaa.Pure
open Go.RowKit Go.Proofs.Ytdhkcnhmmiigoaa.Q Go.Proofs.YtdhkcnhmmiigoaaW.PrintWords
theorem bothRankOf (l : List Int) (_ : l.length ≤ 1048576) : ∃ r b, Ev (fun k => spec_RankOf.f k l) (r, b) ∧ impl_RankOf.f l = some (r, b) := by
  unfold spec_RankOf.f impl_RankOf.f
  cases ho : okRows l with
  | false => exact ⟨0, false, Ev.ite_neg (by simp) (Ev.now _), by simp⟩
  | true =>
    obtain ⟨hr, hl⟩ := (okRows_iff l).1 ho
    exact ⟨((redN (l.map Int.toNat)).length : Int), true, Ev.ite_pos rfl (Ev.bind (ev_l06Rank l hl hr) (Ev.now _)), by simp⟩
theorem FnExactRankOf : laws_FnExactRankOf.PureQ := by
  intro l0_0 hl0_0
  refine Ev.rounds (g := fun k => laws_FnExactRankOf.f k l0_0) ?_
  unfold laws_FnExactRankOf.f
  refine ev_index_guard l0_0 hl0_0 fun hs => ?_
  obtain ⟨r, b, es, ei⟩ := bothRankOf l0_0 (by omega)
  have etx := ev_toIndex l0_0 (by omega)
  have eqx := ev_eqIndex_same l0_0 (by omega)
  repeat' first
    | exact Ev.now _
    | (with_reducible refine Ev.bind es ?_)
    | (with_reducible refine Ev.cbind ei ?_)
    | (with_reducible refine Ev.bind etx ?_)
    | (with_reducible refine Ev.bind eqx ?_)
    | (with_reducible refine Ev.ite_pos (by first | rfl | omega | (dsimp only; omega)) ?_)
    | (with_reducible refine Ev.ite_neg (by first | omega | (dsimp only; omega) | (simp; done) | (simp; omega)) ?_)
    | (apply Ev.succ; simp only [laws_FnExactRankOf.j0])
end Go.Proofs.Ytdhkcnhmmiigoaa.Pure
