/- The plain law of FnExactReducedIndex: what it computes answers true; no conditions. -/
import Derived.Test.YtdhkcnhmmiigoaaQx0
import Derived.Test.YtdhkcnhmmiigoaaHreduced
import Derived.Test.YtdhkcnhmmiigoaaHspecReducedIndex
import Derived.Test.YtdhkcnhmmiigoaaQx8
import Derived.Test.YtdhkcnhmmiigoaaQx9
import Derived.Test.YtdhkcnhmmiigoaaSbase
import Derived.Test.YtdhkcnhmmiigoaaSheldindex
import Derived.Test.YtdhkcnhmmiigoaaSindex
import Derived.Test.YtdhkcnhmmiigoaaSl06Is
import Derived.Test.YtdhkcnhmmiigoaaSmarkindex
import Derived.Test.YtdhkcnhmmiigoaaSred
import Derived.Test.YtdhkcnhmmiigoaaSvalidindex
namespace Go.Proofs.Ytdhkcnhmmiigoaa.Q
open Go.RowKit Go.Proofs.YtdhkcnhmmiigoaaW.PrintWords Go.Proofs.YtdhkcnhmmiigoaaW.PrintLast Go.Proofs.YtdhkcnhmmiigoaaW.PrintMore
attribute [local go_sem] max2_int min2_int max_two min_two max_three min_three max_four min_four   -- for this text's walks alone
set_option linter.unusedVariables false
set_option linter.unusedSimpArgs false

def laws_FnExactReducedIndex.PureQ : Prop := ∀ (l0_0 : List Int), l0_0.length ≤ 9223372036854775807 → ∃ k, laws_FnExactReducedIndex.f k l0_0 = some true
end Go.Proofs.Ytdhkcnhmmiigoaa.Q
namespace Go.Proofs.Ytdhkcnhmmiigoaa.Pure
open Go.RowKit Go.Proofs.Ytdhkcnhmmiigoaa.Q Go.Proofs.YtdhkcnhmmiigoaaW.PrintWords
theorem bothReducedIndex (l : List Int) (_ : l.length ≤ 1048576) : ∃ r b, r.length ≤ 1048576 ∧ spec_ReducedIndex.f l = some (r, b) ∧ impl_ReducedIndex.f l = some (r, b) := by
  unfold spec_ReducedIndex.f impl_ReducedIndex.f impl_Index_reduced.f
  rw [impl_ValidIndex_f l]
  cases ho : okRows l with
  | false => exact ⟨[], false, by simp, by simp, by simp⟩
  | true =>
    obtain ⟨hr, hl⟩ := (okRows_iff l).1 ho
    have hlen := redN_len (l.map Int.toNat)
    rw [List.length_map] at hlen
    have hd := desc_length (redN (l.map Int.toNat))
    exact ⟨desc (redN (l.map Int.toNat)), true, by omega, by rw [(red_all l hl hr).1]; simp, by simp⟩
theorem FnExactReducedIndex : laws_FnExactReducedIndex.PureQ := by
  intro l0_0 hl0_0
  refine Ev.rounds (g := fun k => laws_FnExactReducedIndex.f k l0_0) ?_
  unfold laws_FnExactReducedIndex.f
  refine ev_index_guard l0_0 hl0_0 fun hs => ?_
  obtain ⟨r, b, hr, es, ei⟩ := bothReducedIndex l0_0 (by omega)
  have etx := ev_toIndex l0_0 (by omega)
  have eqx := ev_eqIndex_same l0_0 (by omega)
  have emx := ev_markIndex l0_0 1 (by omega) (by omega) (by omega)
  have eqr := ev_eqIndex_same r (by omega)
  have emr := ev_markIndex r 1 (by omega) (by omega) (by omega)
  have ehr := ev_heldIndex 1 r.length (by omega) (by omega) (by omega)
  repeat' first
    | exact Ev.now _
    | (with_reducible refine Ev.cbind es ?_)
    | (with_reducible refine Ev.cbind ei ?_)
    | (with_reducible refine Ev.bind etx ?_)
    | (with_reducible refine Ev.bind eqx ?_)
    | (with_reducible refine Ev.bind emx ?_)
    | (with_reducible refine Ev.bind eqr ?_)
    | (with_reducible refine Ev.bind emr ?_)
    | (with_reducible refine Ev.bind ehr ?_)
    | (with_reducible refine Ev.ite_pos (by first | rfl | omega | (dsimp only; omega)) ?_)
    | (with_reducible refine Ev.ite_neg (by first | omega | (dsimp only; omega) | (simp; done) | (simp; omega)) ?_)
    | (apply Ev.succ; simp only [laws_FnExactReducedIndex.j0, laws_FnExactReducedIndex.j1, laws_FnExactReducedIndex.j2])
end Go.Proofs.Ytdhkcnhmmiigoaa.Pure
