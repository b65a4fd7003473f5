/- The plain law of FnExactKernelOf: what it computes answers true; no conditions. -/
import Derived.Test.YthnpcalkcjkdhaaQx0
import Derived.Test.YthnpcalkcjkdhaaHspecKernelOf
import Derived.Test.YthnpcalkcjkdhaaQx24
import Derived.Test.YthnpcalkcjkdhaaQx25
import Derived.Test.YthnpcalkcjkdhaaSbase
import Derived.Test.YthnpcalkcjkdhaaSindex
import Derived.Test.YthnpcalkcjkdhaaSl06Is
import Derived.Test.YthnpcalkcjkdhaaSmarkindex
import Derived.Test.YthnpcalkcjkdhaaSmembers
import Derived.Test.YthnpcalkcjkdhaaSsets
import Derived.Test.YthnpcalkcjkdhaaSwords
namespace Go.Proofs.Ythnpcalkcjkdhaa.Q
open Go.RowKit Go.Proofs.YthnpcalkcjkdhaaW.PrintWords Go.Proofs.YthnpcalkcjkdhaaW.PrintLast Go.Proofs.YthnpcalkcjkdhaaW.PrintMore
attribute [local go_sem] max2_int min2_int max_two min_two max_three min_three max_four min_four   -- for this text's walks alone
set_option linter.unusedVariables false
set_option linter.unusedSimpArgs false

def laws_FnExactKernelOf.PureQ : Prop := ∀ (l0_0 : List Int), l0_0.length ≤ 9223372036854775807 → ∃ k, laws_FnExactKernelOf.f k l0_0 = some true
end Go.Proofs.Ythnpcalkcjkdhaa.Q
namespace Go.Proofs.Ythnpcalkcjkdhaa.Pure
open Go.RowKit Go.Proofs.Ythnpcalkcjkdhaa.Q Go.Proofs.YthnpcalkcjkdhaaW.PrintWords
theorem bothKernelOf (l : List Int) (_ : l.length ≤ 1048576) : ∃ r b, r.length ≤ 1048576 ∧ Ev (fun k => spec_KernelOf.f k l) (r, b) ∧ Ev (fun _ => impl_KernelOf.f l) (r, b) := by
  unfold spec_KernelOf.f impl_KernelOf.f
  cases ho : okRows l with
  | false => exact ⟨[], false, by simp, Ev.ite_neg (by simp) (Ev.now _), Ev.cbind (impl_ValidIndex_f l) (by rw [ho]; exact Ev.ite_neg (by simp) (Ev.now _))⟩
  | true =>
    obtain ⟨hr, hl⟩ := (okRows_iff l).1 ho
    exact ⟨membersTo l 0 64, true, Nat.le_trans (membersTo_length l 0 64) (by omega), Ev.ite_pos rfl (Ev.bind (ev_l06Members l 0 hl hr (by omega) (by omega)) (Ev.now _)), Ev.cbind (impl_ValidIndex_f l) (by rw [ho]; exact Ev.ite_pos rfl (Ev.cbind (kernel_f l ho) (Ev.now _)))⟩
theorem FnExactKernelOf : laws_FnExactKernelOf.PureQ := by
  intro l0_0 hl0_0
  intros
  refine Ev.rounds (g := fun k => laws_FnExactKernelOf.f k l0_0) ?_
  unfold laws_FnExactKernelOf.f
  refine ev_index_guard l0_0 hl0_0 fun hs => ?_
  obtain ⟨r, b, hr, es, ei⟩ := bothKernelOf l0_0 (by omega)
  have etx := ev_toIndex l0_0 (by omega)
  have eqx := ev_eqIndex_same l0_0 (by omega)
  have emx := ev_markIndex l0_0 1 (by omega) (by omega) (by omega)
  have eqr := ev_eqInt64S_same r (by omega)
  have emr := ev_markInt64S r 1 (by omega) (by omega) (by omega)
  have ehr := ev_heldInt64S 1 r.length (by omega) (by omega) (by omega)
  repeat' first
    | exact Ev.now _
    | (with_reducible refine Ev.bind es ?_)
    | (with_reducible refine Ev.bind ei ?_)
    | (with_reducible refine Ev.bind etx ?_)
    | (with_reducible refine Ev.bind eqx ?_)
    | (with_reducible refine Ev.bind emx ?_)
    | (with_reducible refine Ev.bind eqr ?_)
    | (with_reducible refine Ev.bind emr ?_)
    | (with_reducible refine Ev.bind ehr ?_)
    | (with_reducible refine Ev.ite_pos (by first | rfl | omega | (dsimp only; omega)) ?_)
    | (with_reducible refine Ev.ite_neg (by first | omega | (dsimp only; omega) | (simp; done) | (simp; omega)) ?_)
    | (apply Ev.succ; simp only [laws_FnExactKernelOf.j0, laws_FnExactKernelOf.j1, laws_FnExactKernelOf.j2])
end Go.Proofs.Ythnpcalkcjkdhaa.Pure
