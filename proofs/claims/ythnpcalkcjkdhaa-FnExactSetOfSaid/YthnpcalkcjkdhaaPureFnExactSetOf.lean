/- The plain law of FnExactSetOf: what it computes answers true; no conditions. -/
import Derived.Test.YthnpcalkcjkdhaaQx0
import Derived.Test.YthnpcalkcjkdhaaHspecSetOf
import Derived.Test.YthnpcalkcjkdhaaQx9
import Derived.Test.YthnpcalkcjkdhaaSbase
import Derived.Test.YthnpcalkcjkdhaaSindex
import Derived.Test.YthnpcalkcjkdhaaSl06Is
import Derived.Test.YthnpcalkcjkdhaaSsets
namespace Go.Proofs.Ythnpcalkcjkdhaa.Q
open Go.RowKit Go.Proofs.YthnpcalkcjkdhaaW.PrintWords Go.Proofs.YthnpcalkcjkdhaaW.PrintLast Go.Proofs.YthnpcalkcjkdhaaW.PrintMore
attribute [local go_sem] max2_int min2_int max_two min_two max_three min_three max_four min_four   -- for this text's walks alone
set_option linter.unusedVariables false
set_option linter.unusedSimpArgs false

def laws_FnExactSetOf.PureQ : Prop := ∀ (l0_0 : List Int) (a1 : Int), l0_0.length ≤ 9223372036854775807 → (Lit.int .i64 a1).wf = true → ∃ k, laws_FnExactSetOf.f k l0_0 a1 = some true
end Go.Proofs.Ythnpcalkcjkdhaa.Q
namespace Go.Proofs.Ythnpcalkcjkdhaa.Pure
open Go.RowKit Go.Proofs.Ythnpcalkcjkdhaa.Q Go.Proofs.YthnpcalkcjkdhaaW.PrintWords
theorem setOf_both (l : List Int) (a : Int) : ∃ r b, Ev (fun k => spec_SetOf.f k l a) (r, b) ∧ Ev (fun k => impl_SetOf.f k l a) (r, b) := by
  unfold spec_SetOf.f impl_SetOf.f
  cases ho : okRows l with
  | false => exact ⟨0, false, Ev.ite_neg (by simp) (Ev.now _), Ev.cbind (impl_ValidIndex_f l) (by rw [ho]; exact Ev.ite_neg (by simp) (Ev.now _))⟩
  | true =>
    cases ha : okAddr a with
    | false => exact ⟨0, false, Ev.ite_neg (by simp) (Ev.now _), Ev.cbind (impl_ValidIndex_f l) (by rw [ho]; exact Ev.ite_pos rfl (Ev.cbind (impl_isAddress_f a) (by rw [ha]; exact Ev.ite_neg (by simp) (Ev.now _))))⟩
    | true =>
      obtain ⟨hr, hl⟩ := (okRows_iff l).1 ho
      obtain ⟨h0, h1⟩ := (okAddr_iff a).1 ha
      exact ⟨setVal l a, true, Ev.ite_pos rfl (Ev.bind (ev_l06Set l a hl hr h0 h1) (Ev.now _)), Ev.cbind (impl_ValidIndex_f l) (by rw [ho]; exact Ev.ite_pos rfl (Ev.cbind (impl_isAddress_f a) (by rw [ha]; exact Ev.ite_pos rfl (Ev.bind (ev_Index_set l a hl hr h0 h1) (Ev.now _)))))⟩
theorem FnExactSetOf : laws_FnExactSetOf.PureQ := by
  intro l a hl _
  refine Ev.rounds (g := fun k => laws_FnExactSetOf.f k l a) ?_
  unfold laws_FnExactSetOf.f
  refine ev_index_guard l hl fun hs => ?_
  have hb : l.length ≤ 35184372088832 := by omega
  obtain ⟨r, b, es, ei⟩ := setOf_both l a
  refine Ev.bind (ev_toIndex l hb) (Ev.bind es (Ev.bind (ev_toIndex l hb) (Ev.bind ei (Ev.ite_pos rfl ?_))))
  apply Ev.succ
  simp only [laws_FnExactSetOf.j0]
  exact Ev.ite_neg (by simp) (Ev.bind (ev_toIndex l hb) (Ev.bind (ev_eqIndex_same l hb) (Ev.ite_pos rfl (Ev.now _))))
end Go.Proofs.Ythnpcalkcjkdhaa.Pure
