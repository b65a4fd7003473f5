/- The plain law of FnExactSpanOf: what it computes answers true; no conditions. -/
import Derived.Test.YtdhkcnhmmiigoaaQx0
import Derived.Test.YtdhkcnhmmiigoaaHsetOf
import Derived.Test.YtdhkcnhmmiigoaaHspecSpanOf
import Derived.Test.YtdhkcnhmmiigoaaQx17
import Derived.Test.YtdhkcnhmmiigoaaQx18
import Derived.Test.YtdhkcnhmmiigoaaSbase
import Derived.Test.YtdhkcnhmmiigoaaSindex
import Derived.Test.YtdhkcnhmmiigoaaSl06Is
import Derived.Test.YtdhkcnhmmiigoaaSmarkindex
import Derived.Test.YtdhkcnhmmiigoaaSmarks
import Derived.Test.YtdhkcnhmmiigoaaSsetl
import Derived.Test.YtdhkcnhmmiigoaaSspan
import Derived.Test.YtdhkcnhmmiigoaaSvalidindex
import Derived.Test.YtdhkcnhmmiigoaaSwords
namespace Go.Proofs.Ytdhkcnhmmiigoaa.Q
open Go.RowKit Go.Proofs.YtdhkcnhmmiigoaaW.PrintWords Go.Proofs.YtdhkcnhmmiigoaaW.PrintLast Go.Proofs.YtdhkcnhmmiigoaaW.PrintMore
attribute [local go_sem] max2_int min2_int max_two min_two max_three min_three max_four min_four   -- for this text's walks alone
set_option linter.unusedVariables false
set_option linter.unusedSimpArgs false

def laws_FnExactSpanOf.PureQ : Prop := ∀ (l0_0 : List Int), l0_0.length ≤ 9223372036854775807 → ∃ k, laws_FnExactSpanOf.f k l0_0 = some true
end Go.Proofs.Ytdhkcnhmmiigoaa.Q
namespace Go.Proofs.Ytdhkcnhmmiigoaa.Pure
open Go.RowKit Go.Proofs.Ytdhkcnhmmiigoaa.Q Go.Proofs.YtdhkcnhmmiigoaaW.PrintWords
theorem bothSpanOf (l : List Int) (_ : l.length ≤ 1048576) : ∃ r b, r.length ≤ 1048576 ∧ Ev (fun k => spec_SpanOf.f k l) (r, b) ∧ Ev (fun k => impl_SpanOf.f k l) (r, b) := by
  unfold spec_SpanOf.f impl_SpanOf.f
  cases ho : okRows l with
  | false => exact ⟨[], false, by simp, Ev.ite_neg (by simp) (Ev.now _), Ev.cbind (impl_ValidIndex_f l) (by rw [ho]; exact Ev.ite_neg (by simp) (Ev.now _))⟩
  | true =>
    obtain ⟨hr, hl⟩ := (okRows_iff l).1 ho
    have h8 : 2 ^ l.length ≤ 2 ^ 3 := Nat.pow_le_pow_right (by decide) hl
    have hlen := spI_length l l.length
    have hle := setL_length_le (spI l l.length)
    refine ⟨setL (spI l l.length), true, by omega, Ev.ite_pos rfl (Ev.bind (Ev.eq (ev_spec_span l hl hr) (setL_congr (fun x => (sp_mem l l.length x).symm))) (Ev.now _)), Ev.cbind (impl_ValidIndex_f l) (by rw [ho]; exact Ev.ite_pos rfl (Ev.bind (ev_impl_span l hl hr) (Ev.now _)))⟩
theorem FnExactSpanOf : laws_FnExactSpanOf.PureQ := by
  intro l0_0 hl0_0
  intros
  refine Ev.rounds (g := fun k => laws_FnExactSpanOf.f k l0_0) ?_
  unfold laws_FnExactSpanOf.f
  refine ev_index_guard l0_0 hl0_0 fun hs => ?_
  obtain ⟨r, b, hr, es, ei⟩ := bothSpanOf l0_0 (by omega)
  have etx := ev_toIndex l0_0 (by omega)
  have eqx := ev_eqIndex_same l0_0 (by omega)
  have emx := ev_markIndex l0_0 1 (by omega) (by omega) (by omega)
  have eqr := ev_eqInt64S_same r (by omega)
  have emr := ev_markInt64S r 1 (by omega) (by omega) (by omega)
  have ehr := ev_heldInt64S 1 r.length (by omega) (by omega) (by omega)
  repeat' first
    | exact Ev.now _
    | (with_reducible refine Ev.bind es ?_)
    | (with_reducible refine Ev.bind ei ?_)
    | (with_reducible refine Ev.bind etx ?_)
    | (with_reducible refine Ev.bind eqx ?_)
    | (with_reducible refine Ev.bind emx ?_)
    | (with_reducible refine Ev.bind eqr ?_)
    | (with_reducible refine Ev.bind emr ?_)
    | (with_reducible refine Ev.bind ehr ?_)
    | (with_reducible refine Ev.ite_pos (by first | rfl | omega | (dsimp only; omega)) ?_)
    | (with_reducible refine Ev.ite_neg (by first | omega | (dsimp only; omega) | (simp; done) | (simp; omega)) ?_)
    | (apply Ev.succ; simp only [laws_FnExactSpanOf.j0, laws_FnExactSpanOf.j1, laws_FnExactSpanOf.j2])
end Go.Proofs.Ytdhkcnhmmiigoaa.Pure
