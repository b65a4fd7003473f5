/- The plain law of FnExactIndexText: what it computes answers true; no conditions. -/
import Derived.Test.YthnpcalkcjkdhaaQx0
import Derived.Test.YthnpcalkcjkdhaaHspecIndexText
import Derived.Test.YthnpcalkcjkdhaaQx1
import Derived.Test.YthnpcalkcjkdhaaQx2
import Derived.Test.YthnpcalkcjkdhaaSbase
import Derived.Test.YthnpcalkcjkdhaaSidxtext
import Derived.Test.YthnpcalkcjkdhaaSindex
import Derived.Test.YthnpcalkcjkdhaaSl06Text
import Derived.Test.YthnpcalkcjkdhaaSokrows
import Derived.Test.YthnpcalkcjkdhaaSvalidindex
namespace Go.Proofs.Ythnpcalkcjkdhaa.Q
open Go.RowKit Go.Proofs.YthnpcalkcjkdhaaW.PrintWords Go.Proofs.YthnpcalkcjkdhaaW.PrintLast Go.Proofs.YthnpcalkcjkdhaaW.PrintMore
attribute [local go_sem] max2_int min2_int max_two min_two max_three min_three max_four min_four   -- for this text's walks alone
set_option linter.unusedVariables false
set_option linter.unusedSimpArgs false

def laws_FnExactIndexText.PureQ : Prop := ∀ (l0_0 : List Int), l0_0.length ≤ 9223372036854775807 → ∃ k, laws_FnExactIndexText.f k l0_0 = some true
end Go.Proofs.Ythnpcalkcjkdhaa.Q
namespace Go.Proofs.Ythnpcalkcjkdhaa.Pure
open Go.RowKit Go.Proofs.Ythnpcalkcjkdhaa.Q Go.Proofs.YthnpcalkcjkdhaaW.PrintWords
theorem FnExactIndexText : laws_FnExactIndexText.PureQ := by
  intro l0_0 hl0_0
  refine Ev.rounds (g := fun k => laws_FnExactIndexText.f k l0_0) ?_
  unfold laws_FnExactIndexText.f
  refine ev_index_guard l0_0 hl0_0 fun hs => ?_
  have etx := ev_toIndex l0_0 (by omega)
  have eqx := ev_eqIndex_same l0_0 (by omega)
  have fin : Ev (fun k => laws_FnExactIndexText.j0 k false l0_0 l0_0) true := by
    apply Ev.succ
    simp only [laws_FnExactIndexText.j0]
    exact Ev.ite_neg (by simp) (Ev.bind etx (Ev.bind eqx (Ev.ite_pos rfl (Ev.now _))))
  cases ho : okRows l0_0 with
  | true =>
    have es : spec_IndexText.f l0_0 = some (txtTo l0_0 l0_0.length, true) := by unfold spec_IndexText.f; rw [if_pos ho]
    have ei : Ev (fun k => impl_IndexText.f k l0_0) (txtTo l0_0 l0_0.length, true) := by
      unfold impl_IndexText.f
      refine Ev.cbind (impl_ValidIndex_f l0_0) ?_
      rw [ho]
      exact Ev.ite_pos rfl (Ev.bind (ev_indexText l0_0 ho) (Ev.now _))
    exact Ev.bind etx (Ev.cbind es (Ev.bind etx (Ev.bind ei (Ev.ite_pos rfl fin))))
  | false =>
    have es : spec_IndexText.f l0_0 = some ((⟨#[]⟩ : ByteArray), false) := by unfold spec_IndexText.f; rw [if_neg (by simp [ho])]
    have ei : Ev (fun k => impl_IndexText.f k l0_0) ((⟨#[]⟩ : ByteArray), false) := by
      unfold impl_IndexText.f
      refine Ev.cbind (impl_ValidIndex_f l0_0) ?_
      rw [ho]
      exact Ev.ite_neg (by simp) (Ev.now _)
    exact Ev.bind etx (Ev.cbind es (Ev.bind etx (Ev.bind ei (Ev.ite_pos rfl fin))))
end Go.Proofs.Ythnpcalkcjkdhaa.Pure
