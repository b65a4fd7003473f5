/- The plain law of FnExactPolicyText: what it computes answers true; no conditions. -/
import Derived.Test.YthaipkhgemachaaQx0
import Derived.Test.YthaipkhgemachaaQx2
import Derived.Test.YthaipkhgemachaaSbase
import Derived.Test.YthaipkhgemachaaSl03Text
import Derived.Test.YthaipkhgemachaaSsortl
import Derived.Test.YthaipkhgemachaaSpolsz
import Derived.Test.YthaipkhgemachaaSpoltext
namespace Go.Proofs.Ythaipkhgemachaa.Q
open Go.RowKit Go.Proofs.YthaipkhgemachaaW.PrintWords Go.Proofs.YthaipkhgemachaaW.PrintLast Go.Proofs.YthaipkhgemachaaW.PrintMore
attribute [local go_sem] max2_int min2_int max_two min_two max_three min_three max_four min_four   -- for this text's walks alone
set_option linter.unusedVariables false
set_option linter.unusedSimpArgs false

def laws_FnExactPolicyText.PureQ : Prop := ∀ (l0_0 : List (List Int)) (l0_1 : List Int), l0_0.length ≤ 9223372036854775807 → (∀ y ∈ l0_0, y.length ≤ 9223372036854775807) → l0_1.length ≤ 9223372036854775807 → ∃ k, laws_FnExactPolicyText.f k l0_0 l0_1 = some true
end Go.Proofs.Ythaipkhgemachaa.Q
namespace Go.Proofs.Ythaipkhgemachaa.Pure
open Go.RowKit Go.Proofs.Ythaipkhgemachaa.Q Go.Proofs.YthaipkhgemachaaW.PrintWords
theorem FnExactPolicyText : laws_FnExactPolicyText.PureQ := by
  intro H M hH hin hM
  refine Ev.rounds (g := fun k => laws_FnExactPolicyText.f k H M) ?_
  unfold laws_FnExactPolicyText.f
  obtain ⟨t, et, ht, hs⟩ := ev_szPolicy H M 1048576 (by omega) (by omega) hH hin hM
  by_cases h0 : t < 0
  · exact Ev.bind et (Ev.ite_pos h0 (Ev.now _))
  obtain ⟨h1, h2, h3⟩ := hs (by omega)
  have eto := ev_toPolicy H M h1 h2 h3
  have eeq := ev_eqPolicy_same H M h1 h2 h3
  have fin : Ev (fun k => laws_FnExactPolicyText.j0 k false H M H M) true := by
    apply Ev.succ
    simp only [laws_FnExactPolicyText.j0]
    exact Ev.ite_neg (by simp) (Ev.bind eto (Ev.bind eeq (Ev.ite_pos rfl (Ev.now _))))
  refine Ev.bind et (Ev.ite_neg h0 (Ev.bind eto (Ev.cbind (spec_PolicyText_f H M (shortPol_of H M h2 h3)) (Ev.bind eto (Ev.bind (ev_PolicyText H M) (Ev.ite_pos rfl ?_))))))
  rw [show ((if okPol H M = true then (polTxt H M, true) else ((⟨#[]⟩ : ByteArray), false)).2 != (if okPol H M = true then (polTxt H M, true) else ((⟨#[]⟩ : ByteArray), false)).2) = false by simp]
  exact fin
end Go.Proofs.Ythaipkhgemachaa.Pure
