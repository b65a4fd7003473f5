/- The plain law of FnExactValidLevels: what it computes answers true; no conditions. -/
import Derived.Test.YthaipkhgemachaaQx0
import Derived.Test.YthaipkhgemachaaHspecValidLevels
import Derived.Test.YthaipkhgemachaaHvalidPolicy
import Derived.Test.YthaipkhgemachaaQx1
import Derived.Test.YthaipkhgemachaaQx2
import Derived.Test.YthaipkhgemachaaSbase
import Derived.Test.YthaipkhgemachaaSokpolicy
import Derived.Test.YthaipkhgemachaaSpolsz
namespace Go.Proofs.Ythaipkhgemachaa.Q
open Go.RowKit Go.Proofs.YthaipkhgemachaaW.PrintWords Go.Proofs.YthaipkhgemachaaW.PrintLast Go.Proofs.YthaipkhgemachaaW.PrintMore
attribute [local go_sem] max2_int min2_int max_two min_two max_three min_three max_four min_four   -- for this text's walks alone
set_option linter.unusedVariables false
set_option linter.unusedSimpArgs false

def laws_FnExactValidLevels.PureQ : Prop := ∀ (l0_0 : List (List Int)) (l0_1 : List Int) (l0_2 : List (List Int)) (l0_3 : List Int) (a0_4 : Int), l0_0.length ≤ 9223372036854775807 → (∀ y ∈ l0_0, y.length ≤ 9223372036854775807) → l0_1.length ≤ 9223372036854775807 → l0_2.length ≤ 9223372036854775807 → (∀ y ∈ l0_2, y.length ≤ 9223372036854775807) → l0_3.length ≤ 9223372036854775807 → (Lit.int .i64 a0_4).wf = true → ∃ k, laws_FnExactValidLevels.f k l0_0 l0_1 l0_2 l0_3 a0_4 = some true
end Go.Proofs.Ythaipkhgemachaa.Q
namespace Go.Proofs.Ythaipkhgemachaa.Pure
open Go.RowKit Go.Proofs.Ythaipkhgemachaa.Q Go.Proofs.YthaipkhgemachaaW.PrintWords
theorem FnExactValidLevels : laws_FnExactValidLevels.PureQ := by
  intro H M H2 M2 a hH hin hM hH2 hin2 hM2
  intros
  refine Ev.rounds (g := fun k => laws_FnExactValidLevels.f k H M H2 M2 a) ?_
  unfold laws_FnExactValidLevels.f
  obtain ⟨t, et, ht, hs⟩ := ev_szPolicy H M 1048576 (by omega) (by omega) hH hin hM
  by_cases h0 : t < 0
  · have esz : Ev (fun k => laws_szLevels.f k H M H2 M2 a 1048576) (-1) := by unfold laws_szLevels.f; exact Ev.bind et (Ev.ite_pos h0 (Ev.now _))
    exact Ev.bind esz (Ev.ite_pos (by omega) (Ev.now _))
  obtain ⟨t2, et2, ht2, hs2⟩ := ev_szPolicy H2 M2 t (by omega) ht hH2 hin2 hM2
  by_cases h02 : t2 < 0
  · have esz : Ev (fun k => laws_szLevels.f k H M H2 M2 a 1048576) (-1) := by unfold laws_szLevels.f; exact Ev.bind et (Ev.ite_neg h0 (Ev.bind et2 (Ev.ite_pos h02 (Ev.now _))))
    exact Ev.bind esz (Ev.ite_pos (by omega) (Ev.now _))
  have esz : Ev (fun k => laws_szLevels.f k H M H2 M2 a 1048576) t2 := by unfold laws_szLevels.f; exact Ev.bind et (Ev.ite_neg h0 (Ev.bind et2 (Ev.ite_neg h02 (Ev.now _))))
  obtain ⟨h1, h2, h3⟩ := hs (by omega)
  obtain ⟨k1, k2, k3⟩ := hs2 (by omega)
  have eto : Ev (fun k => laws_toLevels.f k H M H2 M2 a) (H, M, H2, M2, a) := by unfold laws_toLevels.f; exact Ev.bind (ev_toPolicy H M h1 h2 h3) (Ev.bind (ev_toPolicy H2 M2 k1 k2 k3) (Ev.now _))
  have esp : spec_ValidLevels.f H M H2 M2 a = some (okPol H M && (okPol H2 M2 && (decide (0 ≤ a) && decide (a ≤ 2)))) := by unfold spec_ValidLevels.f; rw [if_pos (by rw [shortPol_of H M h2 h3, shortPol_of H2 M2 k2 k3]; rfl)]
  have ein : impl_inRange.f a 0 2 = some (decide (0 ≤ a) && decide (a ≤ 2)) := by
    unfold impl_inRange.f
    by_cases h : 0 ≤ a <;> simp [h]
  have eim : impl_ValidLevels.f H M H2 M2 a = some (okPol H M && (okPol H2 M2 && (decide (0 ≤ a) && decide (a ≤ 2)))) := by
    unfold impl_ValidLevels.f
    rw [show impl_ValidPolicy.f H M = some (okPol H M) from rfl, show impl_ValidPolicy.f H2 M2 = some (okPol H2 M2) from rfl, ein]
    cases okPol H M <;> cases okPol H2 M2 <;> rfl
  have eeq : Ev (fun k => laws_eqLevels.f k H M H2 M2 a H M H2 M2 a) true := by
    unfold laws_eqLevels.f
    exact Ev.bind (ev_eqPolicy_same H M h1 h2 h3) (Ev.ite_pos rfl (Ev.bind (ev_eqPolicy_same H2 M2 k1 k2 k3) (Ev.ite_pos rfl (Ev.ite_pos rfl (Ev.now _)))))
  exact Ev.bind esz (Ev.ite_neg h02 (Ev.bind eto (Ev.cbind esp (Ev.bind eto (Ev.cbind eim (Ev.ite_neg (by simp) (Ev.bind eto (Ev.bind eeq (Ev.ite_pos rfl (Ev.now _))))))))))
end Go.Proofs.Ythaipkhgemachaa.Pure
