/- The plain law of FnExactValidCache: what it computes answers true; no conditions. -/
import Derived.Test.YthaipkhgemachaaQx0
import Derived.Test.YthaipkhgemachaaHspecValidCache
import Derived.Test.YthaipkhgemachaaQx1
import Derived.Test.YthaipkhgemachaaQx2
import Derived.Test.YthaipkhgemachaaSbase
import Derived.Test.YthaipkhgemachaaSokpolicy
import Derived.Test.YthaipkhgemachaaSpolsz
namespace Go.Proofs.Ythaipkhgemachaa.Q
open Go.RowKit Go.Proofs.YthaipkhgemachaaW.PrintWords Go.Proofs.YthaipkhgemachaaW.PrintLast Go.Proofs.YthaipkhgemachaaW.PrintMore
attribute [local go_sem] max2_int min2_int max_two min_two max_three min_three max_four min_four   -- for this text's walks alone
set_option linter.unusedVariables false
set_option linter.unusedSimpArgs false

def laws_FnExactValidCache.PureQ : Prop := ∀ (l0_0 : List (List Int)) (l0_1 : List Int) (a0_2 : Bool) (a0_3 : Bool), l0_0.length ≤ 9223372036854775807 → (∀ y ∈ l0_0, y.length ≤ 9223372036854775807) → l0_1.length ≤ 9223372036854775807 → ∃ k, laws_FnExactValidCache.f k l0_0 l0_1 a0_2 a0_3 = some true
end Go.Proofs.Ythaipkhgemachaa.Q
namespace Go.Proofs.Ythaipkhgemachaa.Pure
open Go.RowKit Go.Proofs.Ythaipkhgemachaa.Q Go.Proofs.YthaipkhgemachaaW.PrintWords
theorem FnExactValidCache : laws_FnExactValidCache.PureQ := by
  intro H M b c hH hin hM
  refine Ev.rounds (g := fun k => laws_FnExactValidCache.f k H M b c) ?_
  unfold laws_FnExactValidCache.f
  obtain ⟨t, et, ht, hs⟩ := ev_szPolicy H M 1048576 (by omega) (by omega) hH hin hM
  by_cases h0 : t < 0
  · have esz : Ev (fun k => laws_szCache.f k H M b c 1048576) (-1) := by unfold laws_szCache.f; exact Ev.bind et (Ev.ite_pos h0 (Ev.now _))
    exact Ev.bind esz (Ev.ite_pos (by omega) (Ev.now _))
  have esz : Ev (fun k => laws_szCache.f k H M b c 1048576) t := by unfold laws_szCache.f; exact Ev.bind et (Ev.ite_neg h0 (Ev.now _))
  obtain ⟨h1, h2, h3⟩ := hs (by omega)
  have eto : Ev (fun k => laws_toCache.f k H M b c) (H, M, b, c) := by unfold laws_toCache.f; exact Ev.bind (ev_toPolicy H M h1 h2 h3) (Ev.now _)
  have esp : spec_ValidCache.f H M b c = some (okPol H M) := by unfold spec_ValidCache.f; rw [if_pos (shortPol_of H M h2 h3)]
  have eim : impl_ValidCache.f H M b c = some (okPol H M) := rfl
  have eeq : Ev (fun k => laws_eqCache.f k H M b c H M b c) true := by
    unfold laws_eqCache.f
    exact Ev.bind (ev_eqPolicy_same H M h1 h2 h3) (Ev.ite_pos rfl (Ev.ite_neg (by simp) (Ev.ite_neg (by simp) (Ev.now _))))
  exact Ev.bind esz (Ev.ite_neg h0 (Ev.bind eto (Ev.cbind esp (Ev.bind eto (Ev.cbind eim (Ev.ite_neg (by simp) (Ev.bind eto (Ev.bind eeq (Ev.ite_pos rfl (Ev.now _))))))))))
end Go.Proofs.Ythaipkhgemachaa.Pure
