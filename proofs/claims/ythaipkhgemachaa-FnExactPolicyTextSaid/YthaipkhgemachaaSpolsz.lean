/- What the laws' helpers come to at a policy; no conditions beyond those written. -/
import Derived.Test.YthaipkhgemachaaQx0
import Derived.Test.YthaipkhgemachaaQx1
import Derived.Test.YthaipkhgemachaaQx2
import Derived.Test.YthaipkhgemachaaSbase
import Derived.Test.YthaipkhgemachaaSl03Is
import Derived.Test.YthaipkhgemachaaSnested
import Derived.Test.YthaipkhgemachaaSwords
namespace Go.Proofs.Ythaipkhgemachaa.Q
open Go.RowKit Go.Proofs.YthaipkhgemachaaW.PrintWords Go.Proofs.YthaipkhgemachaaW.PrintLast Go.Proofs.YthaipkhgemachaaW.PrintMore
attribute [local go_sem] max2_int min2_int max_two min_two max_three min_three max_four min_four   -- for this text's walks alone
set_option linter.unusedVariables false
set_option linter.unusedSimpArgs false

theorem ev_szPolicy (H : List (List Int)) (M : List Int) (m : Int) (h0 : 0 ≤ m) (h1 : m ≤ 1048576) (hH : H.length ≤ 9223372036854775807) (hin : ∀ y ∈ H, y.length ≤ 9223372036854775807) (hM : M.length ≤ 9223372036854775807) :
    ∃ t, Ev (fun k => laws_szPolicy.f k H M m) t ∧ t ≤ 1048576 ∧ (0 ≤ t → H.length ≤ 1048576 ∧ (∀ y ∈ H, y.length ≤ 1048576) ∧ M.length ≤ 1048576) := by
  unfold laws_szPolicy.f laws_szInt64SS.f
  rw [wrap64_id (by omega) (by omega)]
  by_cases hc : (H.length : Int) ≤ m
  · obtain ⟨t, ht, htm, hall⟩ := ev_sz_rows H (by omega) hin H.length 0 (m - (H.length : Int)) (by omega) (by omega) (by omega)
    by_cases ht0 : t < 0
    · exact ⟨-1, Ev.bind (Ev.ite_neg (by omega) ht) (Ev.ite_pos ht0 (Ev.now _)), by omega, fun q => by omega⟩
    · have hs := szInt64S_at M t (by omega) (by omega) hM
      by_cases hl : (M.length : Int) ≤ t
      · rw [if_pos hl] at hs
        exact ⟨t - (M.length : Int), Ev.bind (Ev.ite_neg (by omega) ht) (Ev.ite_neg ht0 (Ev.cbind hs (Ev.ite_neg (by omega) (Ev.now _)))), by omega, fun _ => ⟨by omega, fun y hy => by obtain ⟨j, hj, rfl⟩ := List.getElem_of_mem hy; exact hall (by omega) j hj (by omega), by omega⟩⟩
      · rw [if_neg hl] at hs
        exact ⟨-1, Ev.bind (Ev.ite_neg (by omega) ht) (Ev.ite_neg ht0 (Ev.cbind hs (Ev.ite_pos (by omega) (Ev.now _)))), by omega, fun q => by omega⟩
  · exact ⟨-1, Ev.bind (Ev.ite_pos (by omega) (Ev.now _)) (Ev.ite_pos (by omega) (Ev.now _)), by omega, fun q => by omega⟩
theorem ev_toPolicy (H : List (List Int)) (M : List Int) (hH : H.length ≤ 1048576) (hin : ∀ y ∈ H, y.length ≤ 1048576) (hM : M.length ≤ 1048576) : Ev (fun k => laws_toPolicy.f k H M) (H, M) := by
  unfold laws_toPolicy.f
  exact Ev.bind (ev_toInt64SS H hH hin) (Ev.bind (ev_toInt64S M (by omega)) (Ev.now _))
theorem ev_eqPolicy_same (H : List (List Int)) (M : List Int) (hH : H.length ≤ 1048576) (hin : ∀ y ∈ H, y.length ≤ 1048576) (hM : M.length ≤ 1048576) : Ev (fun k => laws_eqPolicy.f k H M H M) true := by
  unfold laws_eqPolicy.f
  exact Ev.bind (ev_eqInt64SS_same H hH hin) (Ev.ite_pos rfl (Ev.bind (ev_eqInt64S_same M (by omega)) (Ev.ite_pos rfl (Ev.now _))))
theorem shortPol_of (H : List (List Int)) (M : List Int) (hin : ∀ y ∈ H, y.length ≤ 1048576) (hM : M.length ≤ 1048576) : shortPol H M = true := by
  unfold shortPol
  rw [Bool.and_eq_true]
  exact ⟨decide_eq_true (by omega), List.all_eq_true.2 fun y hy => decide_eq_true (by have := hin y hy; omega)⟩
end Go.Proofs.Ythaipkhgemachaa.Q
