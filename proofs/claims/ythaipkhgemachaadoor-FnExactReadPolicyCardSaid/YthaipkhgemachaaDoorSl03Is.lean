/- spec.l03Is answers whether a policy, read through a pointer, is valid; its lists are short enough. -/
import Derived.Test.YthaipkhgemachaaDoorQx0
import Derived.Test.YthaipkhgemachaaDoorHl03Order
import Derived.Test.YthaipkhgemachaaDoorSbase
import Derived.Test.YthaipkhgemachaaDoorSsortl
namespace Go.Proofs.YthaipkhgemachaaDoor.Q
open Go.RowKit Go.Proofs.YthaipkhgemachaaDoorW.PrintWords Go.Proofs.YthaipkhgemachaaDoorW.PrintLast Go.Proofs.YthaipkhgemachaaDoorW.PrintMore
attribute [local go_sem] max2_int min2_int max_two min_two max_three min_three max_four min_four   -- for this text's walks alone
set_option linter.unusedVariables false
set_option linter.unusedSimpArgs false

def shortPol (H : List (List Int)) (M : List Int) : Bool := decide (M.length ≤ 1000000000) && H.all fun y => decide (y.length ≤ 1000000000)
theorem okPol_of_rows (H : List (List Int)) (M : List Int) (h16 : 1 ≤ M.length ∧ M.length ≤ 6) (hHM : H.length = M.length) (hM : okOrd M.length M = true) : okPol H M = H.all (okOrd M.length) := by
  unfold okPol
  rw [decide_eq_true (show 1 ≤ (M.length : Int) by omega), decide_eq_true (show (M.length : Int) ≤ 6 by omega), decide_eq_true (show (H.length : Int) = (M.length : Int) by omega), hM]
  simp
set_option maxHeartbeats 8000000 in
set_option maxRecDepth 100000 in
theorem spec_l03Is.calls (g o : Nat) (A0 : Option Addr) (c0 : Nat) (H : List (List Int)) (A1 : Option Addr) (c1 : Nat) (M : List Int) (w : World) (h0 : w.cell? ⟨g, o, none⟩ = some (.slice A0 H.length c0)) (h1 : w.cell? ⟨g, o + 1, none⟩ = some (.slice A1 M.length c1))
    (hrH : Kd.C (Kd.slice 2 (Kd.int .i64)) w A0 H.length H) (hcH : H.length ≤ c0) (hrM : Kd.C (Kd.int .i64) w A1 M.length M) (hcM : M.length ≤ c1) (hs : shortPol H M = true) :
    Calls Tryd.prog 21 #[.pointer (some ⟨g, o, none⟩)] w fun e w' => e = .returned (.bool (okPol H M)) ∧ Drawn0 w w' := by
  obtain ⟨hs1, hs2⟩ := Bool.and_eq_true_iff.1 hs
  have hsM := of_decide_eq_true hs1
  have hsH : ∀ y ∈ H, y.length ≤ 1000000000 := fun y hy => of_decide_eq_true (List.all_eq_true.1 hs2 y hy)
  have hu := Tryd.underlying25
  have HRH := Aside0.mk hrH
  have HRM := Aside0.mk hrM
  have HSH := Aside0.mk hsH
  have hmm : M.length ≤ 9223372036854775807 := hrM.2.1
  have hHm : H.length ≤ 9223372036854775807 := hrH.2.1
  clear hs hs1 hs2 hrH hrM hsH
  by_cases h16 : 1 ≤ M.length ∧ M.length ≤ 6
  case neg =>
    have HF := Aside0.mk (show okPol H M = false by
      unfold okPol
      by_cases hq : 1 ≤ (M.length : Int)
      · rw [decide_eq_false (show ¬ (M.length : Int) ≤ 6 by omega)]; simp
      · rw [decide_eq_false hq]; simp)
    by_cases hlo : (M.length : Int) < 1
    · clear h16
      go_enter Tryd.func21, Tryd.ntmps21
      go_wp2_with (fail)
      go_ret
      exact ⟨ret_bool HF.out.symm, Drawn0.refl _⟩
    · have hhi : (M.length : Int) > 6 := by omega
      clear h16
      go_enter Tryd.func21, Tryd.ntmps21
      go_wp2_with (fail)
      go_ret
      exact ⟨ret_bool HF.out.symm, Drawn0.refl _⟩
  have hlo : ¬ (M.length : Int) < 1 := by omega
  have hhi : ¬ (M.length : Int) > 6 := by omega
  by_cases hHM : H.length = M.length
  case neg =>
    have HF := Aside0.mk (show okPol H M = false by unfold okPol; rw [decide_eq_false (show ¬ (H.length : Int) = (M.length : Int) by omega)]; simp)
    have hbn : ((H.length : Int) != (M.length : Int)) = true := bne_iff_ne.mpr (by omega)
    have hbn2 : (H.length == M.length) = false := by rw [beq_eq_false_iff_ne]; exact hHM
    clear h16 hHM
    go_enter Tryd.func21, Tryd.ntmps21
    go_wp2_with (fail)
    go_ret
    exact ⟨ret_bool HF.out.symm, Drawn0.refl _⟩
  have hbn : ((H.length : Int) != (M.length : Int)) = false := bne_eq_false_iff_eq.mpr (by omega)
  have hbn2 : (H.length == M.length) = true := by rw [beq_iff_eq]; exact hHM
  have hord : spec_l03Order.f M (M.length : Int) = some (okOrd M.length M) := by
    unfold spec_l03Order.f
    rw [if_pos (by omega), if_pos hsM, Int.toNat_natCast]
  cases hM : okOrd M.length M with
  | false =>
    rw [hM] at hord
    have HORD := Aside0.mk hord
    have HF := Aside0.mk (show okPol H M = false by unfold okPol; rw [hM]; simp)
    clear h16 hHM hord hM
    go_enter Tryd.func21, Tryd.ntmps21
    go_wp2_with (go_at_call 33; with_reducible refine (spec_l03Order.calls A1 c1 M (M.length : Int) false _ HRM.out hcM HORD.out).mono ?_; rintro e w' ⟨rfl, ⟨nd, rfl⟩⟩)
    go_ret
    exact ⟨ret_bool HF.out.symm, ⟨_, rfl⟩⟩
  | true =>
    rw [hM] at hord
    have HORD := Aside0.mk hord
    have HP := Aside0.mk (okPol_of_rows H M h16 hHM hM)
    have HHM := Aside0.mk hHM
    have H16 := Aside0.mk h16
    obtain ⟨n, hn⟩ : ∃ n, n = M.length := ⟨_, rfl⟩
    have HN := Aside0.mk hn
    clear h16 hHM hord hM hn
    go_enter Tryd.func21, Tryd.ntmps21
    go_wp2_with (go_at_call 33; with_reducible refine (spec_l03Order.calls A1 c1 M (M.length : Int) true _ HRM.out hcM HORD.out).mono ?_; rintro e w' ⟨rfl, ⟨nd, rfl⟩⟩)
    go_loopg [4] M.length (fun gg s4 wr => ∃ kk nd2 : Nat, s4 = .int .i64 kk ∧ wr = w.drewN nd2 ∧ Aside0 (kk ≤ M.length ∧ M.length - kk ≤ gg) ∧ Aside0 (∀ i : Nat, i < kk → okOrd M.length (rd_L1 H (i : Int)) = true))
    case atStart => exact ⟨0, _, rfl, rfl, ⟨⟨Nat.zero_le _, by omega⟩⟩, ⟨fun i hi => absurd hi (Nat.not_lt_zero _)⟩⟩
    case round =>
      obtain ⟨kk, nd2, rfl, rfl, HK, AB⟩ := hrel
      by_cases hlt : kk < M.length
      · have hltz : (kk : Int) < (M.length : Int) := by omega
        have h0z : (0 : Int) ≤ (kk : Int) := by omega
        have hltH : (kk : Int) < (H.length : Int) := by have := HHM.out; omega
        have hk6 : kk ≤ 6 := by have := H16.out; omega
        obtain ⟨ad, Ax, cx, e, hx, hcx, hCx⟩ := at_L1 HRH.out (kk : Int) h0z hltH
        cases e
        simp only [Int.toNat_natCast] at hx
        have hmem : rd_L1 H (kk : Int) ∈ H := by
          show H.getD kk _ ∈ H
          rw [List.getD_eq_getElem?_getD, List.getElem?_eq_getElem (by omega), Option.getD_some]
          exact List.getElem_mem _
        have hsx := HSH.out _ hmem
        obtain ⟨y, hy⟩ : ∃ y, y = rd_L1 H (kk : Int) := ⟨_, rfl⟩
        rw [← hy] at hx hcx hCx hmem hsx
        have HY := Aside0.mk hy
        have hord2 : spec_l03Order.f y (M.length : Int) = some (okOrd M.length y) := by
          unfold spec_l03Order.f
          rw [if_pos (by have := H16.out; omega), if_pos hsx, Int.toNat_natCast]
        have HME := Aside0.mk hmem
        clear hy hmem hsx
        cases hq : okOrd M.length y with
        | false =>
          rw [hq] at hord2
          have HO := Aside0.mk hord2
          have HF := Aside0.mk (show okPol H M = false by
            rw [HP.out, Bool.eq_false_iff]
            intro hall
            have := List.all_eq_true.1 hall y HME.out
            rw [hq] at this
            exact absurd this (by simp))
          clear hord2 hq
          go_wp2_with (go_at_call 33; with_reducible refine (spec_l03Order.calls Ax cx y (M.length : Int) false _ (Kd.C_drewN hCx nd2) hcx HO.out).mono ?_; rintro e w' ⟨rfl, ⟨nd, rfl⟩⟩)
          go_ret
          exact ⟨ret_bool HF.out.symm, ⟨_, rfl⟩⟩
        | true =>
          rw [hq] at hord2
          have HO := Aside0.mk hord2
          have HQ := Aside0.mk hq
          clear hord2 hq
          go_wp2_with (go_at_call 33; with_reducible refine (spec_l03Order.calls Ax cx y (M.length : Int) true _ (Kd.C_drewN hCx nd2) hcx HO.out).mono ?_; rintro e w' ⟨rfl, ⟨nd, rfl⟩⟩)
          go_roundg (M.length - (kk + 1))
          case measure => have := HK.out; omega
          case rel =>
            refine ⟨kk + 1, _, by go_num, rfl, ⟨by have := HK.out; omega⟩, ⟨fun i hi => ?_⟩⟩
            by_cases e : i = kk
            · subst e; rw [← HY.out]; exact HQ.out
            · exact AB.out i (by omega)
      · have hltz : ¬ (kk : Int) < (M.length : Int) := by omega
        have HT := Aside0.mk (show okPol H M = true by
          rw [HP.out, List.all_eq_true]
          intro y hy
          obtain ⟨i, hi, rfl⟩ := List.getElem_of_mem hy
          have h1 := AB.out i (by have := HHM.out; have := HK.out.1; omega)
          have e : rd_L1 H (i : Int) = H[i] := by
            show H.getD i _ = H[i]
            rw [List.getD_eq_getElem?_getD, List.getElem?_eq_getElem hi, Option.getD_some]
          rw [e] at h1
          exact h1)
        go_wp2_with (fail)
        go_ret
        exact ⟨ret_bool HT.out.symm, ⟨_, rfl⟩⟩
end Go.Proofs.YthaipkhgemachaaDoor.Q
