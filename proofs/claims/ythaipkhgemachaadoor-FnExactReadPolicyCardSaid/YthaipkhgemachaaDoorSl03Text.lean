/- spec.l03Text answers the text of a policy, read through a pointer; its rows hold digits. -/
import Derived.Test.YthaipkhgemachaaDoorQx0
import Derived.Test.YthaipkhgemachaaDoorSdigits
namespace Go.Proofs.YthaipkhgemachaaDoor.Q
open Go.RowKit Go.Proofs.YthaipkhgemachaaDoorW.PrintWords Go.Proofs.YthaipkhgemachaaDoorW.PrintLast Go.Proofs.YthaipkhgemachaaDoorW.PrintMore
attribute [local go_sem] max2_int min2_int max_two min_two max_three min_three max_four min_four   -- for this text's walks alone
set_option linter.unusedVariables false
set_option linter.unusedSimpArgs false

def polTo (H : List (List Int)) : Nat → ByteArray
  | 0 => ⟨#[]⟩
  | i + 1 => (if i = 0 then polTo H i else polTo H i ++ ⟨#[47]⟩) ++ digTxt (rd_L1 H (i : Int))
def polTxt (H : List (List Int)) (M : List Int) : ByteArray := polTo H H.length ++ ⟨#[124]⟩ ++ digTxt M
def okDigs (H : List (List Int)) (M : List Int) : Bool := isDig M && (H.all isDig && decide (H.length ≤ 6))
theorem pt_append_size (a b : ByteArray) : (a ++ b).size = a.size + b.size := by
  first | exact ByteArray.size_append | exact ByteArray.size_append a b | simp
theorem polTo_size (H : List (List Int)) (hH : ∀ y ∈ H, isDig y = true) (i : Nat) (hi : i ≤ H.length) : (polTo H i).size ≤ 7 * i := by
  induction i with
  | zero => exact Nat.le_refl _
  | succ i ih =>
    have ih := ih (by omega)
    have hm : isDig (rd_L1 H (i : Int)) = true := hH _ (by
      show H.getD i _ ∈ H
      rw [List.getD_eq_getElem?_getD, List.getElem?_eq_getElem (by omega), Option.getD_some]
      exact List.getElem_mem _)
    have hl := of_decide_eq_true (Bool.and_eq_true_iff.1 hm).1
    unfold polTo
    rw [pt_append_size, digTxt_size]
    split
    · omega
    · rw [pt_append_size, show (⟨#[47]⟩ : ByteArray).size = 1 from rfl]; omega
set_option maxHeartbeats 8000000 in
set_option maxRecDepth 100000 in
theorem spec_l03Text.calls (g o : Nat) (A0 : Option Addr) (c0 : Nat) (H : List (List Int)) (A1 : Option Addr) (c1 : Nat) (M : List Int) (w : World) (h0 : w.cell? ⟨g, o, none⟩ = some (.slice A0 H.length c0)) (h1 : w.cell? ⟨g, o + 1, none⟩ = some (.slice A1 M.length c1))
    (hrH : Kd.C (Kd.slice 2 (Kd.int .i64)) w A0 H.length H) (hcH : H.length ≤ c0) (hrM : Kd.C (Kd.int .i64) w A1 M.length M) (hcM : M.length ≤ c1) (hl : H.length ≤ 6) (hH : ∀ y ∈ H, isDig y = true) (hM : isDig M = true) :
    Calls Tryd.prog 22 #[.pointer (some ⟨g, o, none⟩)] w fun e w' => e = .returned (.string (polTxt H M)) ∧ Below w.heap.size w w' := by
  have hu := Tryd.underlying25
  have HRH := Aside0.mk hrH
  have HRM := Aside0.mk hrM
  have HH := Aside0.mk hH
  have HM := Aside0.mk hM
  have HCM := Aside0.mk hcM
  have HX0 := Aside0.mk (show ∀ W, Below w.heap.size w W → W.cell? ⟨g, o, none⟩ = some (.slice A0 H.length c0) from fun W h => (h.cell (World.block_lt_of_cell? _ _ h0)).trans h0)
  have HX1 := Aside0.mk (show ∀ W, Below w.heap.size w W → W.cell? ⟨g, o + 1, none⟩ = some (.slice A1 M.length c1) from fun W h => (h.cell (World.block_lt_of_cell? _ _ h1)).trans h1)
  have hHm : H.length ≤ 9223372036854775807 := hrH.2.1
  clear hrH hrM hH hM hcM
  go_enter Tryd.func22, Tryd.ntmps22
  go_wp2_with (fail)
  go_loopg [3, 4] H.length (fun gg s3 s4 wr => ∃ kk : Nat, s3 = .string (polTo H kk) ∧ s4 = .int .i64 kk ∧ Aside0 (Below w.heap.size w wr) ∧ Aside0 (kk ≤ H.length ∧ H.length - kk ≤ gg))
  case atStart => exact ⟨0, rfl, rfl, ⟨Below.refl _ _⟩, ⟨⟨Nat.zero_le _, by omega⟩⟩⟩
  case round =>
    obtain ⟨kk, rfl, rfl, HB, HK⟩ := hrel
    have h0 := HX0.out _ HB.out
    have h1 := HX1.out _ HB.out
    by_cases hlt : kk < H.length
    · have hltz : (kk : Int) < (H.length : Int) := by omega
      have h0z : (0 : Int) ≤ (kk : Int) := by omega
      obtain ⟨ad, Ax, cx, e, hx, hcx, hCx⟩ := at_L1 HRH.out (kk : Int) h0z hltz
      cases e
      simp only [Int.toNat_natCast] at hx
      have HST : Aside0 (polTo H (kk + 1) = (if kk = 0 then polTo H kk else polTo H kk ++ ⟨#[47]⟩) ++ digTxt (rd_L1 H (kk : Int))) := ⟨rfl⟩
      have hmem : rd_L1 H (kk : Int) ∈ H := by
        show H.getD kk _ ∈ H
        rw [List.getD_eq_getElem?_getD, List.getElem?_eq_getElem (by omega), Option.getD_some]
        exact List.getElem_mem _
      have hdig := HH.out _ hmem
      have hyl := of_decide_eq_true (Bool.and_eq_true_iff.1 hdig).1
      obtain ⟨y, hy⟩ : ∃ y, y = rd_L1 H (kk : Int) := ⟨_, rfl⟩
      rw [← hy] at hx hcx hCx hdig hyl HST
      have HL := Aside0.mk (fun (W : World) (hb : Below w.heap.size w W) => l03Digits_calls Ax cx y W (Kd.C_below hCx hb) hcx hdig)
      have htz := polTo_size H HH.out kk (by omega)
      have hdz := digTxt_size y
      have hkn : ¬ 9223372036854775807 < (polTo H kk).size + 1 := by omega
      have hx := (HB.out.cell (World.block_lt_of_cell? _ _ hx)).trans hx
      clear hy hmem hdig hCx
      by_cases hk0 : kk = 0
      · subst hk0
        rw [show ad.add 0 = ad by simp [Addr.add]] at hx
        have hpn : ¬ 9223372036854775807 < (polTo H 0).size + (digTxt y).size := by omega
        go_wp2_with (go_at_call 34; with_reducible refine (HL.out _ HB.out).mono ?_; rintro e w' ⟨rfl, hb⟩; have HB2 := Aside0.mk (below_step HB.out hb); clear hb)
        go_roundg (H.length - (0 + 1))
        case measure => have := HK.out; omega
        case rel => exact ⟨0 + 1, by rw [HST.out]; rfl, by go_num, HB2, ⟨by have := HK.out; omega⟩⟩
      · have hkz : (kk : Int) > 0 := by omega
        have hkd : decide (0 < kk) = true := decide_eq_true (by omega)
        have HK0 := Aside0.mk hk0
        have hpn : ¬ 9223372036854775807 < (polTo H kk).size + 1 + (digTxt y).size := by omega
        go_wp2_with (go_at_call 34; with_reducible refine (HL.out _ HB.out).mono ?_; rintro e w' ⟨rfl, hb⟩; have HB2 := Aside0.mk (below_step HB.out hb); clear hb)
        go_roundg (H.length - (kk + 1))
        case measure => have := HK.out; omega
        case rel => exact ⟨kk + 1, by rw [HST.out, if_neg HK0.out], by go_num, HB2, ⟨by have := HK.out; omega⟩⟩
    · have hltz : ¬ (kk : Int) < (H.length : Int) := by omega
      have hke : kk = H.length := by have := HK.out.1; omega
      subst hke
      have htz := polTo_size H HH.out H.length (Nat.le_refl _)
      have hdz := digTxt_size M
      have hyl := of_decide_eq_true (Bool.and_eq_true_iff.1 HM.out).1
      have hkn : ¬ 9223372036854775807 < (polTo H H.length).size + 1 := by omega
      have hpn : ¬ 9223372036854775807 < (polTo H H.length).size + 1 + (digTxt M).size := by omega
      have HL := Aside0.mk (l03Digits_calls A1 c1 M wr (Kd.C_below HRM.out HB.out) HCM.out HM.out)
      go_wp2_with (go_at_call 34; with_reducible refine HL.out.mono ?_; rintro e w' ⟨rfl, hb⟩; have HB2 := Aside0.mk (below_step HB.out hb); clear hb)
      go_ret
      exact ⟨rfl, HB2.out⟩
end Go.Proofs.YthaipkhgemachaaDoor.Q
