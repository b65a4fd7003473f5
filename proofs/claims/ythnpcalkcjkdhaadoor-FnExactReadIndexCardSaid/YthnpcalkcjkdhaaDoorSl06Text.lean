/- spec.l06Text answers the text of an index, read through a pointer; the index is valid. -/
import Derived.Test.YthnpcalkcjkdhaaDoorQx0
namespace Go.Proofs.YthnpcalkcjkdhaaDoor.Q
open Go.RowKit Go.Proofs.YthnpcalkcjkdhaaDoorW.PrintWords Go.Proofs.YthnpcalkcjkdhaaDoorW.PrintLast Go.Proofs.YthnpcalkcjkdhaaDoorW.PrintMore
attribute [local go_sem] max2_int min2_int max_two min_two max_three min_three max_four min_four   -- for this text's walks alone
set_option linter.unusedVariables false
set_option linter.unusedSimpArgs false

def topBit (p : Nat) : Int := 32 / 2 ^ p
def oneTxt (n : Int) (p : Nat) : ByteArray := if Go.bits .and .i64 n (topBit p) > 0 then ⟨#[49]⟩ else ⟨#[48]⟩
def addBits (b : ByteArray) (n : Int) : Nat → ByteArray
  | 0 => b
  | p + 1 => addBits b n p ++ oneTxt n p
def txtTo (l : List Int) : Nat → ByteArray
  | 0 => ⟨#[]⟩
  | i + 1 => addBits (if i = 0 then txtTo l i else txtTo l i ++ ⟨#[47]⟩) (rd l (i : Int)) 6
theorem topBit_facts : ∀ p : Fin 6, topBit p.val > 0 ∧ topBit p.val ≤ 32 ∧ (topBit p.val).tdiv 2 = topBit (p.val + 1) ∧ topBit p.val / 2 = topBit (p.val + 1) := by decide +kernel
theorem ba_append_size (a b : ByteArray) : (a ++ b).size = a.size + b.size := by
  first | exact ByteArray.size_append | exact ByteArray.size_append a b | simp
theorem oneTxt_size (n : Int) (p : Nat) : (oneTxt n p).size = 1 := by unfold oneTxt; split <;> rfl
theorem addBits_size (b : ByteArray) (n : Int) (p : Nat) : (addBits b n p).size = b.size + p := by
  induction p with
  | zero => rfl
  | succ p ih => unfold addBits; rw [ba_append_size, ih, oneTxt_size]; omega
theorem txtTo_size (l : List Int) (i : Nat) : (txtTo l i).size ≤ 7 * i := by
  induction i with
  | zero => exact Nat.le_refl _
  | succ i ih =>
    unfold txtTo
    rw [addBits_size]
    split
    · omega
    · rw [ba_append_size, show (⟨#[47]⟩ : ByteArray).size = 1 from rfl]; omega
set_option maxHeartbeats 8000000 in
set_option maxRecDepth 100000 in
theorem spec_l06Text.calls (g : Nat) (A : Option Addr) (c : Nat) (l : List Int) (w : World) (hg : w.cell? ⟨g, 0, none⟩ = some (.slice A l.length c)) (hr : Kd.C (Kd.int .i64) w A l.length l) (hl : l.length ≤ 3) :
    Calls Tryd.prog 10 #[.pointer (some ⟨g, 0, none⟩)] w fun e w' => e = .returned (.string (txtTo l l.length)) ∧ Drawn0 w w' := by
  have HR := Aside0.mk hr
  have hu := Tryd.underlying24
  clear hr
  go_enter Tryd.func10, Tryd.ntmps10
  go_wp2_with (fail)
  go_loopg [3, 4] l.length (fun gg s3 s4 wr => ∃ kk nd : Nat, s3 = .string (txtTo l kk) ∧ s4 = .int .i64 kk ∧ wr = w.drewN nd ∧ Aside0 (kk ≤ l.length ∧ l.length - kk ≤ gg))
  case atStart => exact ⟨0, 0, rfl, rfl, rfl, ⟨⟨Nat.zero_le _, by omega⟩⟩⟩
  case round =>
    obtain ⟨kk, nd, rfl, rfl, rfl, HK⟩ := hrel
    by_cases hlt : kk < l.length
    · have hltz : (kk : Int) < (l.length : Int) := by omega
      have h0z : (0 : Int) ≤ (kk : Int) := by omega
      obtain ⟨ad, e, hx⟩ := Kd.at_int HR.out (kk : Int) h0z hltz
      cases e
      simp only [Int.toNat_natCast] at hx
      have HST : Aside0 (txtTo l (kk + 1) = addBits (if kk = 0 then txtTo l kk else txtTo l kk ++ ⟨#[47]⟩) (rd l (kk : Int)) 6) := ⟨rfl⟩
      obtain ⟨y, hy⟩ : ∃ y, y = rd l (kk : Int) := ⟨_, rfl⟩
      rw [← hy] at hx HST
      clear hy
      obtain ⟨b, hb⟩ : ∃ b, b = if kk = 0 then txtTo l kk else txtTo l kk ++ ⟨#[47]⟩ := ⟨_, rfl⟩
      rw [← hb] at HST
      have HBE := Aside0.mk hb
      have htz := txtTo_size l kk
      have hbz : b.size ≤ 30 := by
        rw [hb]
        split
        · omega
        · rw [ba_append_size, show (⟨#[47]⟩ : ByteArray).size = 1 from rfl]; omega
      have HBZ := Aside0.mk hbz
      have hkn : ¬ 9223372036854775807 < (txtTo l kk).size + 1 := by omega
      clear hb htz hbz
      by_cases hk0 : kk = 0
      · subst hk0
        rw [show ad.add 0 = ad by simp [Addr.add]] at hx
        have hb0 : b = txtTo l 0 := HBE.out
        have HB0 := Aside0.mk hb0
        clear hb0
        go_wp2_with (fail)
        go_loopg [3, 5] 6 (fun gg s3 s5 wr => ∃ p : Nat, s3 = .string (addBits b y p) ∧ s5 = .int .i64 (topBit p) ∧ wr = w.drewN nd ∧ Aside0 (p ≤ 6 ∧ 6 - p ≤ gg))
        case atStart => exact ⟨0, (by rw [show addBits b y 0 = b from rfl, HB0.out]), rfl, rfl, ⟨⟨Nat.zero_le _, by omega⟩⟩⟩
        case round =>
          obtain ⟨p, rfl, rfl, rfl, HP⟩ := hrel
          by_cases hp : p < 6
          · obtain ⟨tb1, tb2, tb3, tb4⟩ := topBit_facts ⟨p, hp⟩
            simp only at tb1 tb2 tb3 tb4
            have HTB := Aside0.mk tb3
            have HTB4 := Aside0.mk tb4
            have hone : addBits b y (p + 1) = addBits b y p ++ oneTxt y p := rfl
            have HON := Aside0.mk hone
            obtain ⟨m, hm⟩ : ∃ m, m = topBit p := ⟨_, rfl⟩
            rw [← hm] at tb1 tb2 HTB HTB4
            have HM := Aside0.mk hm
            rw [← hm]
            have htg : m > 0 := tb1
            have hpn : ¬ 9223372036854775807 < (addBits b y p).size + 1 := by rw [addBits_size]; have := HBZ.out; omega
            clear tb3 tb4 hone hm
            by_cases hbit : Go.bits .and .i64 y m > 0
            · have HO1 := Aside0.mk (show oneTxt y p = ⟨#[49]⟩ by unfold oneTxt; rw [← HM.out, if_pos hbit])
              go_wp2_with (fail)
              go_roundg (6 - (p + 1))
              case measure => have := HP.out; omega
              case rel => exact ⟨p + 1, by rw [HON.out, HO1.out], by first | rw [HTB4.out] | rw [← HTB4.out] | rw [← HTB.out], rfl, ⟨by omega⟩⟩
            · have HO1 := Aside0.mk (show oneTxt y p = ⟨#[48]⟩ by unfold oneTxt; rw [← HM.out, if_neg hbit])
              go_wp2_with (fail)
              go_roundg (6 - (p + 1))
              case measure => have := HP.out; omega
              case rel => exact ⟨p + 1, by rw [HON.out, HO1.out], by first | rw [HTB4.out] | rw [← HTB4.out] | rw [← HTB.out], rfl, ⟨by omega⟩⟩
          · have hp6 : p = 6 := by have := HP.out; omega
            subst hp6
            have ht6 : topBit 6 = 0 := by decide +kernel
            rw [ht6]
            go_wp2_with (fail)
            go_roundg (l.length - (0 + 1))
            case measure => have := HK.out; omega
            case rel => exact ⟨0 + 1, _, by rw [HST.out], by go_num, rfl, ⟨by have := HK.out; omega⟩⟩
      · have hkz : (kk : Int) > 0 := by omega
        have hkd : decide (0 < kk) = true := decide_eq_true (by omega)
        have HK0 := Aside0.mk hk0
        go_wp2_with (fail)
        go_loopg [3, 5] 6 (fun gg s3 s5 wr => ∃ p : Nat, s3 = .string (addBits b y p) ∧ s5 = .int .i64 (topBit p) ∧ wr = w.drewN nd ∧ Aside0 (p ≤ 6 ∧ 6 - p ≤ gg))
        case atStart => exact ⟨0, (by rw [show addBits b y 0 = b from rfl, HBE.out, if_neg HK0.out]), rfl, rfl, ⟨⟨Nat.zero_le _, by omega⟩⟩⟩
        case round =>
          obtain ⟨p, rfl, rfl, rfl, HP⟩ := hrel
          by_cases hp : p < 6
          · obtain ⟨tb1, tb2, tb3, tb4⟩ := topBit_facts ⟨p, hp⟩
            simp only at tb1 tb2 tb3 tb4
            have HTB := Aside0.mk tb3
            have HTB4 := Aside0.mk tb4
            have hone : addBits b y (p + 1) = addBits b y p ++ oneTxt y p := rfl
            have HON := Aside0.mk hone
            obtain ⟨m, hm⟩ : ∃ m, m = topBit p := ⟨_, rfl⟩
            rw [← hm] at tb1 tb2 HTB HTB4
            have HM := Aside0.mk hm
            rw [← hm]
            have htg : m > 0 := tb1
            have hpn : ¬ 9223372036854775807 < (addBits b y p).size + 1 := by rw [addBits_size]; have := HBZ.out; omega
            clear tb3 tb4 hone hm
            by_cases hbit : Go.bits .and .i64 y m > 0
            · have HO1 := Aside0.mk (show oneTxt y p = ⟨#[49]⟩ by unfold oneTxt; rw [← HM.out, if_pos hbit])
              go_wp2_with (fail)
              go_roundg (6 - (p + 1))
              case measure => have := HP.out; omega
              case rel => exact ⟨p + 1, by rw [HON.out, HO1.out], by first | rw [HTB4.out] | rw [← HTB4.out] | rw [← HTB.out], rfl, ⟨by omega⟩⟩
            · have HO1 := Aside0.mk (show oneTxt y p = ⟨#[48]⟩ by unfold oneTxt; rw [← HM.out, if_neg hbit])
              go_wp2_with (fail)
              go_roundg (6 - (p + 1))
              case measure => have := HP.out; omega
              case rel => exact ⟨p + 1, by rw [HON.out, HO1.out], by first | rw [HTB4.out] | rw [← HTB4.out] | rw [← HTB.out], rfl, ⟨by omega⟩⟩
          · have hp6 : p = 6 := by have := HP.out; omega
            subst hp6
            have ht6 : topBit 6 = 0 := by decide +kernel
            rw [ht6]
            go_wp2_with (fail)
            go_roundg (l.length - (kk + 1))
            case measure => have := HK.out; omega
            case rel => exact ⟨kk + 1, _, by rw [HST.out], by go_num, rfl, ⟨by have := HK.out; omega⟩⟩
    · have hltz : ¬ (kk : Int) < (l.length : Int) := by omega
      have hke : kk = l.length := by have := HK.out.1; omega
      subst hke
      go_wp2_with (fail)
      go_ret
      exact ⟨rfl, ⟨_, rfl⟩⟩
end Go.Proofs.YthnpcalkcjkdhaaDoor.Q
