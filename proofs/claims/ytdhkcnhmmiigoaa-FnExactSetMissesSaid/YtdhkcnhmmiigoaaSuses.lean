/- Parts of the proof, laid together: contracts and lemmas; no conditions beyond those written. -/
import Derived.Test.YtdhkcnhmmiigoaaQx0
import Derived.Test.YtdhkcnhmmiigoaaQx6
import Derived.Test.YtdhkcnhmmiigoaaSmisses
import Derived.Test.YtdhkcnhmmiigoaaSbase
namespace Go.Proofs.Ytdhkcnhmmiigoaa.Q
open Go.RowKit Go.Proofs.YtdhkcnhmmiigoaaW.PrintWords Go.Proofs.YtdhkcnhmmiigoaaW.PrintLast Go.Proofs.YtdhkcnhmmiigoaaW.PrintMore
attribute [local go_sem] max2_int min2_int max_two min_two max_three min_three max_four min_four   -- for this text's walks alone
set_option linter.unusedVariables false
set_option linter.unusedSimpArgs false
section
def okUses (l : List Int) : Bool := (l.all okAddr) && decide (l.length ≤ 60)
theorem ev_l02Uses (l : List Int) (h : l.length ≤ 9223372036854775807) : Ev (fun k => spec_l02Uses.f k l) (okUses l) := by
  unfold spec_l02Uses.f
  have key := Ev.down (fun i k => spec_l02Uses.l0 k l (i : Int)) l.length (fun i => (l.drop i).all okAddr && decide (l.length ≤ 60)) ?_ ?_ 0 (Nat.zero_le _)
  · exact Ev.eq key (by simp [okUses])
  · apply Ev.succ
    simp only [spec_l02Uses.l0]
    refine Ev.ite_neg (by omega) (Ev.eq (Ev.now _) ?_)
    simp; omega
  · intro i hi ih
    apply Ev.succ
    simp only [spec_l02Uses.l0]
    refine Ev.ite_pos (by omega) (Ev.ite_pos (by omega) (Ev.cbind (spec_l02Address_f _) ?_))
    rw [drop_rd l i hi, List.all_cons]
    cases ha : okAddr (rd l (i : Int)) with
    | true =>
      refine Ev.ite_pos rfl ?_
      rw [wrap64_succ (by omega)]
      exact Ev.eq ih (by simp)
    | false => exact Ev.ite_neg (by simp) (Ev.eq (Ev.now _) (by simp))
theorem okUses_iff (l : List Int) : okUses l = true ↔ (∀ x ∈ l, 0 ≤ x ∧ x ≤ 63) ∧ l.length ≤ 60 := by
  simp [okUses, okAddr]
end
section
theorem xor_i64 (a b : Nat) (ha : a < 64) (hb : b < 64) : Go.bits .xor .i64 (a : Int) (b : Int) = ((a ^^^ b : Nat) : Int) ∧ a ^^^ b < 64 := by
  have hx : a ^^^ b < 64 := Nat.xor_lt_two_pow (n := 6) ha hb
  refine ⟨?_, hx⟩
  have e : ∀ n : Nat, n < 64 → (BitVec.ofInt IntKind.i64.bits (n : Int)).toNat = n := by
    intro n hn
    rw [BitVec.toNat_ofInt]
    show (((n : Int) % ((2 ^ 64 : Nat) : Int)).toNat) = n
    have : ((2 ^ 64 : Nat) : Int) = 18446744073709551616 := by decide
    rw [this]; omega
  have h : (BitVec.ofInt IntKind.i64.bits (a : Int) ^^^ BitVec.ofInt IntKind.i64.bits (b : Int)).toNat = a ^^^ b := by
    rw [BitVec.toNat_xor, e a ha, e b hb]
  show IntKind.i64.wrap (((BitVec.ofInt IntKind.i64.bits (a : Int) ^^^ BitVec.ofInt IntKind.i64.bits (b : Int)).toNat : Nat) : Int) = _
  rw [h, IntKind.wrap_i64]
  omega
def xo (a b : Int) : Int := ((a.toNat ^^^ b.toNat : Nat) : Int)
theorem xor_xo {a b : Int} (ha : 0 ≤ a ∧ a ≤ 63) (hb : 0 ≤ b ∧ b ≤ 63) : Go.bits .xor .i64 a b = xo a b ∧ 0 ≤ xo a b ∧ xo a b ≤ 63 := by
  have h := xor_i64 a.toNat b.toNat (by omega) (by omega)
  rw [Int.toNat_of_nonneg ha.1, Int.toNat_of_nonneg hb.1] at h
  unfold xo
  exact ⟨h.1, by omega, by omega⟩
theorem xo_comm (a b : Int) : xo a b = xo b a := by unfold xo; rw [Nat.xor_comm]
theorem and_i64 (a b : Nat) (ha : a < 64) (hb : b < 64) : Go.bits .and .i64 (a : Int) (b : Int) = ((a &&& b : Nat) : Int) ∧ a &&& b < 64 := by
  have hx : a &&& b < 64 := Nat.lt_of_le_of_lt Nat.and_le_left ha
  refine ⟨?_, hx⟩
  have e : ∀ n : Nat, n < 64 → (BitVec.ofInt IntKind.i64.bits (n : Int)).toNat = n := by
    intro n hn
    rw [BitVec.toNat_ofInt]
    show (((n : Int) % ((2 ^ 64 : Nat) : Int)).toNat) = n
    have : ((2 ^ 64 : Nat) : Int) = 18446744073709551616 := by decide
    rw [this]; omega
  have h : (BitVec.ofInt IntKind.i64.bits (a : Int) &&& BitVec.ofInt IntKind.i64.bits (b : Int)).toNat = a &&& b := by
    rw [BitVec.toNat_and, e a ha, e b hb]
  show IntKind.i64.wrap (((BitVec.ofInt IntKind.i64.bits (a : Int) &&& BitVec.ofInt IntKind.i64.bits (b : Int)).toNat : Nat) : Int) = _
  rw [h, IntKind.wrap_i64]
  omega
end
end Go.Proofs.Ytdhkcnhmmiigoaa.Q
