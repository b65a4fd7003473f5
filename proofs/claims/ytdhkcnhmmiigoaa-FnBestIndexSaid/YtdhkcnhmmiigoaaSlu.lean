/- Parts of the proof, laid together: contracts and lemmas; no conditions beyond those written. -/
import Derived.Test.YtdhkcnhmmiigoaaQx0
import Derived.Test.YtdhkcnhmmiigoaaQx1
import Derived.Test.YtdhkcnhmmiigoaaSupto
import Derived.Test.YtdhkcnhmmiigoaaSsetl
import Derived.Test.YtdhkcnhmmiigoaaSidxf
import Derived.Test.YtdhkcnhmmiigoaaSsetval
import Derived.Test.YtdhkcnhmmiigoaaHsetOf
namespace Go.Proofs.Ytdhkcnhmmiigoaa.Q
open Go.RowKit Go.Proofs.YtdhkcnhmmiigoaaW.PrintWords Go.Proofs.YtdhkcnhmmiigoaaW.PrintLast Go.Proofs.YtdhkcnhmmiigoaaW.PrintMore
attribute [local go_sem] max2_int min2_int max_two min_two max_three min_three max_four min_four   -- for this text's walks alone
set_option linter.unusedVariables false
set_option linter.unusedSimpArgs false
section
def lu (l : List Int) (a : Int) : Nat → Int
  | 0 => -1
  | i + 1 => if rd l (i : Int) = a then (i : Int) else lu l a i
theorem lu_range (l : List Int) (a : Int) (i : Nat) : -1 ≤ lu l a i ∧ lu l a i < (i : Int) := by
  induction i with
  | zero => exact ⟨by simp [lu], by simp [lu]⟩
  | succ i ih =>
    unfold lu
    split <;> omega
theorem lu_hit {l : List Int} {a : Int} {i : Nat} (h : 0 ≤ lu l a i) : rd l (lu l a i) = a := by
  induction i with
  | zero => simp [lu] at h
  | succ i ih =>
    unfold lu at h ⊢
    by_cases e : rd l (i : Int) = a
    · rw [if_pos e]; exact e
    · rw [if_neg e] at h ⊢; exact ih h
theorem lu_after {l : List Int} {a : Int} {i : Nat} : ∀ j : Nat, lu l a i < (j : Int) → j < i → rd l (j : Int) ≠ a := by
  induction i with
  | zero => intro j _ h; omega
  | succ i ih =>
    intro j h1 h2
    unfold lu at h1
    by_cases e : rd l (i : Int) = a
    · rw [if_pos e] at h1; omega
    · rw [if_neg e] at h1
      by_cases hj : j = i
      · subst hj; exact e
      · exact ih j h1 (by omega)
theorem rd_take (l : List Int) (n j : Nat) (h : j < n) : rd (l.take n) (j : Int) = rd l (j : Int) := by
  show (l.take n).getD j 0 = l.getD j 0
  rw [List.getD_eq_getElem?_getD, List.getD_eq_getElem?_getD, List.getElem?_take_of_lt h]
theorem lu_take (l : List Int) (a : Int) (n i : Nat) (h : i ≤ n) : lu (l.take n) a i = lu l a i := by
  induction i with
  | zero => rfl
  | succ i ih =>
    unfold lu
    rw [rd_take l n i (by omega), ih (by omega)]
theorem ev_lastUse_l0 (l : List Int) (a : Int) (h : l.length ≤ 35184372088832) : ∀ i : Nat, i ≤ l.length → Ev (fun k => impl_lastUse.l0 k l a ((i : Int) - 1)) (lu l a i) := by
  intro i
  induction i with
  | zero =>
    intro _
    apply Ev.succ
    simp only [impl_lastUse.l0]
    exact Ev.ite_neg (by omega) (Ev.now _)
  | succ i ih =>
    intro hi
    apply Ev.succ
    simp only [impl_lastUse.l0]
    rw [show ((i + 1 : Nat) : Int) - 1 = (i : Int) by omega]
    refine Ev.ite_pos (by omega) (Ev.ite_pos (by omega) (Ev.ite_pos (by omega) ?_))
    unfold lu
    by_cases e : rd l (i : Int) = a
    · rw [if_pos e]; exact Ev.ite_pos e (Ev.now _)
    · rw [if_neg e, wrap64_id (by omega) (by omega)]
      exact Ev.ite_neg e (ih (by omega))
theorem ev_lastUse (l : List Int) (a : Int) (h : l.length ≤ 35184372088832) : Ev (fun k => impl_lastUse.f k l a) (lu l a l.length) := by
  unfold impl_lastUse.f
  rw [wrap64_id (by omega) (by omega)]
  exact ev_lastUse_l0 l a h l.length (Nat.le_refl _)
theorem ev_lastUse_take (l : List Int) (a : Int) (i : Nat) (hi : i ≤ l.length) (h : l.length ≤ 35184372088832) : Ev (fun k => impl_lastUse.f k (l.take i) a) (lu l a i) := by
  have hl : (l.take i).length = i := by simp; omega
  have := ev_lastUse (l.take i) a (by omega)
  rwa [hl, lu_take l a i i (Nat.le_refl _)] at this
/-- What has been used between the last use of an address and its use i. -/
def between (l : List Int) (i : Nat) : List Int := setL ((l.take i).drop (lu l (rd l (i : Int)) i + 1).toNat)
theorem between_length (l : List Int) (i : Nat) : (between l i).length ≤ i := by
  unfold between
  have h := setL_length_le ((l.take i).drop (lu l (rd l (i : Int)) i + 1).toNat)
  rw [List.length_drop, List.length_take] at h
  omega
end
section
theorem xor_i64 (a b : Nat) (ha : a < 64) (hb : b < 64) : Go.bits .xor .i64 (a : Int) (b : Int) = ((a ^^^ b : Nat) : Int) ∧ a ^^^ b < 64 := by
  have hx : a ^^^ b < 64 := Nat.xor_lt_two_pow (n := 6) ha hb
  refine ⟨?_, hx⟩
  have e : ∀ n : Nat, n < 64 → (BitVec.ofInt IntKind.i64.bits (n : Int)).toNat = n := by
    intro n hn
    rw [BitVec.toNat_ofInt]
    show (((n : Int) % ((2 ^ 64 : Nat) : Int)).toNat) = n
    have : ((2 ^ 64 : Nat) : Int) = 18446744073709551616 := by decide
    rw [this]; omega
  have h : (BitVec.ofInt IntKind.i64.bits (a : Int) ^^^ BitVec.ofInt IntKind.i64.bits (b : Int)).toNat = a ^^^ b := by
    rw [BitVec.toNat_xor, e a ha, e b hb]
  show IntKind.i64.wrap (((BitVec.ofInt IntKind.i64.bits (a : Int) ^^^ BitVec.ofInt IntKind.i64.bits (b : Int)).toNat : Nat) : Int) = _
  rw [h, IntKind.wrap_i64]
  omega
def xo (a b : Int) : Int := ((a.toNat ^^^ b.toNat : Nat) : Int)
theorem xor_xo {a b : Int} (ha : 0 ≤ a ∧ a ≤ 63) (hb : 0 ≤ b ∧ b ≤ 63) : Go.bits .xor .i64 a b = xo a b ∧ 0 ≤ xo a b ∧ xo a b ≤ 63 := by
  have h := xor_i64 a.toNat b.toNat (by omega) (by omega)
  rw [Int.toNat_of_nonneg ha.1, Int.toNat_of_nonneg hb.1] at h
  unfold xo
  exact ⟨h.1, by omega, by omega⟩
theorem xo_comm (a b : Int) : xo a b = xo b a := by unfold xo; rw [Nat.xor_comm]
theorem and_i64 (a b : Nat) (ha : a < 64) (hb : b < 64) : Go.bits .and .i64 (a : Int) (b : Int) = ((a &&& b : Nat) : Int) ∧ a &&& b < 64 := by
  have hx : a &&& b < 64 := Nat.lt_of_le_of_lt Nat.and_le_left ha
  refine ⟨?_, hx⟩
  have e : ∀ n : Nat, n < 64 → (BitVec.ofInt IntKind.i64.bits (n : Int)).toNat = n := by
    intro n hn
    rw [BitVec.toNat_ofInt]
    show (((n : Int) % ((2 ^ 64 : Nat) : Int)).toNat) = n
    have : ((2 ^ 64 : Nat) : Int) = 18446744073709551616 := by decide
    rw [this]; omega
  have h : (BitVec.ofInt IntKind.i64.bits (a : Int) &&& BitVec.ofInt IntKind.i64.bits (b : Int)).toNat = a &&& b := by
    rw [BitVec.toNat_and, e a ha, e b hb]
  show IntKind.i64.wrap (((BitVec.ofInt IntKind.i64.bits (a : Int) &&& BitVec.ofInt IntKind.i64.bits (b : Int)).toNat : Nat) : Int) = _
  rw [h, IntKind.wrap_i64]
  omega
end
section
/-- The other addresses of the set of a use since the last use of its address. -/
def othersOf (R U : List Int) (i : Nat) : List Int := (between U i).filter fun x => !(!decide (setVal R (rd U (i : Int)) = setVal R x))
def missAt (R : List Int) (p : Int) (U : List Int) (i : Nat) : Bool := !decide (0 ≤ lu U (rd U (i : Int)) i) || decide (p ≤ ((othersOf R U i).length : Int))
def misN (R : List Int) (p : Int) (U : List Int) : Nat → Nat
  | 0 => 0
  | i + 1 => misN R p U i + if missAt R p U i = true then 1 else 0
theorem misN_le (R : List Int) (p : Int) (U : List Int) (i : Nat) : misN R p U i ≤ i := by
  induction i with
  | zero => simp [misN]
  | succ i ih => unfold misN; split <;> omega
end
section
def okAddr (n : Int) : Bool := decide (0 ≤ n) && decide (n ≤ 63)
theorem okAddr_iff (n : Int) : okAddr n = true ↔ 0 ≤ n ∧ n ≤ 63 := by simp [okAddr]
end
section
theorem impl_setOf_f (l : List Int) (h : l.length ≤ 17592186044416) : impl_setOf.f l = some (setL l) := by unfold impl_setOf.f; rw [if_pos h]
end
end Go.Proofs.Ytdhkcnhmmiigoaa.Q
