/- Parts of the proof, laid together: contracts and lemmas; no conditions beyond those written. -/
import Derived.Test.YtdhkcnhmmiigoaaQx0
import Derived.Test.YtdhkcnhmmiigoaaQx1
import Derived.Test.YtdhkcnhmmiigoaaSbase
import Derived.Test.YtdhkcnhmmiigoaaSdraw
namespace Go.Proofs.Ytdhkcnhmmiigoaa.Q
open Go.RowKit Go.Proofs.YtdhkcnhmmiigoaaW.PrintWords Go.Proofs.YtdhkcnhmmiigoaaW.PrintLast Go.Proofs.YtdhkcnhmmiigoaaW.PrintMore
attribute [local go_sem] max2_int min2_int max_two min_two max_three min_three max_four min_four   -- for this text's walks alone
set_option linter.unusedVariables false
set_option linter.unusedSimpArgs false
section
theorem among_ok (l : List Int) (hb : Bytes l) (a : Nat) (sd : Int) (b : List Int) (hn : 1 ≤ b.length) (h2 : b.length ≤ 200) (ha : a ≤ 1000000000000) :
    ∃ (x : Int) (a' : Nat) (s : Int), spec_l00Src_among.f l (a : Int) sd b = some (x, (a' : Int), s) ∧ x ∈ b ∧ a' ≤ a + 1 := by
  unfold spec_l00Src_among.f
  obtain ⟨x, a', s, e, hx, ha'⟩ := pick_ok l hb a sd b.length hn h2 ha
  refine ⟨b[x], a', s, ?_, List.getElem_mem hx, ha'⟩
  rw [e, Option.bind_some]
  rw [if_pos (by omega), if_pos (by omega), rd_lt b x hx]
end
section
def again (l : List Int) (i : Nat) : Bool := decide (0 ≤ lu l (rd l (i : Int)) i)
end
section
def okAddr (n : Int) : Bool := decide (0 ≤ n) && decide (n ≤ 63)
theorem okAddr_iff (n : Int) : okAddr n = true ↔ 0 ≤ n ∧ n ≤ 63 := by simp [okAddr]
end
section
theorem xor_i64 (a b : Nat) (ha : a < 64) (hb : b < 64) : Go.bits .xor .i64 (a : Int) (b : Int) = ((a ^^^ b : Nat) : Int) ∧ a ^^^ b < 64 := by
  have hx : a ^^^ b < 64 := Nat.xor_lt_two_pow (n := 6) ha hb
  refine ⟨?_, hx⟩
  have e : ∀ n : Nat, n < 64 → (BitVec.ofInt IntKind.i64.bits (n : Int)).toNat = n := by
    intro n hn
    rw [BitVec.toNat_ofInt]
    show (((n : Int) % ((2 ^ 64 : Nat) : Int)).toNat) = n
    have : ((2 ^ 64 : Nat) : Int) = 18446744073709551616 := by decide
    rw [this]; omega
  have h : (BitVec.ofInt IntKind.i64.bits (a : Int) ^^^ BitVec.ofInt IntKind.i64.bits (b : Int)).toNat = a ^^^ b := by
    rw [BitVec.toNat_xor, e a ha, e b hb]
  show IntKind.i64.wrap (((BitVec.ofInt IntKind.i64.bits (a : Int) ^^^ BitVec.ofInt IntKind.i64.bits (b : Int)).toNat : Nat) : Int) = _
  rw [h, IntKind.wrap_i64]
  omega
def xo (a b : Int) : Int := ((a.toNat ^^^ b.toNat : Nat) : Int)
theorem xor_xo {a b : Int} (ha : 0 ≤ a ∧ a ≤ 63) (hb : 0 ≤ b ∧ b ≤ 63) : Go.bits .xor .i64 a b = xo a b ∧ 0 ≤ xo a b ∧ xo a b ≤ 63 := by
  have h := xor_i64 a.toNat b.toNat (by omega) (by omega)
  rw [Int.toNat_of_nonneg ha.1, Int.toNat_of_nonneg hb.1] at h
  unfold xo
  exact ⟨h.1, by omega, by omega⟩
theorem xo_comm (a b : Int) : xo a b = xo b a := by unfold xo; rw [Nat.xor_comm]
theorem and_i64 (a b : Nat) (ha : a < 64) (hb : b < 64) : Go.bits .and .i64 (a : Int) (b : Int) = ((a &&& b : Nat) : Int) ∧ a &&& b < 64 := by
  have hx : a &&& b < 64 := Nat.lt_of_le_of_lt Nat.and_le_left ha
  refine ⟨?_, hx⟩
  have e : ∀ n : Nat, n < 64 → (BitVec.ofInt IntKind.i64.bits (n : Int)).toNat = n := by
    intro n hn
    rw [BitVec.toNat_ofInt]
    show (((n : Int) % ((2 ^ 64 : Nat) : Int)).toNat) = n
    have : ((2 ^ 64 : Nat) : Int) = 18446744073709551616 := by decide
    rw [this]; omega
  have h : (BitVec.ofInt IntKind.i64.bits (a : Int) &&& BitVec.ofInt IntKind.i64.bits (b : Int)).toNat = a &&& b := by
    rw [BitVec.toNat_and, e a ha, e b hb]
  show IntKind.i64.wrap (((BitVec.ofInt IntKind.i64.bits (a : Int) &&& BitVec.ofInt IntKind.i64.bits (b : Int)).toNat : Nat) : Int) = _
  rw [h, IntKind.wrap_i64]
  omega
end
section
theorem par_xor : ∀ a b : Fin 64, par (((a.val ^^^ b.val : Nat)) : Int) = if par (a.val : Int) = par (b.val : Int) then 0 else 1 := by decide +kernel
def rowBit (rows : List Int) (a : Int) (i : Nat) : Int := par (Go.bits .and .i64 (rd rows (i : Int)) a)
theorem rowBit_xo (rows : List Int) (a b : Int) (i : Nat) (hm : 0 ≤ rd rows (i : Int) ∧ rd rows (i : Int) ≤ 63) (ha : 0 ≤ a ∧ a ≤ 63) (hb : 0 ≤ b ∧ b ≤ 63) : rowBit rows (xo a b) i = if rowBit rows a i = rowBit rows b i then 0 else 1 := by
  unfold rowBit
  obtain ⟨r, hr⟩ : ∃ r, r = rd rows (i : Int) := ⟨_, rfl⟩
  rw [← hr] at hm ⊢
  obtain ⟨m, rfl⟩ := fin_of hm.1 hm.2
  obtain ⟨p, rfl⟩ := fin_of ha.1 ha.2
  obtain ⟨q, rfl⟩ := fin_of hb.1 hb.2
  have hx : p.val ^^^ q.val < 64 := Nat.xor_lt_two_pow (n := 6) p.isLt q.isLt
  have e : xo (p.val : Int) (q.val : Int) = ((p.val ^^^ q.val : Nat) : Int) := rfl
  have e1 := and_i64 m.val p.val m.isLt p.isLt
  have e2 := and_i64 m.val q.val m.isLt q.isLt
  rw [e, (and_i64 m.val _ m.isLt hx).1, e1.1, e2.1, Nat.and_xor_distrib_left]
  exact par_xor ⟨m.val &&& p.val, e1.2⟩ ⟨m.val &&& q.val, e2.2⟩
theorem rowBit_01 (rows : List Int) (a : Int) (i : Nat) (hm : 0 ≤ rd rows (i : Int) ∧ rd rows (i : Int) ≤ 63) (ha : 0 ≤ a ∧ a ≤ 63) : ∃ t : Fin 2, rowBit rows a i = (t.val : Int) := by
  have h := and_range hm.1 hm.2 ha.1 ha.2
  rcases par_01 h.1 h.2 with h | h
  · exact ⟨0, h⟩
  · exact ⟨1, h⟩
def sv (p : Int) (s : Int) (i : Nat) : Int := Go.bits .or .i64 s (shl .i64 p (i : Int))
theorem fold1 (f : Int → Nat → Int) : (List.range' 0 1).foldl f 0 = f 0 0 := rfl
theorem fold2 (f : Int → Nat → Int) : (List.range' 0 2).foldl f 0 = f (f 0 0) 1 := rfl
theorem fold3 (f : Int → Nat → Int) : (List.range' 0 3).foldl f 0 = f (f (f 0 0) 1) 2 := rfl
theorem setVal_sv (rows : List Int) (a : Int) : setVal rows a = (List.range' 0 rows.length).foldl (fun s i => sv (rowBit rows a i) s i) 0 := rfl
theorem bits3 : ∀ p q r s t u : Fin 2, (sv (if (r.val : Int) = (u.val : Int) then 0 else 1) (sv (if (q.val : Int) = (t.val : Int) then 0 else 1) (sv (if (p.val : Int) = (s.val : Int) then 0 else 1) 0 0) 1) 2 = 0) ↔ (sv (r.val : Int) (sv (q.val : Int) (sv (p.val : Int) 0 0) 1) 2 = sv (u.val : Int) (sv (t.val : Int) (sv (s.val : Int) 0 0) 1) 2) := by decide +kernel
theorem bits2 : ∀ p q s t : Fin 2, (sv (if (q.val : Int) = (t.val : Int) then 0 else 1) (sv (if (p.val : Int) = (s.val : Int) then 0 else 1) 0 0) 1 = 0) ↔ (sv (q.val : Int) (sv (p.val : Int) 0 0) 1 = sv (t.val : Int) (sv (s.val : Int) 0 0) 1) := by decide +kernel
theorem bits1 : ∀ p s : Fin 2, (sv (if (p.val : Int) = (s.val : Int) then 0 else 1) 0 0 = 0) ↔ (sv (p.val : Int) 0 0 = sv (s.val : Int) 0 0) := by decide +kernel
attribute [local irreducible] sv setVal rowBit par
theorem set_same (rows : List Int) (a b : Int) (hl : rows.length ≤ 3) (hr : ∀ x ∈ rows, 0 ≤ x ∧ x ≤ 63) (ha : 0 ≤ a ∧ a ≤ 63) (hb : 0 ≤ b ∧ b ≤ 63) : setVal rows (xo a b) = 0 ↔ setVal rows a = setVal rows b := by
  have hm : ∀ i, i < rows.length → 0 ≤ rd rows (i : Int) ∧ rd rows (i : Int) ≤ 63 := fun i hi => by rw [rd_lt rows i hi]; exact hr _ (List.getElem_mem hi)
  rw [setVal_sv, setVal_sv, setVal_sv]
  obtain h | h | h | h : rows.length = 0 ∨ rows.length = 1 ∨ rows.length = 2 ∨ rows.length = 3 := by omega
  · rw [h]; simp
  · rw [h]
    obtain ⟨p, hp⟩ := rowBit_01 rows a 0 (hm 0 (by omega)) ha
    obtain ⟨s, hs⟩ := rowBit_01 rows b 0 (hm 0 (by omega)) hb
    have x0 := rowBit_xo rows a b 0 (hm 0 (by omega)) ha hb
    rw [hp, hs] at x0
    rw [fold1, fold1, fold1, x0, hp, hs]; exact bits1 p s
  · rw [h]
    obtain ⟨p, hp⟩ := rowBit_01 rows a 0 (hm 0 (by omega)) ha
    obtain ⟨s, hs⟩ := rowBit_01 rows b 0 (hm 0 (by omega)) hb
    obtain ⟨q, hq⟩ := rowBit_01 rows a 1 (hm 1 (by omega)) ha
    obtain ⟨t, ht⟩ := rowBit_01 rows b 1 (hm 1 (by omega)) hb
    have x0 := rowBit_xo rows a b 0 (hm 0 (by omega)) ha hb
    have x1 := rowBit_xo rows a b 1 (hm 1 (by omega)) ha hb
    rw [hp, hs] at x0
    rw [hq, ht] at x1
    rw [fold2, fold2, fold2, x0, x1, hp, hs, hq, ht]; exact bits2 p q s t
  · rw [h]
    obtain ⟨p, hp⟩ := rowBit_01 rows a 0 (hm 0 (by omega)) ha
    obtain ⟨s, hs⟩ := rowBit_01 rows b 0 (hm 0 (by omega)) hb
    obtain ⟨q, hq⟩ := rowBit_01 rows a 1 (hm 1 (by omega)) ha
    obtain ⟨t, ht⟩ := rowBit_01 rows b 1 (hm 1 (by omega)) hb
    obtain ⟨r, hr2⟩ := rowBit_01 rows a 2 (hm 2 (by omega)) ha
    obtain ⟨u, hu⟩ := rowBit_01 rows b 2 (hm 2 (by omega)) hb
    have x0 := rowBit_xo rows a b 0 (hm 0 (by omega)) ha hb
    have x1 := rowBit_xo rows a b 1 (hm 1 (by omega)) ha hb
    have x2 := rowBit_xo rows a b 2 (hm 2 (by omega)) ha hb
    rw [hp, hs] at x0
    rw [hq, ht] at x1
    rw [hr2, hu] at x2
    rw [fold3, fold3, fold3, x0, x1, x2, hp, hs, hq, ht, hr2, hu]; exact bits3 p q r s t u
end
end Go.Proofs.Ytdhkcnhmmiigoaa.Q
