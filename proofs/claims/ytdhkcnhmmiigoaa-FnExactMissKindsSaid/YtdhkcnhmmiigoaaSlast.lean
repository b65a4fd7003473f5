/- Parts of the proof, laid together: contracts and lemmas; no conditions beyond those written. -/
import Derived.Test.YtdhkcnhmmiigoaaQx0
import Derived.Test.YtdhkcnhmmiigoaaQx6
import Derived.Test.YtdhkcnhmmiigoaaSbase
import Derived.Test.YtdhkcnhmmiigoaaSsetl
import Derived.Test.YtdhkcnhmmiigoaaSvalidindex
import Derived.Test.YtdhkcnhmmiigoaaSl00put
import Derived.Test.YtdhkcnhmmiigoaaSxor
namespace Go.Proofs.Ytdhkcnhmmiigoaa.Q
open Go.RowKit Go.Proofs.YtdhkcnhmmiigoaaW.PrintWords Go.Proofs.YtdhkcnhmmiigoaaW.PrintLast Go.Proofs.YtdhkcnhmmiigoaaW.PrintMore
attribute [local go_sem] max2_int min2_int max_two min_two max_three min_three max_four min_four   -- for this text's walks alone
set_option linter.unusedVariables false
set_option linter.unusedSimpArgs false
section
def lu (l : List Int) (a : Int) : Nat → Int
  | 0 => -1
  | i + 1 => if rd l (i : Int) = a then (i : Int) else lu l a i
theorem lu_range (l : List Int) (a : Int) (i : Nat) : -1 ≤ lu l a i ∧ lu l a i < (i : Int) := by
  induction i with
  | zero => exact ⟨by simp [lu], by simp [lu]⟩
  | succ i ih =>
    unfold lu
    split <;> omega
theorem lu_hit {l : List Int} {a : Int} {i : Nat} (h : 0 ≤ lu l a i) : rd l (lu l a i) = a := by
  induction i with
  | zero => simp [lu] at h
  | succ i ih =>
    unfold lu at h ⊢
    by_cases e : rd l (i : Int) = a
    · rw [if_pos e]; exact e
    · rw [if_neg e] at h ⊢; exact ih h
theorem lu_after {l : List Int} {a : Int} {i : Nat} : ∀ j : Nat, lu l a i < (j : Int) → j < i → rd l (j : Int) ≠ a := by
  induction i with
  | zero => intro j _ h; omega
  | succ i ih =>
    intro j h1 h2
    unfold lu at h1
    by_cases e : rd l (i : Int) = a
    · rw [if_pos e] at h1; omega
    · rw [if_neg e] at h1
      by_cases hj : j = i
      · subst hj; exact e
      · exact ih j h1 (by omega)
theorem rd_take (l : List Int) (n j : Nat) (h : j < n) : rd (l.take n) (j : Int) = rd l (j : Int) := by
  show (l.take n).getD j 0 = l.getD j 0
  rw [List.getD_eq_getElem?_getD, List.getD_eq_getElem?_getD, List.getElem?_take_of_lt h]
theorem lu_take (l : List Int) (a : Int) (n i : Nat) (h : i ≤ n) : lu (l.take n) a i = lu l a i := by
  induction i with
  | zero => rfl
  | succ i ih =>
    unfold lu
    rw [rd_take l n i (by omega), ih (by omega)]
theorem ev_lastUse_l0 (l : List Int) (a : Int) (h : l.length ≤ 35184372088832) : ∀ i : Nat, i ≤ l.length → Ev (fun k => impl_lastUse.l0 k l a ((i : Int) - 1)) (lu l a i) := by
  intro i
  induction i with
  | zero =>
    intro _
    apply Ev.succ
    simp only [impl_lastUse.l0]
    exact Ev.ite_neg (by omega) (Ev.now _)
  | succ i ih =>
    intro hi
    apply Ev.succ
    simp only [impl_lastUse.l0]
    rw [show ((i + 1 : Nat) : Int) - 1 = (i : Int) by omega]
    refine Ev.ite_pos (by omega) (Ev.ite_pos (by omega) (Ev.ite_pos (by omega) ?_))
    unfold lu
    by_cases e : rd l (i : Int) = a
    · rw [if_pos e]; exact Ev.ite_pos e (Ev.now _)
    · rw [if_neg e, wrap64_id (by omega) (by omega)]
      exact Ev.ite_neg e (ih (by omega))
theorem ev_lastUse (l : List Int) (a : Int) (h : l.length ≤ 35184372088832) : Ev (fun k => impl_lastUse.f k l a) (lu l a l.length) := by
  unfold impl_lastUse.f
  rw [wrap64_id (by omega) (by omega)]
  exact ev_lastUse_l0 l a h l.length (Nat.le_refl _)
theorem ev_lastUse_take (l : List Int) (a : Int) (i : Nat) (hi : i ≤ l.length) (h : l.length ≤ 35184372088832) : Ev (fun k => impl_lastUse.f k (l.take i) a) (lu l a i) := by
  have hl : (l.take i).length = i := by simp; omega
  have := ev_lastUse (l.take i) a (by omega)
  rwa [hl, lu_take l a i i (Nat.le_refl _)] at this
theorem ev_l02Last (l : List Int) (a : Int) (i : Nat) (hi : i ≤ l.length) (h : l.length ≤ 35184372088832) : Ev (fun k => spec_l02Last.f k l a (i : Int)) (lu l a i) := by
  unfold spec_l02Last.f
  rw [wrap64_id (by omega) (by omega)]
  induction i with
  | zero =>
    apply Ev.succ
    simp only [spec_l02Last.l0]
    exact Ev.ite_neg (by omega) (Ev.now _)
  | succ i ih =>
    apply Ev.succ
    simp only [spec_l02Last.l0]
    rw [show ((i + 1 : Nat) : Int) - 1 = (i : Int) by omega]
    refine Ev.ite_pos (by omega) (Ev.ite_pos (by omega) (Ev.ite_pos (by omega) ?_))
    unfold lu
    by_cases e : rd l (i : Int) = a
    · rw [if_pos e]; exact Ev.ite_pos e (Ev.now _)
    · rw [if_neg e, wrap64_id (by omega) (by omega)]
      exact Ev.ite_neg e (ih (by omega))
/-- What has been used between the last use of an address and its use i. -/
def between (l : List Int) (i : Nat) : List Int := setL ((l.take i).drop (lu l (rd l (i : Int)) i + 1).toNat)
theorem between_length (l : List Int) (i : Nat) : (between l i).length ≤ i := by
  unfold between
  have h := setL_length_le ((l.take i).drop (lu l (rd l (i : Int)) i + 1).toNat)
  rw [List.length_drop, List.length_take] at h
  omega
end
section
theorem par_xor : ∀ a b : Fin 64, par (((a.val ^^^ b.val : Nat)) : Int) = if par (a.val : Int) = par (b.val : Int) then 0 else 1 := by decide +kernel
def rowBit (rows : List Int) (a : Int) (i : Nat) : Int := par (Go.bits .and .i64 (rd rows (i : Int)) a)
theorem rowBit_xo (rows : List Int) (a b : Int) (i : Nat) (hm : 0 ≤ rd rows (i : Int) ∧ rd rows (i : Int) ≤ 63) (ha : 0 ≤ a ∧ a ≤ 63) (hb : 0 ≤ b ∧ b ≤ 63) : rowBit rows (xo a b) i = if rowBit rows a i = rowBit rows b i then 0 else 1 := by
  unfold rowBit
  obtain ⟨r, hr⟩ : ∃ r, r = rd rows (i : Int) := ⟨_, rfl⟩
  rw [← hr] at hm ⊢
  obtain ⟨m, rfl⟩ := fin_of hm.1 hm.2
  obtain ⟨p, rfl⟩ := fin_of ha.1 ha.2
  obtain ⟨q, rfl⟩ := fin_of hb.1 hb.2
  have hx : p.val ^^^ q.val < 64 := Nat.xor_lt_two_pow (n := 6) p.isLt q.isLt
  have e : xo (p.val : Int) (q.val : Int) = ((p.val ^^^ q.val : Nat) : Int) := rfl
  have e1 := and_i64 m.val p.val m.isLt p.isLt
  have e2 := and_i64 m.val q.val m.isLt q.isLt
  rw [e, (and_i64 m.val _ m.isLt hx).1, e1.1, e2.1, Nat.and_xor_distrib_left]
  exact par_xor ⟨m.val &&& p.val, e1.2⟩ ⟨m.val &&& q.val, e2.2⟩
theorem rowBit_01 (rows : List Int) (a : Int) (i : Nat) (hm : 0 ≤ rd rows (i : Int) ∧ rd rows (i : Int) ≤ 63) (ha : 0 ≤ a ∧ a ≤ 63) : ∃ t : Fin 2, rowBit rows a i = (t.val : Int) := by
  have h := and_range hm.1 hm.2 ha.1 ha.2
  rcases par_01 h.1 h.2 with h | h
  · exact ⟨0, h⟩
  · exact ⟨1, h⟩
def sv (p : Int) (s : Int) (i : Nat) : Int := Go.bits .or .i64 s (shl .i64 p (i : Int))
theorem fold1 (f : Int → Nat → Int) : (List.range' 0 1).foldl f 0 = f 0 0 := rfl
theorem fold2 (f : Int → Nat → Int) : (List.range' 0 2).foldl f 0 = f (f 0 0) 1 := rfl
theorem fold3 (f : Int → Nat → Int) : (List.range' 0 3).foldl f 0 = f (f (f 0 0) 1) 2 := rfl
theorem setVal_sv (rows : List Int) (a : Int) : setVal rows a = (List.range' 0 rows.length).foldl (fun s i => sv (rowBit rows a i) s i) 0 := rfl
theorem bits3 : ∀ p q r s t u : Fin 2, (sv (if (r.val : Int) = (u.val : Int) then 0 else 1) (sv (if (q.val : Int) = (t.val : Int) then 0 else 1) (sv (if (p.val : Int) = (s.val : Int) then 0 else 1) 0 0) 1) 2 = 0) ↔ (sv (r.val : Int) (sv (q.val : Int) (sv (p.val : Int) 0 0) 1) 2 = sv (u.val : Int) (sv (t.val : Int) (sv (s.val : Int) 0 0) 1) 2) := by decide +kernel
theorem bits2 : ∀ p q s t : Fin 2, (sv (if (q.val : Int) = (t.val : Int) then 0 else 1) (sv (if (p.val : Int) = (s.val : Int) then 0 else 1) 0 0) 1 = 0) ↔ (sv (q.val : Int) (sv (p.val : Int) 0 0) 1 = sv (t.val : Int) (sv (s.val : Int) 0 0) 1) := by decide +kernel
theorem bits1 : ∀ p s : Fin 2, (sv (if (p.val : Int) = (s.val : Int) then 0 else 1) 0 0 = 0) ↔ (sv (p.val : Int) 0 0 = sv (s.val : Int) 0 0) := by decide +kernel
attribute [local irreducible] sv setVal rowBit par
theorem set_same (rows : List Int) (a b : Int) (hl : rows.length ≤ 3) (hr : ∀ x ∈ rows, 0 ≤ x ∧ x ≤ 63) (ha : 0 ≤ a ∧ a ≤ 63) (hb : 0 ≤ b ∧ b ≤ 63) : setVal rows (xo a b) = 0 ↔ setVal rows a = setVal rows b := by
  have hm : ∀ i, i < rows.length → 0 ≤ rd rows (i : Int) ∧ rd rows (i : Int) ≤ 63 := fun i hi => by rw [rd_lt rows i hi]; exact hr _ (List.getElem_mem hi)
  rw [setVal_sv, setVal_sv, setVal_sv]
  obtain h | h | h | h : rows.length = 0 ∨ rows.length = 1 ∨ rows.length = 2 ∨ rows.length = 3 := by omega
  · rw [h]; simp
  · rw [h]
    obtain ⟨p, hp⟩ := rowBit_01 rows a 0 (hm 0 (by omega)) ha
    obtain ⟨s, hs⟩ := rowBit_01 rows b 0 (hm 0 (by omega)) hb
    have x0 := rowBit_xo rows a b 0 (hm 0 (by omega)) ha hb
    rw [hp, hs] at x0
    rw [fold1, fold1, fold1, x0, hp, hs]; exact bits1 p s
  · rw [h]
    obtain ⟨p, hp⟩ := rowBit_01 rows a 0 (hm 0 (by omega)) ha
    obtain ⟨s, hs⟩ := rowBit_01 rows b 0 (hm 0 (by omega)) hb
    obtain ⟨q, hq⟩ := rowBit_01 rows a 1 (hm 1 (by omega)) ha
    obtain ⟨t, ht⟩ := rowBit_01 rows b 1 (hm 1 (by omega)) hb
    have x0 := rowBit_xo rows a b 0 (hm 0 (by omega)) ha hb
    have x1 := rowBit_xo rows a b 1 (hm 1 (by omega)) ha hb
    rw [hp, hs] at x0
    rw [hq, ht] at x1
    rw [fold2, fold2, fold2, x0, x1, hp, hs, hq, ht]; exact bits2 p q s t
  · rw [h]
    obtain ⟨p, hp⟩ := rowBit_01 rows a 0 (hm 0 (by omega)) ha
    obtain ⟨s, hs⟩ := rowBit_01 rows b 0 (hm 0 (by omega)) hb
    obtain ⟨q, hq⟩ := rowBit_01 rows a 1 (hm 1 (by omega)) ha
    obtain ⟨t, ht⟩ := rowBit_01 rows b 1 (hm 1 (by omega)) hb
    obtain ⟨r, hr2⟩ := rowBit_01 rows a 2 (hm 2 (by omega)) ha
    obtain ⟨u, hu⟩ := rowBit_01 rows b 2 (hm 2 (by omega)) hb
    have x0 := rowBit_xo rows a b 0 (hm 0 (by omega)) ha hb
    have x1 := rowBit_xo rows a b 1 (hm 1 (by omega)) ha hb
    have x2 := rowBit_xo rows a b 2 (hm 2 (by omega)) ha hb
    rw [hp, hs] at x0
    rw [hq, ht] at x1
    rw [hr2, hu] at x2
    rw [fold3, fold3, fold3, x0, x1, x2, hp, hs, hq, ht, hr2, hu]; exact bits3 p q r s t u
end
end Go.Proofs.Ytdhkcnhmmiigoaa.Q
