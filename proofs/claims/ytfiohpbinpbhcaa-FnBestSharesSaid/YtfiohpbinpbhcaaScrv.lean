/- Parts of the proof, laid together: contracts and lemmas; no conditions beyond those written. -/
import Derived.Test.YtfiohpbinpbhcaaQx0
import Derived.Test.YtfiohpbinpbhcaaQx2
import Derived.Test.YtfiohpbinpbhcaaSbase
import Derived.Test.YtfiohpbinpbhcaaQx1
import Derived.Test.YtfiohpbinpbhcaaSsetl
import Derived.Test.YtfiohpbinpbhcaaSidxf
namespace Go.Proofs.Ytfiohpbinpbhcaa.Q
open Go.RowKit Go.Proofs.YtfiohpbinpbhcaaW.PrintWords Go.Proofs.YtfiohpbinpbhcaaW.PrintLast Go.Proofs.YtfiohpbinpbhcaaW.PrintMore
attribute [local go_sem] max2_int min2_int max_two min_two max_three min_three max_four min_four   -- for this text's walks alone
set_option linter.unusedVariables false
set_option linter.unusedSimpArgs false
section
def isMiss (n : Nat) (d : Int) : Bool := decide (d < 0) || decide ((n : Int) ≤ d)
def crv (p : List Int) (m : Nat) : List Int := (List.range m).map (fun n => ((p.countP (isMiss n) : Nat) : Int))
theorem crv_succ (p : List Int) (m : Nat) : crv p (m + 1) = crv p m ++ [((p.countP (isMiss m) : Nat) : Int)] := by unfold crv; rw [List.range_succ, List.map_append]; rfl
theorem crv_length (p : List Int) (m : Nat) : (crv p m).length = m := by simp [crv]
theorem isMiss_lt {n : Nat} {d : Int} (h : d < 0) : isMiss n d = true := by simp [isMiss, h]
theorem isMiss_ge {n : Nat} {d : Int} (h : (n : Int) ≤ d) : isMiss n d = true := by simp [isMiss, h]
theorem isMiss_no {n : Nat} {d : Int} (h : ¬ d < 0) (h2 : ¬ d ≥ (n : Int)) : isMiss n d = false := by simp [isMiss]; omega
theorem countP_take_succ (p : List Int) (q : Int → Bool) (i : Nat) (hi : i < p.length) : (p.take (i + 1)).countP q = (p.take i).countP q + (if q (rd p (i : Int)) = true then 1 else 0) := by
  rw [take_succ_rd p i hi, List.countP_append, List.countP_singleton]
theorem ev_impl_row (p x5 : List Int) (m : Int) (n : Nat) (hl : p.length ≤ 1000000000) (hx : x5.length ≤ 1000000000) (hn : n ≤ 1000000000) (r : List Int)
    (h : Ev (fun k => impl_curve.l0 k p (x5 ++ [((p.countP (isMiss n) : Nat) : Int)]) m ((n + 1 : Nat) : Int)) r) : Ev (fun k => impl_curve.l1 k p x5 (n : Int) 0 m (n : Int) p (p.length : Int) 0) r := by
  refine Ev.up (fun i k => impl_curve.l1 k p x5 (n : Int) (((p.take i).countP (isMiss n) : Nat) : Int) m (n : Int) p (p.length : Int) (i : Int)) p.length r ?_ ?_
  · apply Ev.succ
    simp only [impl_curve.l1]
    refine Ev.ite_neg (by omega) (Ev.ite_pos (by omega) ?_)
    rw [List.take_length, wrap64_succ (by omega)]; exact h
  · intro i hi ih
    have hc : (p.take i).countP (isMiss n) ≤ i := by have := List.countP_le_length (p := isMiss n) (l := p.take i); rw [List.length_take] at this; omega
    rw [countP_take_succ p (isMiss n) i hi] at ih
    apply Ev.succ
    simp only [impl_curve.l1]
    refine Ev.ite_pos (by omega) (Ev.ite_pos (by omega) (Ev.ite_pos (by omega) ?_))
    rw [wrap64_succ (i := i) (by omega), wrap64_succ (by omega)]
    by_cases h1 : rd p (i : Int) < 0
    · rw [if_pos (isMiss_lt h1)] at ih; exact Ev.ite_pos h1 ih
    · by_cases h2 : rd p (i : Int) ≥ (n : Int)
      · rw [if_pos (isMiss_ge h2)] at ih; exact Ev.ite_neg h1 (Ev.ite_pos h2 ih)
      · rw [if_neg (by rw [isMiss_no h1 h2]; simp)] at ih; exact Ev.ite_neg h1 (Ev.ite_neg h2 ih)
theorem ev_impl_curve (p : List Int) (m : Nat) (hl : p.length ≤ 1000000000) (hm : m ≤ 1000000) : Ev (fun k => impl_curve.f k p (m : Int)) (crv p (m + 1)) := by
  unfold impl_curve.f
  rw [wrap64_succ (by omega)]
  refine Ev.up (fun n k => impl_curve.l0 k p (crv p n) ((m + 1 : Nat) : Int) (n : Int)) (m + 1) _ ?_ ?_
  · apply Ev.succ
    simp only [impl_curve.l0]
    exact Ev.ite_neg (by omega) (Ev.now _)
  · intro n hn ih
    apply Ev.succ
    simp only [impl_curve.l0]
    refine Ev.ite_pos (by omega) (ev_impl_row p _ _ n hl (by rw [crv_length]; omega) (by omega) _ ?_)
    rw [crv_succ] at ih; exact ih
end
section
def lu (l : List Int) (a : Int) : Nat → Int
  | 0 => -1
  | i + 1 => if rd l (i : Int) = a then (i : Int) else lu l a i
theorem lu_range (l : List Int) (a : Int) (i : Nat) : -1 ≤ lu l a i ∧ lu l a i < (i : Int) := by
  induction i with
  | zero => exact ⟨by simp [lu], by simp [lu]⟩
  | succ i ih =>
    unfold lu
    split <;> omega
theorem lu_hit {l : List Int} {a : Int} {i : Nat} (h : 0 ≤ lu l a i) : rd l (lu l a i) = a := by
  induction i with
  | zero => simp [lu] at h
  | succ i ih =>
    unfold lu at h ⊢
    by_cases e : rd l (i : Int) = a
    · rw [if_pos e]; exact e
    · rw [if_neg e] at h ⊢; exact ih h
theorem lu_after {l : List Int} {a : Int} {i : Nat} : ∀ j : Nat, lu l a i < (j : Int) → j < i → rd l (j : Int) ≠ a := by
  induction i with
  | zero => intro j _ h; omega
  | succ i ih =>
    intro j h1 h2
    unfold lu at h1
    by_cases e : rd l (i : Int) = a
    · rw [if_pos e] at h1; omega
    · rw [if_neg e] at h1
      by_cases hj : j = i
      · subst hj; exact e
      · exact ih j h1 (by omega)
theorem rd_take (l : List Int) (n j : Nat) (h : j < n) : rd (l.take n) (j : Int) = rd l (j : Int) := by
  show (l.take n).getD j 0 = l.getD j 0
  rw [List.getD_eq_getElem?_getD, List.getD_eq_getElem?_getD, List.getElem?_take_of_lt h]
theorem lu_take (l : List Int) (a : Int) (n i : Nat) (h : i ≤ n) : lu (l.take n) a i = lu l a i := by
  induction i with
  | zero => rfl
  | succ i ih =>
    unfold lu
    rw [rd_take l n i (by omega), ih (by omega)]
theorem ev_lastUse_l0 (l : List Int) (a : Int) (h : l.length ≤ 35184372088832) : ∀ i : Nat, i ≤ l.length → Ev (fun k => impl_lastUse.l0 k l a ((i : Int) - 1)) (lu l a i) := by
  intro i
  induction i with
  | zero =>
    intro _
    apply Ev.succ
    simp only [impl_lastUse.l0]
    exact Ev.ite_neg (by omega) (Ev.now _)
  | succ i ih =>
    intro hi
    apply Ev.succ
    simp only [impl_lastUse.l0]
    rw [show ((i + 1 : Nat) : Int) - 1 = (i : Int) by omega]
    refine Ev.ite_pos (by omega) (Ev.ite_pos (by omega) (Ev.ite_pos (by omega) ?_))
    unfold lu
    by_cases e : rd l (i : Int) = a
    · rw [if_pos e]; exact Ev.ite_pos e (Ev.now _)
    · rw [if_neg e, wrap64_id (by omega) (by omega)]
      exact Ev.ite_neg e (ih (by omega))
theorem ev_lastUse (l : List Int) (a : Int) (h : l.length ≤ 35184372088832) : Ev (fun k => impl_lastUse.f k l a) (lu l a l.length) := by
  unfold impl_lastUse.f
  rw [wrap64_id (by omega) (by omega)]
  exact ev_lastUse_l0 l a h l.length (Nat.le_refl _)
theorem ev_lastUse_take (l : List Int) (a : Int) (i : Nat) (hi : i ≤ l.length) (h : l.length ≤ 35184372088832) : Ev (fun k => impl_lastUse.f k (l.take i) a) (lu l a i) := by
  have hl : (l.take i).length = i := by simp; omega
  have := ev_lastUse (l.take i) a (by omega)
  rwa [hl, lu_take l a i i (Nat.le_refl _)] at this
/-- What has been used between the last use of an address and its use i. -/
def between (l : List Int) (i : Nat) : List Int := setL ((l.take i).drop (lu l (rd l (i : Int)) i + 1).toNat)
theorem between_length (l : List Int) (i : Nat) : (between l i).length ≤ i := by
  unfold between
  have h := setL_length_le ((l.take i).drop (lu l (rd l (i : Int)) i + 1).toNat)
  rw [List.length_drop, List.length_take] at h
  omega
end
end Go.Proofs.Ytfiohpbinpbhcaa.Q
