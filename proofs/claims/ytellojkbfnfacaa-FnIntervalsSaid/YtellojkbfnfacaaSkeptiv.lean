/- Parts of the proof, laid together: contracts and lemmas; no conditions beyond those written. -/
import Derived.Test.YtellojkbfnfacaaQx0
import Derived.Test.YtellojkbfnfacaaQx2
import Derived.Test.YtellojkbfnfacaaSbase
import Derived.Test.YtellojkbfnfacaaSbest
import Derived.Test.YtellojkbfnfacaaSslidx
import Derived.Test.YtellojkbfnfacaaQx1
import Derived.Test.YtellojkbfnfacaaSsortl
namespace Go.Proofs.Ytellojkbfnfacaa.Q
open Go.RowKit Go.Proofs.YtellojkbfnfacaaW.PrintWords Go.Proofs.YtellojkbfnfacaaW.PrintLast Go.Proofs.YtellojkbfnfacaaW.PrintMore
attribute [local go_sem] max2_int min2_int max_two min_two max_three min_three max_four min_four   -- for this text's walks alone
set_option linter.unusedVariables false
set_option linter.unusedSimpArgs false
section
def endOf (U : List Int) (k : Nat) : Int := rd ((ivs U).getD k []) 1
def keptTo (U : List Int) (n : Int) (j : Nat) : List Int := ((List.range j).filter fun k => bHit U n (endOf U k).toNat).map fun (k : Nat) => (k : Int)
theorem keptTo_succ (U : List Int) (n : Int) (j : Nat) : keptTo U n (j + 1) = keptTo U n j ++ (if bHit U n (endOf U j).toNat = true then [(j : Int)] else []) := by
  unfold keptTo
  rw [List.range_succ, List.filter_append, List.map_append]
  congr 1
  by_cases h : bHit U n (endOf U j).toNat = true <;> simp [List.filter_cons, h]
theorem keptTo_length (U : List Int) (n : Int) (j : Nat) : (keptTo U n j).length ≤ j := by
  unfold keptTo
  rw [List.length_map]
  have := List.length_filter_le (fun k => bHit U n (endOf U k).toNat) (List.range j)
  simpa using this
theorem endOf_range (U : List Int) (k : Nat) (h : k < (ivs U).length) : (((ivs U).getD k []).length : Int) = 2 ∧ 0 ≤ endOf U k ∧ endOf U k < (U.length : Int) := by
  obtain ⟨i, j, e, hij, hj⟩ := ivs_mem (List.getElem_mem h)
  have hg : (ivs U).getD k [] = [(i : Int), (j : Int)] := by rw [List.getD_eq_getElem?_getD, List.getElem?_eq_getElem h, Option.getD_some, e]
  unfold endOf
  rw [hg]
  exact ⟨rfl, by show 0 ≤ (j : Int); omega, by show (j : Int) < _; omega⟩
theorem rdL_getD (X : List (List Int)) (k : Nat) : rd_L2 X (k : Int) = X.getD k [] := rfl
section
variable (U : List Int) (n : Int) (hl : U.length ≤ 60)
include hl
theorem ev_impl_kept : Ev (fun k => impl_KeptIntervals.l0 k (bHits U n U.length) [] (ivs U) ((ivs U).length : Int) 0) (keptTo U n (ivs U).length, true) := by
  have hiv := ivsTo_length U U.length
  have hiv2 : (ivs U).length ≤ 60 := Nat.le_trans hiv hl
  refine Ev.up (fun j k => impl_KeptIntervals.l0 k (bHits U n U.length) (keptTo U n j) (ivs U) ((ivs U).length : Int) (j : Int)) (ivs U).length _ ?_ ?_
  · apply Ev.succ
    simp only [impl_KeptIntervals.l0]
    exact Ev.ite_neg (by omega) (Ev.now _)
  · intro j hj ih
    have h0 := keptTo_length U n j
    obtain ⟨h1, h2, h3⟩ := endOf_range U j hj
    rw [keptTo_succ] at ih
    apply Ev.succ
    simp only [impl_KeptIntervals.l0]
    rw [rdL_getD, wrap64_succ (by omega)]
    refine Ev.ite_pos (by omega) (Ev.ite_pos (by omega) (Ev.ite_pos (by omega) (Ev.ite_pos (by omega) (Ev.ite_pos h2 (Ev.ite_pos (by rw [bHits_length]; exact h3) ?_)))))
    have e : rd (bHits U n U.length) (rd ((ivs U).getD j []) 1) = if bHit U n (endOf U j).toNat = true then 1 else 0 := by
      have := rd_bHits U n U.length (endOf U j).toNat (by omega)
      rw [Int.toNat_of_nonneg h2] at this
      exact this
    rw [e]
    by_cases hb : bHit U n (endOf U j).toNat = true
    · rw [if_pos hb] at ih ⊢
      exact Ev.ite_pos rfl (Ev.ite_pos (by omega) ih)
    · rw [if_neg hb, List.append_nil] at ih
      rw [if_neg hb]
      exact Ev.ite_neg (by omega) ih
end
end
section
def cmpL : List Int → List Int → Int
  | a :: xs, b :: ys => if a < b then -1 else if b < a then 1 else cmpL xs ys
  | _, _ => 0
theorem cmpL_less : ∀ x y : List Int, x.length = y.length → decide (cmpL x y < 0) = lessB x y
  | [], [], _ => rfl
  | [], _ :: _, h => by simp at h
  | _ :: _, [], h => by simp at h
  | a :: xs, b :: ys, h => by
    have ih := cmpL_less xs ys (by simpa using h)
    rw [lessB_cons]
    unfold cmpL
    by_cases h1 : a < b
    · simp [h1]
    · by_cases h2 : b < a
      · have h3 : ¬ a = b := by omega
        simp [h1, h2, h3]
      · have h3 : a = b := by omega
        simp [h1, h2, h3, ih]
theorem cmp_Compare_f (a b : Int) : cmp_Compare_int64.f a b = some (if a < b then -1 else if b < a then 1 else 0) := by
  unfold cmp_Compare_int64.f cmp_isNaN_int64.f
  simp only [bne_self_eq_false, Option.bind_some, Bool.false_eq_true, if_false, ne_eq, not_true_eq_false, decide_false]
  by_cases h1 : a < b
  · simp [h1]
  · by_cases h2 : b < a <;> simp [h1, h2]
theorem ev_Compare (x y : List Int) (h : x.length = y.length) (hl : x.length ≤ 1000000) : Ev (fun k => slices_Compare_int64_int64.f k x y) (cmpL x y) := by
  unfold slices_Compare_int64_int64.f
  have key := Ev.down (fun i k => slices_Compare_int64_int64.l0 k x y x (x.length : Int) (i : Int)) x.length (fun i => cmpL (x.drop i) (y.drop i)) ?_ ?_ 0 (Nat.zero_le _)
  · exact key
  · apply Ev.succ
    simp only [slices_Compare_int64_int64.l0]
    refine Ev.ite_neg (by omega) (Ev.ite_neg (by omega) (Ev.eq (Ev.now _) ?_))
    rw [List.drop_length, List.drop_eq_nil_of_le (by omega)]; rfl
  · intro i hi ih
    have e : cmpL (x.drop i) (y.drop i) = if rd x (i : Int) < rd y (i : Int) then -1 else if rd y (i : Int) < rd x (i : Int) then 1 else cmpL (x.drop (i + 1)) (y.drop (i + 1)) := by
      rw [drop_rd x i hi, drop_rd y i (by omega)]; rfl
    rw [e]
    apply Ev.succ
    simp only [slices_Compare_int64_int64.l0]
    refine Ev.ite_pos (by omega) (Ev.ite_pos (by omega) (Ev.ite_pos (by omega) (Ev.ite_neg (by omega) (Ev.ite_pos (by omega) (Ev.cbind (cmp_Compare_f _ _) ?_)))))
    by_cases h1 : rd x (i : Int) < rd y (i : Int)
    · refine Ev.ite_neg ?_ (Ev.eq (Ev.now _) ?_)
      · rw [if_pos h1]; omega
      · rw [if_pos h1, if_pos h1]
    · by_cases h2 : rd y (i : Int) < rd x (i : Int)
      · refine Ev.ite_neg ?_ (Ev.eq (Ev.now _) ?_)
        · rw [if_neg h1, if_pos h2]; omega
        · rw [if_neg h1, if_pos h2, if_neg h1, if_pos h2]
      · rw [wrap64_succ (by omega)]
        refine Ev.ite_pos ?_ (Ev.eq ih ?_)
        · rw [if_neg h1, if_neg h2]
        · rw [if_neg h1, if_neg h2]
theorem ev_better (c d : Int × List Int) (hl : c.2.length ≤ 1000000) : Ev (fun k => impl_cutList_better.f k c.1 c.2 d.1 d.2) (betC c d) := by
  unfold impl_cutList_better.f betC
  by_cases h1 : c.1 = d.1
  · rw [if_neg (by simpa using h1)]
    refine Ev.ite_pos h1 ?_
    by_cases h2 : c.2.length = d.2.length
    · rw [if_neg (by simpa using h2)]
      refine Ev.ite_pos (by omega) (Ev.bind (ev_Compare c.2 d.2 h2 hl) (Ev.eq (Ev.now _) (cmpL_less _ _ h2)))
    · rw [if_pos h2]
      refine Ev.ite_neg (by omega) (Ev.eq (Ev.now _) ?_)
      by_cases h3 : c.2.length < d.2.length
      · rw [decide_eq_true h3, decide_eq_true (by omega)]
      · rw [decide_eq_false h3, decide_eq_false (by omega)]
  · rw [if_pos h1]
    exact Ev.ite_neg h1 (Ev.now _)
end
end Go.Proofs.Ytellojkbfnfacaa.Q
