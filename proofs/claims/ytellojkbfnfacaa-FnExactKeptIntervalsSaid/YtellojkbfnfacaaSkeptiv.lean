/- The kept intervals: both sides' are the same; no conditions beyond those written. -/
import Derived.Test.YtellojkbfnfacaaQx0
import Derived.Test.YtellojkbfnfacaaQx6
import Derived.Test.YtellojkbfnfacaaQx7
import Derived.Test.YtellojkbfnfacaaSbase
import Derived.Test.YtellojkbfnfacaaSbest
import Derived.Test.YtellojkbfnfacaaSintervals
namespace Go.Proofs.Ytellojkbfnfacaa.Q
open Go.RowKit Go.Proofs.YtellojkbfnfacaaW.PrintWords Go.Proofs.YtellojkbfnfacaaW.PrintLast Go.Proofs.YtellojkbfnfacaaW.PrintMore
attribute [local go_sem] max2_int min2_int max_two min_two max_three min_three max_four min_four   -- for this text's walks alone
set_option linter.unusedVariables false
set_option linter.unusedSimpArgs false

def endOf (U : List Int) (k : Nat) : Int := rd ((ivs U).getD k []) 1
def keptTo (U : List Int) (n : Int) (j : Nat) : List Int := ((List.range j).filter fun k => bHit U n (endOf U k).toNat).map fun (k : Nat) => (k : Int)
theorem keptTo_succ (U : List Int) (n : Int) (j : Nat) : keptTo U n (j + 1) = keptTo U n j ++ (if bHit U n (endOf U j).toNat = true then [(j : Int)] else []) := by
  unfold keptTo
  rw [List.range_succ, List.filter_append, List.map_append]
  congr 1
  by_cases h : bHit U n (endOf U j).toNat = true <;> simp [List.filter_cons, h]
theorem keptTo_length (U : List Int) (n : Int) (j : Nat) : (keptTo U n j).length ≤ j := by
  unfold keptTo
  rw [List.length_map]
  have := List.length_filter_le (fun k => bHit U n (endOf U k).toNat) (List.range j)
  simpa using this
theorem endOf_range (U : List Int) (k : Nat) (h : k < (ivs U).length) : (((ivs U).getD k []).length : Int) = 2 ∧ 0 ≤ endOf U k ∧ endOf U k < (U.length : Int) := by
  obtain ⟨i, j, e, hij, hj⟩ := ivs_mem (List.getElem_mem h)
  have hg : (ivs U).getD k [] = [(i : Int), (j : Int)] := by rw [List.getD_eq_getElem?_getD, List.getElem?_eq_getElem h, Option.getD_some, e]
  unfold endOf
  rw [hg]
  exact ⟨rfl, by show 0 ≤ (j : Int); omega, by show (j : Int) < _; omega⟩
theorem rdL_getD (X : List (List Int)) (k : Nat) : rd_L1 X (k : Int) = X.getD k [] := rfl
section
variable (U : List Int) (n : Int) (hl : U.length ≤ 60)
include hl
theorem ev_impl_kept : Ev (fun k => impl_KeptIntervals.l0 k (bHits U n U.length) [] (ivs U) ((ivs U).length : Int) 0) (keptTo U n (ivs U).length, true) := by
  have hiv := ivsTo_length U U.length
  have hiv2 : (ivs U).length ≤ 60 := Nat.le_trans hiv hl
  refine Ev.up (fun j k => impl_KeptIntervals.l0 k (bHits U n U.length) (keptTo U n j) (ivs U) ((ivs U).length : Int) (j : Int)) (ivs U).length _ ?_ ?_
  · apply Ev.succ
    simp only [impl_KeptIntervals.l0]
    exact Ev.ite_neg (by omega) (Ev.now _)
  · intro j hj ih
    have h0 := keptTo_length U n j
    obtain ⟨h1, h2, h3⟩ := endOf_range U j hj
    rw [keptTo_succ] at ih
    apply Ev.succ
    simp only [impl_KeptIntervals.l0]
    rw [rdL_getD, wrap64_succ (by omega)]
    refine Ev.ite_pos (by omega) (Ev.ite_pos (by omega) (Ev.ite_pos (by omega) (Ev.ite_pos (by omega) (Ev.ite_pos h2 (Ev.ite_pos (by rw [bHits_length]; exact h3) ?_)))))
    have e : rd (bHits U n U.length) (rd ((ivs U).getD j []) 1) = if bHit U n (endOf U j).toNat = true then 1 else 0 := by
      have := rd_bHits U n U.length (endOf U j).toNat (by omega)
      rw [Int.toNat_of_nonneg h2] at this
      exact this
    rw [e]
    by_cases hb : bHit U n (endOf U j).toNat = true
    · rw [if_pos hb] at ih ⊢
      exact Ev.ite_pos rfl (Ev.ite_pos (by omega) ih)
    · rw [if_neg hb, List.append_nil] at ih
      rw [if_neg hb]
      exact Ev.ite_neg (by omega) ih
theorem ev_spec_kept : Ev (fun k => spec_KeptIntervals.l0 k (bHitsB U n U.length) (ivs U) [] 0) (keptTo U n (ivs U).length, true) := by
  have hiv := ivsTo_length U U.length
  have hiv2 : (ivs U).length ≤ 60 := Nat.le_trans hiv hl
  refine Ev.up (fun j k => spec_KeptIntervals.l0 k (bHitsB U n U.length) (ivs U) (keptTo U n j) (j : Int)) (ivs U).length _ ?_ ?_
  · apply Ev.succ
    simp only [spec_KeptIntervals.l0]
    exact Ev.ite_neg (by omega) (Ev.now _)
  · intro j hj ih
    have h0 := keptTo_length U n j
    obtain ⟨h1, h2, h3⟩ := endOf_range U j hj
    rw [keptTo_succ] at ih
    apply Ev.succ
    simp only [spec_KeptIntervals.l0]
    rw [rdL_getD, wrap64_succ (by omega)]
    refine Ev.ite_pos (by omega) (Ev.ite_pos (by omega) (Ev.ite_pos (by omega) (Ev.ite_pos h2 (Ev.ite_pos (by rw [bHitsB_length]; exact h3) ?_))))
    have e : rdOf false (bHitsB U n U.length) (rd ((ivs U).getD j []) 1) = bHit U n (endOf U j).toNat := by
      have := rd_bHitsB U n U.length (endOf U j).toNat (by omega)
      rw [Int.toNat_of_nonneg h2] at this
      exact this
    rw [e]
    by_cases hb : bHit U n (endOf U j).toNat = true
    · rw [if_pos hb] at ih
      exact Ev.ite_pos hb (Ev.ite_pos (by omega) ih)
    · rw [if_neg hb, List.append_nil] at ih
      exact Ev.ite_neg hb ih
end
end Go.Proofs.Ytellojkbfnfacaa.Q
