/- What is replaced at each use by the best replacement, and the hits; no conditions beyond those written. -/
import Derived.Test.YtellojkbfnfacaaQx0
import Derived.Test.YtellojkbfnfacaaHvictim
import Derived.Test.YtellojkbfnfacaaQx2
import Derived.Test.YtellojkbfnfacaaSbase
import Derived.Test.YtellojkbfnfacaaSsetldef
import Derived.Test.YtellojkbfnfacaaSivsimpl
import Derived.Test.YtellojkbfnfacaaSlenalias
import Derived.Test.YtellojkbfnfacaaSslidx
namespace Go.Proofs.Ytellojkbfnfacaa.Q
open Go.RowKit Go.Proofs.YtellojkbfnfacaaW.PrintWords Go.Proofs.YtellojkbfnfacaaW.PrintLast Go.Proofs.YtellojkbfnfacaaW.PrintMore
attribute [local go_sem] max2_int min2_int max_two min_two max_three min_three max_four min_four   -- for this text's walks alone
set_option linter.unusedVariables false
set_option linter.unusedSimpArgs false

def bIdx (S : List Int) (v : Int) : Nat := S.findIdx fun x => x == v
def bVic (U S : List Int) (i : Nat) : Int := maxBy (vcmp U (i + 1)) (setL S)
def bNext (U : List Int) (n : Int) (S : List Int) (i : Nat) : List Int := if rd U (i : Int) ∈ S then S else if (S.length : Int) < n then S ++ [rd U (i : Int)] else S.set (bIdx S (bVic U S i)) (rd U (i : Int))
def bOld (U : List Int) (n : Int) (S : List Int) (i : Nat) : Int := if rd U (i : Int) ∈ S then -1 else if (S.length : Int) < n then -1 else bVic U S i
def bIn (U : List Int) (n : Int) : Nat → List Int
  | 0 => []
  | i + 1 => bNext U n (bIn U n i) i
def bHit (U : List Int) (n : Int) (j : Nat) : Bool := decide (rd U (j : Int) ∈ bIn U n j)
def bVics (U : List Int) (n : Int) (i : Nat) : List Int := (List.range i).map fun j => bOld U n (bIn U n j) j
def bHitsB (U : List Int) (n : Int) (i : Nat) : List Bool := (List.range i).map (bHit U n)
def bHits (U : List Int) (n : Int) (i : Nat) : List Int := (List.range i).map fun j => if bHit U n j = true then 1 else 0
theorem bVics_succ (U : List Int) (n : Int) (i : Nat) : bVics U n (i + 1) = bVics U n i ++ [bOld U n (bIn U n i) i] := by unfold bVics; rw [List.range_succ, List.map_append]; rfl
theorem bHitsB_succ (U : List Int) (n : Int) (i : Nat) : bHitsB U n (i + 1) = bHitsB U n i ++ [bHit U n i] := by unfold bHitsB; rw [List.range_succ, List.map_append]; rfl
theorem bHits_succ (U : List Int) (n : Int) (i : Nat) : bHits U n (i + 1) = bHits U n i ++ [if bHit U n i = true then 1 else 0] := by unfold bHits; rw [List.range_succ, List.map_append]; rfl
theorem bVics_length (U : List Int) (n : Int) (i : Nat) : (bVics U n i).length = i := by simp [bVics]
theorem bHitsB_length (U : List Int) (n : Int) (i : Nat) : (bHitsB U n i).length = i := by simp [bHitsB]
theorem bHits_length (U : List Int) (n : Int) (i : Nat) : (bHits U n i).length = i := by simp [bHits]
theorem rd_bHits (U : List Int) (n : Int) (m i : Nat) (h : i < m) : rd (bHits U n m) (i : Int) = if bHit U n i = true then 1 else 0 := by
  rw [rd_lt _ i (by rw [bHits_length]; exact h)]
  unfold bHits
  rw [List.getElem_map, List.getElem_range]
theorem rd_bHitsB (U : List Int) (n : Int) (m i : Nat) (h : i < m) : rdOf false (bHitsB U n m) (i : Int) = bHit U n i := by
  show (bHitsB U n m).getD i false = _
  rw [List.getD_eq_getElem?_getD, List.getElem?_eq_getElem (by rw [bHitsB_length]; exact h), Option.getD_some]
  unfold bHitsB
  rw [List.getElem_map, List.getElem_range]
theorem setL_nodup_length {S : List Int} (h : S.Nodup) : (setL S).length = S.length := by
  obtain ⟨h1, h2⟩ := setL_facts S
  have hn : (setL S).Nodup := h1.imp (fun h => by omega)
  exact (List.perm_ext_iff_of_nodup hn h |>.2 h2).length_eq
theorem bVic_mem (U S : List Int) (i : Nat) (h : 0 < (setL S).length) : bVic U S i ∈ S := by
  unfold bVic maxBy
  exact ((setL_facts S).2 _).1 (maxTo_mem _ _ _ (by omega))
theorem nodup_inj {S : List Int} (hd : S.Nodup) {i j : Nat} (hi : i < S.length) (hj : j < S.length) (e : S[i] = S[j]) : i = j := by
  rcases Nat.lt_trichotomy i j with h | h | h
  · exact absurd e (List.pairwise_iff_getElem.1 hd i j hi hj h)
  · exact h
  · exact absurd e.symm (List.pairwise_iff_getElem.1 hd j i hj hi h)
theorem bIdx_lt {S : List Int} {v : Int} (h : v ∈ S) : bIdx S v < S.length := List.findIdx_lt_length_of_exists ⟨v, h, by simp⟩
theorem bIdx_get {S : List Int} {v : Int} (h : v ∈ S) : S[bIdx S v]'(bIdx_lt h) = v := by
  have h2 : (fun x => x == v) (S[bIdx S v]'(bIdx_lt h)) = true := List.findIdx_getElem (w := bIdx_lt h)
  simpa using h2
theorem set_mem_iff {S : List Int} (hd : S.Nodup) {v : Int} (hv : v ∈ S) (a x : Int) : x ∈ S.set (bIdx S v) a ↔ x = a ∨ (x ∈ S ∧ x ≠ v) := by
  have hlt := bIdx_lt hv
  have hg := bIdx_get hv
  constructor
  · intro hx
    obtain ⟨j, hj, rfl⟩ := List.getElem_of_mem hx
    rw [List.length_set] at hj
    rw [List.getElem_set]
    split
    · exact .inl rfl
    · rename_i hne
      refine .inr ⟨List.getElem_mem hj, fun e => hne ?_⟩
      exact (nodup_inj hd hj hlt (e.trans hg.symm)).symm
  · rintro (rfl | ⟨hx, hne⟩)
    · exact List.mem_iff_getElem.2 ⟨bIdx S v, by rw [List.length_set]; exact hlt, by simp⟩
    · obtain ⟨j, hj, rfl⟩ := List.getElem_of_mem hx
      have hjne : bIdx S v ≠ j := by rintro rfl; exact hne hg
      exact List.mem_iff_getElem.2 ⟨j, by rw [List.length_set]; exact hj, by rw [List.getElem_set_ne hjne]⟩
theorem set_nodup {S : List Int} (hd : S.Nodup) {a : Int} (ha : a ∉ S) (i : Nat) : (S.set i a).Nodup := by
  unfold List.Nodup
  rw [List.pairwise_iff_getElem]
  intro p q hp hq hpq
  rw [List.length_set] at hp hq
  rw [List.getElem_set, List.getElem_set]
  have hpq2 : S[p] ≠ S[q] := fun e => by have := nodup_inj hd hp hq e; omega
  split
  · split
    · omega
    · exact fun e => ha (e ▸ List.getElem_mem hq)
  · split
    · exact fun e => ha (e ▸ List.getElem_mem hp)
    · exact hpq2
theorem bNext_mem (U : List Int) (n : Int) (S : List Int) (i : Nat) (x : Int) (h : x ∈ bNext U n S i) : x ∈ S ∨ x = rd U (i : Int) := by
  unfold bNext at h
  split at h
  · exact .inl h
  · split at h
    · rcases List.mem_append.1 h with h | h
      · exact .inl h
      · exact .inr (List.mem_singleton.1 h)
    · rcases List.mem_or_eq_of_mem_set h with h | h
      · exact .inl h
      · exact .inr h
theorem bIn_facts (U : List Int) (n : Int) (hn : 1 ≤ n) (hU : ∀ x ∈ U, 0 ≤ x ∧ x ≤ 63) : ∀ i, i ≤ U.length → (bIn U n i).Nodup ∧ ((bIn U n i).length : Int) ≤ n ∧ (bIn U n i).length ≤ i ∧ ∀ x ∈ bIn U n i, 0 ≤ x ∧ x ≤ 63 := by
  intro i
  induction i with
  | zero => intro _; exact ⟨by simp [bIn], by simp [bIn]; omega, by simp [bIn], by simp [bIn]⟩
  | succ i ih =>
    intro hi
    obtain ⟨h1, h2, h3, h4⟩ := ih (by omega)
    have ha : 0 ≤ rd U (i : Int) ∧ rd U (i : Int) ≤ 63 := by rw [rd_lt U i hi]; exact hU _ (List.getElem_mem hi)
    refine ⟨?_, ?_, ?_, fun x hx => ?_⟩
    · show (bNext U n (bIn U n i) i).Nodup
      unfold bNext
      split
      · exact h1
      · rename_i hm
        split
        · rw [List.nodup_append]
          refine ⟨h1, by simp, fun x hx y hy => ?_⟩
          rw [List.mem_singleton.1 hy]; rintro rfl; exact hm hx
        · exact set_nodup h1 hm _
    · show ((bNext U n (bIn U n i) i).length : Int) ≤ n
      unfold bNext
      split
      · exact h2
      · split
        · rw [List.length_append, List.length_singleton]; omega
        · rw [List.length_set]; exact h2
    · show (bNext U n (bIn U n i) i).length ≤ i + 1
      unfold bNext
      split
      · omega
      · split
        · rw [List.length_append, List.length_singleton]; omega
        · rw [List.length_set]; omega
    · rcases bNext_mem U n _ i x hx with h | h
      · exact h4 x h
      · rw [h]; exact ha
section
variable (U : List Int) (n : Int) (hn : 1 ≤ n) (hn6 : n ≤ 6) (hU : ∀ x ∈ U, 0 ≤ x ∧ x ≤ 63) (hl : U.length ≤ 60)
include hn hn6 hU hl
theorem ev_bestRun : Ev (fun k => impl_bestRun.f k U n) (bVics U n U.length, bHits U n U.length) := by
  unfold impl_bestRun.f
  refine Ev.up (fun i k => impl_bestRun.l0 k U n (bIn U n i) (bVics U n i) (bHits U n i) U (U.length : Int) (i : Int)) U.length _ ?_ ?_
  · apply Ev.succ
    simp only [impl_bestRun.l0]
    exact Ev.ite_neg (by omega) (Ev.now _)
  · intro i hi ih
    obtain ⟨h1, h2, h3, h4⟩ := bIn_facts U n hn hU i (by omega)
    have hv := bVics_length U n i
    have hh := bHits_length U n i
    have e1 : bIn U n (i + 1) = bNext U n (bIn U n i) i := rfl
    rw [e1, bVics_succ, bHits_succ] at ih
    apply Ev.succ
    simp only [impl_bestRun.l0]
    refine Ev.ite_pos (by omega) (Ev.ite_pos (by omega) (Ev.ite_pos (by omega) (Ev.bind (ev_slices_Contains _ _ (by omega)) ?_)))
    rw [wrap64_succ (by omega)]
    by_cases hm : rd U (i : Int) ∈ bIn U n i
    · have eh : bHit U n i = true := decide_eq_true hm
      rw [eh, if_pos rfl] at ih
      unfold bNext bOld at ih
      rw [if_pos hm, if_pos hm] at ih
      exact Ev.ite_pos (decide_eq_true hm) (Ev.ite_pos (by omega) (Ev.ite_pos (by omega) ih))
    · have eh : bHit U n i = false := decide_eq_false hm
      rw [eh, if_neg (by simp)] at ih
      unfold bNext bOld at ih
      rw [if_neg hm, if_neg hm] at ih
      refine Ev.ite_neg (by simpa using hm) (Ev.cbind rfl ?_)
      by_cases hf : ((bIn U n i).length : Int) < n
      · rw [if_pos hf, if_pos hf] at ih
        exact Ev.ite_pos hf (Ev.ite_pos (by omega) (Ev.ite_pos (by omega) (Ev.ite_pos (by omega) ih)))
      · rw [if_neg hf, if_neg hf] at ih
        have hpos : 0 < (setL (bIn U n i)).length := by rw [setL_nodup_length h1]; omega
        have hvm := bVic_mem U (bIn U n i) i hpos
        have hlt := bIdx_lt hvm
        refine Ev.ite_neg hf (Ev.cbind (a := bVic U (bIn U n i) i) ?_ (Ev.bind (ev_slices_Index _ _ (by omega)) ?_))
        · unfold impl_victim.f
          rw [if_pos ⟨⟨by omega, by omega⟩, by omega, by omega, hpos⟩, Int.toNat_natCast]; rfl
        · have hlt2 : List.findIdx (fun x => x == bVic U (bIn U n i) i) (bIn U n i) < (bIn U n i).length := hlt
          rw [if_pos hlt2]
          refine Ev.ite_pos (by omega) (Ev.ite_pos (by omega) (Ev.ite_pos (by omega) (Ev.ite_pos (by omega) ?_)))
          rw [Int.toNat_natCast]
          exact ih
end
end Go.Proofs.Ytellojkbfnfacaa.Q
