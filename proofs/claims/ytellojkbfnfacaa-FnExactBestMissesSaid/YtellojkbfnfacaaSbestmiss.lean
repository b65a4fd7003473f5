/- The least number of misses: both sides' are the same; no conditions beyond those written. -/
import Derived.Test.YtellojkbfnfacaaQx0
import Derived.Test.YtellojkbfnfacaaQx6
import Derived.Test.YtellojkbfnfacaaQx7
import Derived.Test.YtellojkbfnfacaaSbase
import Derived.Test.YtellojkbfnfacaaSbest
import Derived.Test.YtellojkbfnfacaaSbest5
namespace Go.Proofs.Ytellojkbfnfacaa.Q
open Go.RowKit Go.Proofs.YtellojkbfnfacaaW.PrintWords Go.Proofs.YtellojkbfnfacaaW.PrintLast Go.Proofs.YtellojkbfnfacaaW.PrintMore
attribute [local go_sem] max2_int min2_int max_two min_two max_three min_three max_four min_four   -- for this text's walks alone
set_option linter.unusedVariables false
set_option linter.unusedSimpArgs false

theorem rd_bHits (U : List Int) (n : Int) (m i : Nat) (h : i < m) : rd (bHits U n m) (i : Int) = if bHit U n i = true then 1 else 0 := by
  rw [rd_lt _ i (by rw [bHits_length]; exact h)]
  unfold bHits
  rw [List.getElem_map, List.getElem_range]
theorem rd_bHitsB (U : List Int) (n : Int) (m i : Nat) (h : i < m) : rdOf false (bHitsB U n m) (i : Int) = bHit U n i := by
  show (bHitsB U n m).getD i false = _
  rw [List.getD_eq_getElem?_getD, List.getElem?_eq_getElem (by rw [bHitsB_length]; exact h), Option.getD_some]
  unfold bHitsB
  rw [List.getElem_map, List.getElem_range]
def hitTo (U : List Int) (n : Int) : Nat → Nat
  | 0 => 0
  | i + 1 => hitTo U n i + if bHit U n i = true then 1 else 0
theorem hitTo_le (U : List Int) (n : Int) (i : Nat) : hitTo U n i ≤ i := by
  induction i with
  | zero => simp [hitTo]
  | succ i ih => unfold hitTo; split <;> omega
def leastMiss (U : List Int) (n : Int) : Int := (U.length : Int) - (hitTo U n U.length : Int)
section
variable (U : List Int) (n : Int) (hn : 1 ≤ n) (hn6 : n ≤ 6) (hU : ∀ x ∈ U, 0 ≤ x ∧ x ≤ 63) (hl : U.length ≤ 60)
include hn hn6 hU hl
theorem ev_bestMisses : Ev (fun k => impl_bestMisses.f k U n) (leastMiss U n) := by
  unfold impl_bestMisses.f
  refine Ev.bind (ev_bestRun U n hn hn6 hU hl) (Ev.cbind rfl ?_)
  show Ev (fun k => impl_bestMisses.l0 k (U.length : Int) (bHits U n U.length) ((bHits U n U.length).length : Int) 0) _
  rw [bHits_length]
  have key := Ev.up (fun i k => impl_bestMisses.l0 k ((U.length : Int) - (hitTo U n i : Int)) (bHits U n U.length) (U.length : Int) (i : Int)) U.length (leastMiss U n) ?_ ?_
  · simpa [hitTo] using key
  · apply Ev.succ
    simp only [impl_bestMisses.l0]
    exact Ev.ite_neg (by omega) (Ev.now _)
  · intro i hi ih
    have h0 := hitTo_le U n i
    apply Ev.succ
    simp only [impl_bestMisses.l0]
    refine Ev.ite_pos (by omega) (Ev.ite_pos (by omega) (Ev.ite_pos (by rw [bHits_length]; omega) ?_))
    rw [wrap64_succ (by omega), rd_bHits U n U.length i hi]
    unfold hitTo at ih
    by_cases hb : bHit U n i = true
    · rw [if_pos hb] at ih ⊢
      rw [wrap64_id (by omega) (by omega), show (U.length : Int) - (hitTo U n i : Int) - 1 = (U.length : Int) - ((hitTo U n i + 1 : Nat) : Int) by omega]
      exact ih
    · rw [if_neg hb] at ih ⊢
      rw [wrap64_id (by omega) (by omega), show (U.length : Int) - (hitTo U n i : Int) - 0 = (U.length : Int) - ((hitTo U n i + 0 : Nat) : Int) by omega]
      exact ih
theorem ev_l05Misses : Ev (fun k => spec_l05Misses.f k U n) (leastMiss U n) := by
  unfold spec_l05Misses.f
  refine Ev.bind (ev_l05Run U n hn hn6 hU hl) ?_
  have key := Ev.up (fun i k => spec_l05Misses.l0 k (bHitsB U n U.length) ((i : Int) - (hitTo U n i : Int)) (i : Int)) U.length (leastMiss U n) ?_ ?_
  · simpa [hitTo] using key
  · apply Ev.succ
    simp only [spec_l05Misses.l0, bHitsB_length]
    exact Ev.ite_neg (by omega) (Ev.now _)
  · intro i hi ih
    have h0 := hitTo_le U n i
    apply Ev.succ
    simp only [spec_l05Misses.l0, bHitsB_length]
    refine Ev.ite_pos (by omega) (Ev.ite_pos (by omega) ?_)
    rw [wrap64_succ (by omega), rd_bHitsB U n U.length i hi]
    unfold hitTo at ih
    by_cases hb : bHit U n i = true
    · rw [if_pos hb, show ((i + 1 : Nat) : Int) - ((hitTo U n i + 1 : Nat) : Int) = (i : Int) - (hitTo U n i : Int) by omega] at ih
      exact Ev.ite_pos hb ih
    · rw [if_neg hb] at ih
      rw [wrap64_id (by omega) (by omega), show (i : Int) - (hitTo U n i : Int) + 1 = ((i + 1 : Nat) : Int) - ((hitTo U n i + 0 : Nat) : Int) by omega]
      exact Ev.ite_neg hb ih
end
end Go.Proofs.Ytellojkbfnfacaa.Q
