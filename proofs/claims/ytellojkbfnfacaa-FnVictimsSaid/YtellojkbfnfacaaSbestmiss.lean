/- The least number of misses: both sides' are the same; no conditions beyond those written. -/
import Derived.Test.YtellojkbfnfacaaQx0
import Derived.Test.YtellojkbfnfacaaQx6
import Derived.Test.YtellojkbfnfacaaSbase
import Derived.Test.YtellojkbfnfacaaSbest
namespace Go.Proofs.Ytellojkbfnfacaa.Q
open Go.RowKit Go.Proofs.YtellojkbfnfacaaW.PrintWords Go.Proofs.YtellojkbfnfacaaW.PrintLast Go.Proofs.YtellojkbfnfacaaW.PrintMore
attribute [local go_sem] max2_int min2_int max_two min_two max_three min_three max_four min_four   -- for this text's walks alone
set_option linter.unusedVariables false
set_option linter.unusedSimpArgs false

def hitTo (U : List Int) (n : Int) : Nat → Nat
  | 0 => 0
  | i + 1 => hitTo U n i + if bHit U n i = true then 1 else 0
theorem hitTo_le (U : List Int) (n : Int) (i : Nat) : hitTo U n i ≤ i := by
  induction i with
  | zero => simp [hitTo]
  | succ i ih => unfold hitTo; split <;> omega
def leastMiss (U : List Int) (n : Int) : Int := (U.length : Int) - (hitTo U n U.length : Int)
section
variable (U : List Int) (n : Int) (hn : 1 ≤ n) (hn6 : n ≤ 6) (hU : ∀ x ∈ U, 0 ≤ x ∧ x ≤ 63) (hl : U.length ≤ 60)
include hn hn6 hU hl
theorem ev_bestMisses : Ev (fun k => impl_bestMisses.f k U n) (leastMiss U n) := by
  unfold impl_bestMisses.f
  refine Ev.bind (ev_bestRun U n hn hn6 hU hl) (Ev.cbind rfl ?_)
  show Ev (fun k => impl_bestMisses.l0 k (U.length : Int) (bHits U n U.length) ((bHits U n U.length).length : Int) 0) _
  rw [bHits_length]
  have key := Ev.up (fun i k => impl_bestMisses.l0 k ((U.length : Int) - (hitTo U n i : Int)) (bHits U n U.length) (U.length : Int) (i : Int)) U.length (leastMiss U n) ?_ ?_
  · simpa [hitTo] using key
  · apply Ev.succ
    simp only [impl_bestMisses.l0]
    exact Ev.ite_neg (by omega) (Ev.now _)
  · intro i hi ih
    have h0 := hitTo_le U n i
    apply Ev.succ
    simp only [impl_bestMisses.l0]
    refine Ev.ite_pos (by omega) (Ev.ite_pos (by omega) (Ev.ite_pos (by rw [bHits_length]; omega) ?_))
    rw [wrap64_succ (by omega), rd_bHits U n U.length i hi]
    unfold hitTo at ih
    by_cases hb : bHit U n i = true
    · rw [if_pos hb] at ih ⊢
      rw [wrap64_id (by omega) (by omega), show (U.length : Int) - (hitTo U n i : Int) - 1 = (U.length : Int) - ((hitTo U n i + 1 : Nat) : Int) by omega]
      exact ih
    · rw [if_neg hb] at ih ⊢
      rw [wrap64_id (by omega) (by omega), show (U.length : Int) - (hitTo U n i : Int) - 0 = (U.length : Int) - ((hitTo U n i + 0 : Nat) : Int) by omega]
      exact ih
end
end Go.Proofs.Ytellojkbfnfacaa.Q
