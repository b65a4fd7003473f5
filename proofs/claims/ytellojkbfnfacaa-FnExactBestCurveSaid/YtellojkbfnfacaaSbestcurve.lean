/- The least misses of all ways; no conditions beyond those written. -/
import Derived.Test.YtellojkbfnfacaaQx0
import Derived.Test.YtellojkbfnfacaaQx1
import Derived.Test.YtellojkbfnfacaaQx7
import Derived.Test.YtellojkbfnfacaaSbase
import Derived.Test.YtellojkbfnfacaaSbestmiss
namespace Go.Proofs.Ytellojkbfnfacaa.Q
open Go.RowKit Go.Proofs.YtellojkbfnfacaaW.PrintWords Go.Proofs.YtellojkbfnfacaaW.PrintLast Go.Proofs.YtellojkbfnfacaaW.PrintMore
attribute [local go_sem] max2_int min2_int max_two min_two max_three min_three max_four min_four   -- for this text's walks alone
set_option linter.unusedVariables false
set_option linter.unusedSimpArgs false

def leastTo (U : List Int) (j : Nat) : List Int := (List.range j).map fun (t : Nat) => leastMiss U ((t : Int) + 1)
theorem leastTo_succ (U : List Int) (j : Nat) : leastTo U (j + 1) = leastTo U j ++ [leastMiss U ((j : Int) + 1)] := by unfold leastTo; rw [List.range_succ, List.map_append]; rfl
theorem leastTo_length (U : List Int) (j : Nat) : (leastTo U j).length = j := by simp [leastTo]
section
variable (U : List Int) (hU : ∀ x ∈ U, 0 ≤ x ∧ x ≤ 63) (hl : U.length ≤ 60)
include hU hl
theorem ev_impl_bestCurve : Ev (fun k => impl_BestCurve.l0 k U [] 1) (leastTo U 6, true) := by
  refine Ev.up (fun j k => impl_BestCurve.l0 k U (leastTo U j) ((j : Int) + 1)) 6 _ ?_ ?_
  · apply Ev.succ
    simp only [impl_BestCurve.l0]
    exact Ev.ite_neg (by omega) (Ev.now _)
  · intro j hj ih
    have h0 := leastTo_length U j
    apply Ev.succ
    simp only [impl_BestCurve.l0]
    rw [leastTo_succ] at ih
    refine Ev.ite_pos (by omega) (Ev.bind (ev_bestMisses U _ (by omega) (by omega) hU hl) (Ev.ite_pos (by omega) ?_))
    rw [wrap64_id (by omega) (by omega), show (j : Int) + 1 + 1 = ((j + 1 : Nat) : Int) + 1 by omega]
    exact ih
theorem ev_spec_bestCurve : Ev (fun k => spec_BestCurve.l0 k U [] 1) (leastTo U 6, true) := by
  refine Ev.up (fun j k => spec_BestCurve.l0 k U (leastTo U j) ((j : Int) + 1)) 6 _ ?_ ?_
  · apply Ev.succ
    simp only [spec_BestCurve.l0]
    exact Ev.ite_neg (by omega) (Ev.now _)
  · intro j hj ih
    have h0 := leastTo_length U j
    apply Ev.succ
    simp only [spec_BestCurve.l0]
    rw [leastTo_succ] at ih
    refine Ev.ite_pos (by omega) (Ev.bind (ev_l05Misses U _ (by omega) (by omega) hU hl) (Ev.ite_pos (by omega) ?_))
    rw [wrap64_id (by omega) (by omega), show (j : Int) + 1 + 1 = ((j + 1 : Nat) : Int) + 1 by omega]
    exact ih
end
end Go.Proofs.Ytellojkbfnfacaa.Q
