/- The rising numbers from 0; no conditions beyond those written. -/
import Derived.Test.YthaipkhgemachaaQx0
import Derived.Test.YthaipkhgemachaaQx1
import Derived.Test.YthaipkhgemachaaSbase
import Derived.Test.YthaipkhgemachaaSupto
namespace Go.Proofs.Ythaipkhgemachaa.Q
open Go.RowKit Go.Proofs.YthaipkhgemachaaW.PrintWords Go.Proofs.YthaipkhgemachaaW.PrintLast Go.Proofs.YthaipkhgemachaaW.PrintMore
attribute [local go_sem] max2_int min2_int max_two min_two max_three min_three max_four min_four   -- for this text's walks alone
set_option linter.unusedVariables false
set_option linter.unusedSimpArgs false

theorem ev_ascending (n : Nat) (hn : n ≤ 1000000) : Ev (fun k => impl_ascending.f k (n : Int)) (upto (fun j => (j : Int)) n) := by
  unfold impl_ascending.f
  refine Ev.up (fun i k => impl_ascending.l0 k (upto (fun j => (j : Int)) i) (n : Int) (i : Int)) n _ ?_ ?_
  · apply Ev.succ
    simp only [impl_ascending.l0]
    exact Ev.ite_neg (by omega) (Ev.now _)
  · intro i hi ih
    have hl := upto_length (fun j => (j : Int)) i
    rw [upto_succ] at ih
    apply Ev.succ
    simp only [impl_ascending.l0]
    refine Ev.ite_pos (by omega) (Ev.ite_pos (by omega) ?_)
    rw [wrap64_succ (by omega)]
    exact ih
theorem upto64_mem {x : Int} (h : x ∈ upto (fun j => (j : Int)) 64) : 0 ≤ x ∧ x ≤ 63 := by
  unfold upto at h
  obtain ⟨j, hj, rfl⟩ := List.mem_map.1 h
  have := List.mem_range.1 hj
  omega
end Go.Proofs.Ythaipkhgemachaa.Q
