/- Parts of the proof, laid together: contracts and lemmas; no conditions beyond those written. -/
import Derived.Test.YtellojkbfnfacaaQx0
import Derived.Test.YtellojkbfnfacaaSsortl
import Derived.Test.YtellojkbfnfacaaQx1
import Derived.Test.YtellojkbfnfacaaSisin
import Derived.Test.YtellojkbfnfacaaSbase
import Derived.Test.YtellojkbfnfacaaSintervals
namespace Go.Proofs.Ytellojkbfnfacaa.Q
open Go.RowKit Go.Proofs.YtellojkbfnfacaaW.PrintWords Go.Proofs.YtellojkbfnfacaaW.PrintLast Go.Proofs.YtellojkbfnfacaaW.PrintMore
attribute [local go_sem] max2_int min2_int max_two min_two max_three min_three max_four min_four   -- for this text's walks alone
set_option linter.unusedVariables false
set_option linter.unusedSimpArgs false
section
def okUses (l : List Int) : Bool := (l.all okAddr) && decide (l.length ≤ 60)
theorem okUses_iff (l : List Int) : okUses l = true ↔ (∀ x ∈ l, 0 ≤ x ∧ x ≤ 63) ∧ l.length ≤ 60 := by
  simp [okUses, okAddr]
end
section
theorem spec_l00In_f (n lo hi : Int) : spec_l00In.f n lo hi = some (isIn lo hi n) := by
  unfold spec_l00In.f isIn
  by_cases h : n ≥ lo
  · rw [if_pos h]; simp [show lo ≤ n from h]
  · rw [if_neg h]; simp; omega
end
section
theorem ev_l05Intervals (l : List Int) (h : l.length ≤ 60) : Ev (fun k => spec_l05Intervals.f k l) (ivs l) := by
  unfold spec_l05Intervals.f
  refine Ev.up (fun i k => spec_l05Intervals.l0 k l (ivsTo l i) (i : Int)) l.length (ivs l) ?_ ?_
  · apply Ev.succ
    simp only [spec_l05Intervals.l0]
    exact Ev.ite_neg (by omega) (Ev.now _)
  · intro i hi ih
    apply Ev.succ
    simp only [spec_l05Intervals.l0]
    have hlen := ivsTo_length l i
    refine Ev.ite_pos (by omega) (Ev.ite_pos (by omega) (Ev.bind (ev_l05Next l _ i (by omega) (by omega)) ?_))
    rw [wrap64_succ (by omega)]
    have e := ivsTo_succ l i
    by_cases hlt : nx l (rd l (i : Int)) (i + 1) < l.length
    · rw [if_pos hlt] at e ⊢
      refine Ev.ite_pos (by omega) (Ev.ite_pos (by omega) ?_)
      rw [← e]; exact ih
    · rw [if_neg hlt] at e ⊢
      refine Ev.ite_neg (by omega) ?_
      rw [List.append_nil] at e
      rw [← e]; exact ih
end
end Go.Proofs.Ytellojkbfnfacaa.Q
