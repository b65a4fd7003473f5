/- Parts of the proof, laid together: contracts and lemmas; no conditions beyond those written. -/
import Derived.Test.YteobbgofbedgdaaQx0
import Derived.Test.YteobbgofbedgdaaQx1
import Derived.Test.YteobbgofbedgdaaSbase
import Derived.Test.YteobbgofbedgdaaSisin
import Derived.Test.YteobbgofbedgdaaSokaddr
import Derived.Test.YteobbgofbedgdaaSivsimpl
import Derived.Test.YteobbgofbedgdaaSintervals
namespace Go.Proofs.Yteobbgofbedgdaa.Q
open Go.RowKit Go.Proofs.YteobbgofbedgdaaW.PrintWords Go.Proofs.YteobbgofbedgdaaW.PrintLast Go.Proofs.YteobbgofbedgdaaW.PrintMore
attribute [local go_sem] max2_int min2_int max_two min_two max_three min_three max_four min_four   -- for this text's walks alone
set_option linter.unusedVariables false
set_option linter.unusedSimpArgs false
section
theorem ev_l05Fine (l : List Int) (ways : Int) (h : l.length ≤ 35184372088832) : Ev (fun k => spec_l05Fine.f k l ways) (okUses l && isIn 1 6 ways) := by
  unfold spec_l05Fine.f
  refine Ev.bind (ev_l02Uses l (by omega)) ?_
  cases hu : okUses l with
  | true =>
    refine Ev.ite_pos rfl (Ev.cbind (a := isIn 1 6 ways) ?_ (Ev.now _))
    unfold spec_l03Ways.f
    rw [spec_l00In_f]; rfl
  | false => exact Ev.ite_neg (by simp) (Ev.now _)
end
section
theorem ev_l05Intervals (l : List Int) (h : l.length ≤ 60) : Ev (fun k => spec_l05Intervals.f k l) (ivs l) := by
  unfold spec_l05Intervals.f
  refine Ev.up (fun i k => spec_l05Intervals.l0 k l (ivsTo l i) (i : Int)) l.length (ivs l) ?_ ?_
  · apply Ev.succ
    simp only [spec_l05Intervals.l0]
    exact Ev.ite_neg (by omega) (Ev.now _)
  · intro i hi ih
    apply Ev.succ
    simp only [spec_l05Intervals.l0]
    have hlen := ivsTo_length l i
    refine Ev.ite_pos (by omega) (Ev.ite_pos (by omega) (Ev.bind (ev_l05Next l _ i (by omega) (by omega)) ?_))
    rw [wrap64_succ (by omega)]
    have e := ivsTo_succ l i
    by_cases hlt : nx l (rd l (i : Int)) (i + 1) < l.length
    · rw [if_pos hlt] at e ⊢
      refine Ev.ite_pos (by omega) (Ev.ite_pos (by omega) ?_)
      rw [← e]; exact ih
    · rw [if_neg hlt] at e ⊢
      refine Ev.ite_neg (by omega) ?_
      rw [List.append_nil] at e
      rw [← e]; exact ih
end
end Go.Proofs.Yteobbgofbedgdaa.Q
