/- A list compared with itself; no conditions beyond those written. -/
import Derived.Test.YteobbgofbedgdaaQx0
import Derived.Test.YteobbgofbedgdaaQx1
import Derived.Test.YteobbgofbedgdaaSbase
namespace Go.Proofs.Yteobbgofbedgdaa.Q
open Go.RowKit Go.Proofs.YteobbgofbedgdaaW.PrintWords Go.Proofs.YteobbgofbedgdaaW.PrintLast Go.Proofs.YteobbgofbedgdaaW.PrintMore
attribute [local go_sem] max2_int min2_int max_two min_two max_three min_three max_four min_four   -- for this text's walks alone
set_option linter.unusedVariables false
set_option linter.unusedSimpArgs false

theorem ev_eqJ (a b : List Int) (h : a.length ≤ 35184372088832) : Ev (fun k => laws_eqInt64S.f k a b) (decide (a = b)) := by
  unfold laws_eqInt64S.f
  by_cases hl : (a.length : Int) = (b.length : Int)
  · refine Ev.ite_pos hl ?_
    have hl' : a.length = b.length := by omega
    have key := Ev.down (fun i k => laws_eqInt64S.l0 k a b (i : Int)) a.length (fun i => decide (a.drop i = b.drop i)) ?_ ?_ 0 (Nat.zero_le _)
    · exact Ev.eq key (by simp)
    · apply Ev.succ
      simp only [laws_eqInt64S.l0]
      refine Ev.ite_neg (by omega) (Ev.eq (Ev.now _) ?_)
      simp [hl']
    · intro i hi ih
      apply Ev.succ
      simp only [laws_eqInt64S.l0]
      refine Ev.ite_pos (by omega) (Ev.ite_pos (by omega) (Ev.ite_pos (by omega) ?_))
      rw [drop_rd a i hi, drop_rd b i (by omega)]
      by_cases hx : rd a (i : Int) = rd b (i : Int)
      · refine Ev.ite_pos hx ?_
        rw [wrap64_succ (by omega)]
        refine Ev.eq ih ?_
        simp [hx]
      · exact Ev.ite_neg hx (Ev.eq (Ev.now _) (by simp [hx]))
  · refine Ev.ite_neg hl (Ev.eq (Ev.now _) ?_)
    have : a ≠ b := fun e => hl (by rw [e])
    simp [this]
theorem ev_eqJ_same (a : List Int) (h : a.length ≤ 35184372088832) : Ev (fun k => laws_eqInt64S.f k a a) true := Ev.eq (ev_eqJ a a h) (by simp)
end Go.Proofs.Yteobbgofbedgdaa.Q
