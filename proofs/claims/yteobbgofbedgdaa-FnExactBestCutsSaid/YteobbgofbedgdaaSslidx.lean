/- slices.Index over int64; no conditions beyond those written. -/
import Derived.Test.YteobbgofbedgdaaQx0
import Derived.Test.YteobbgofbedgdaaQx2
import Derived.Test.YteobbgofbedgdaaSbase
namespace Go.Proofs.Yteobbgofbedgdaa.Q
open Go.RowKit Go.Proofs.YteobbgofbedgdaaW.PrintWords Go.Proofs.YteobbgofbedgdaaW.PrintLast Go.Proofs.YteobbgofbedgdaaW.PrintMore
attribute [local go_sem] max2_int min2_int max_two min_two max_three min_three max_four min_four   -- for this text's walks alone
set_option linter.unusedVariables false
set_option linter.unusedSimpArgs false

theorem ev_slices_Index (l : List Int) (a : Int) (h : l.length ≤ 35184372088832) : Ev (fun k => slices_Index_int64_int64.f k l a) (if l.findIdx (fun x => x == a) < l.length then (l.findIdx (fun x => x == a) : Int) else -1) := by
  unfold slices_Index_int64_int64.f
  have key := Ev.down (fun i k => slices_Index_int64_int64.l0 k l a (l.length : Int) (i : Int)) l.length (fun i => if (l.drop i).findIdx (fun x => x == a) < (l.drop i).length then (((i + (l.drop i).findIdx (fun x => x == a) : Nat)) : Int) else -1) ?_ ?_ 0 (Nat.zero_le _)
  · exact Ev.eq key (by simp)
  · apply Ev.succ
    simp only [slices_Index_int64_int64.l0]
    exact Ev.ite_neg (by omega) (Ev.eq (Ev.now _) (by simp))
  · intro i hi ih
    apply Ev.succ
    simp only [slices_Index_int64_int64.l0]
    refine Ev.ite_pos (by omega) (Ev.ite_pos (by omega) (Ev.ite_pos (by omega) ?_))
    rw [drop_rd l i hi, List.findIdx_cons, List.length_cons]
    by_cases hx : a = rd l (i : Int)
    · refine Ev.ite_pos hx (Ev.eq (Ev.now _) ?_)
      simp [← hx]
    · refine Ev.ite_neg hx ?_
      rw [wrap64_succ (by omega)]
      have hne : (rd l (i : Int) == a) = false := by simp; exact fun e => hx e.symm
      refine Ev.eq ih ?_
      simp only [hne, cond_false]
      by_cases hlt : (l.drop (i + 1)).findIdx (fun x => x == a) < (l.drop (i + 1)).length
      · rw [if_pos hlt, if_pos (by omega)]; omega
      · rw [if_neg hlt, if_neg (by omega)]
end Go.Proofs.Yteobbgofbedgdaa.Q
