/- Parts of the proof, laid together: contracts and lemmas; no conditions beyond those written. -/
import Derived.Test.YteobbgofbedgdaaQx0
import Derived.Test.YteobbgofbedgdaaHsetOf
import Derived.Test.YteobbgofbedgdaaSsetldef
import Derived.Test.YteobbgofbedgdaaSown
import Derived.Test.YteobbgofbedgdaaQx2
import Derived.Test.YteobbgofbedgdaaSbase
namespace Go.Proofs.Yteobbgofbedgdaa.Q
open Go.RowKit Go.Proofs.YteobbgofbedgdaaW.PrintWords Go.Proofs.YteobbgofbedgdaaW.PrintLast Go.Proofs.YteobbgofbedgdaaW.PrintMore
attribute [local go_sem] max2_int min2_int max_two min_two max_three min_three max_four min_four   -- for this text's walks alone
set_option linter.unusedVariables false
set_option linter.unusedSimpArgs false
section
theorem impl_setOf_f (l : List Int) (h : l.length ≤ 17592186044416) : impl_setOf.f l = some (setL l) := by unfold impl_setOf.f; rw [if_pos h]
end
section
def okUses (l : List Int) : Bool := (l.all okAddr) && decide (l.length ≤ 60)
theorem okUses_iff (l : List Int) : okUses l = true ↔ (∀ x ∈ l, 0 ≤ x ∧ x ≤ 63) ∧ l.length ≤ 60 := by
  simp [okUses, okAddr]
end
section
theorem ev_slices_Index (l : List Int) (a : Int) (h : l.length ≤ 35184372088832) : Ev (fun k => slices_Index_int64_int64.f k l a) (if l.findIdx (fun x => x == a) < l.length then (l.findIdx (fun x => x == a) : Int) else -1) := by
  unfold slices_Index_int64_int64.f
  have key := Ev.down (fun i k => slices_Index_int64_int64.l0 k l a (l.length : Int) (i : Int)) l.length (fun i => if (l.drop i).findIdx (fun x => x == a) < (l.drop i).length then (((i + (l.drop i).findIdx (fun x => x == a) : Nat)) : Int) else -1) ?_ ?_ 0 (Nat.zero_le _)
  · exact Ev.eq key (by simp)
  · apply Ev.succ
    simp only [slices_Index_int64_int64.l0]
    exact Ev.ite_neg (by omega) (Ev.eq (Ev.now _) (by simp))
  · intro i hi ih
    apply Ev.succ
    simp only [slices_Index_int64_int64.l0]
    refine Ev.ite_pos (by omega) (Ev.ite_pos (by omega) (Ev.ite_pos (by omega) ?_))
    rw [drop_rd l i hi, List.findIdx_cons, List.length_cons]
    by_cases hx : a = rd l (i : Int)
    · refine Ev.ite_pos hx (Ev.eq (Ev.now _) ?_)
      simp [← hx]
    · refine Ev.ite_neg hx ?_
      rw [wrap64_succ (by omega)]
      have hne : (rd l (i : Int) == a) = false := by simp; exact fun e => hx e.symm
      refine Ev.eq ih ?_
      simp only [hne, cond_false]
      by_cases hlt : (l.drop (i + 1)).findIdx (fun x => x == a) < (l.drop (i + 1)).length
      · rw [if_pos hlt, if_pos (by omega)]; omega
      · rw [if_neg hlt, if_neg (by omega)]
end
end Go.Proofs.Yteobbgofbedgdaa.Q
