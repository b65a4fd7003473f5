/- Uses: what the checks of both sides come to; no conditions beyond those written. -/
import Derived.Test.YthnpcalkcjkdhaaQx0
import Derived.Test.YthnpcalkcjkdhaaHallIn
import Derived.Test.YthnpcalkcjkdhaaQx6
import Derived.Test.YthnpcalkcjkdhaaSbase
import Derived.Test.YthnpcalkcjkdhaaSl06Is
namespace Go.Proofs.Ythnpcalkcjkdhaa.Q
open Go.RowKit Go.Proofs.YthnpcalkcjkdhaaW.PrintWords Go.Proofs.YthnpcalkcjkdhaaW.PrintLast Go.Proofs.YthnpcalkcjkdhaaW.PrintMore
attribute [local go_sem] max2_int min2_int max_two min_two max_three min_three max_four min_four   -- for this text's walks alone
set_option linter.unusedVariables false
set_option linter.unusedSimpArgs false

def okUses (l : List Int) : Bool := (l.all okAddr) && decide (l.length ≤ 60)
theorem ev_l02Uses (l : List Int) (h : l.length ≤ 35184372088832) : Ev (fun k => spec_l02Uses.f k l) (okUses l) := by
  unfold spec_l02Uses.f
  have key := Ev.down (fun i k => spec_l02Uses.l0 k l (i : Int)) l.length (fun i => (l.drop i).all okAddr && decide (l.length ≤ 60)) ?_ ?_ 0 (Nat.zero_le _)
  · exact Ev.eq key (by simp [okUses])
  · apply Ev.succ
    simp only [spec_l02Uses.l0]
    refine Ev.ite_neg (by omega) (Ev.eq (Ev.now _) ?_)
    simp; omega
  · intro i hi ih
    apply Ev.succ
    simp only [spec_l02Uses.l0]
    refine Ev.ite_pos (by omega) (Ev.ite_pos (by omega) (Ev.cbind (spec_l02Address_f _) ?_))
    rw [drop_rd l i hi, List.all_cons]
    cases ha : okAddr (rd l (i : Int)) with
    | true =>
      refine Ev.ite_pos rfl ?_
      rw [wrap64_succ (by omega)]
      exact Ev.eq ih (by simp)
    | false => exact Ev.ite_neg (by simp) (Ev.eq (Ev.now _) (by simp))
theorem impl_ValidUses_f (l : List Int) : impl_ValidUses.f l = some (okUses l) := by
  unfold impl_ValidUses.f impl_allIn.f okUses
  by_cases h : l.length ≤ 60
  · rw [if_pos (by omega)]
    show some (l.all okAddr) = some (l.all okAddr && decide (l.length ≤ 60))
    simp [h]
  · rw [if_neg (by omega)]
    simp [h]
theorem okUses_iff (l : List Int) : okUses l = true ↔ (∀ x ∈ l, 0 ≤ x ∧ x ≤ 63) ∧ l.length ≤ 60 := by
  simp [okUses, okAddr]
theorem ev_slices_Index (l : List Int) (a : Int) (h : l.length ≤ 35184372088832) : Ev (fun k => slices_Index_int64_int64.f k l a) (if l.findIdx (fun x => x == a) < l.length then (l.findIdx (fun x => x == a) : Int) else -1) := by
  unfold slices_Index_int64_int64.f
  have key := Ev.down (fun i k => slices_Index_int64_int64.l0 k l a (l.length : Int) (i : Int)) l.length (fun i => if (l.drop i).findIdx (fun x => x == a) < (l.drop i).length then (((i + (l.drop i).findIdx (fun x => x == a) : Nat)) : Int) else -1) ?_ ?_ 0 (Nat.zero_le _)
  · exact Ev.eq key (by simp)
  · apply Ev.succ
    simp only [slices_Index_int64_int64.l0]
    exact Ev.ite_neg (by omega) (Ev.eq (Ev.now _) (by simp))
  · intro i hi ih
    apply Ev.succ
    simp only [slices_Index_int64_int64.l0]
    refine Ev.ite_pos (by omega) (Ev.ite_pos (by omega) (Ev.ite_pos (by omega) ?_))
    rw [drop_rd l i hi, List.findIdx_cons, List.length_cons]
    by_cases hx : a = rd l (i : Int)
    · refine Ev.ite_pos hx (Ev.eq (Ev.now _) ?_)
      simp [← hx]
    · refine Ev.ite_neg hx ?_
      rw [wrap64_succ (by omega)]
      have hne : (rd l (i : Int) == a) = false := by simp; exact fun e => hx e.symm
      refine Ev.eq ih ?_
      simp only [hne, cond_false]
      by_cases hlt : (l.drop (i + 1)).findIdx (fun x => x == a) < (l.drop (i + 1)).length
      · rw [if_pos hlt, if_pos (by omega)]; omega
      · rw [if_neg hlt, if_neg (by omega)]
theorem ev_slices_Contains (l : List Int) (a : Int) (h : l.length ≤ 35184372088832) : Ev (fun k => slices_Contains_int64_int64.f k l a) (decide (a ∈ l)) := by
  unfold slices_Contains_int64_int64.f
  refine Ev.bind (ev_slices_Index l a h) (Ev.eq (Ev.now _) ?_)
  by_cases hm : a ∈ l
  · have := List.findIdx_lt_length_of_exists (p := fun x => x == a) ⟨a, hm, by simp⟩
    rw [if_pos this]
    simp [hm]
  · have : ¬ (l.findIdx (fun x => x == a) < l.length) := by
      intro hlt
      have := List.findIdx_getElem (w := hlt)
      simp only [beq_iff_eq] at this
      exact hm (this ▸ List.getElem_mem hlt)
    rw [if_neg this]
    simp [hm]
end Go.Proofs.Ythnpcalkcjkdhaa.Q
