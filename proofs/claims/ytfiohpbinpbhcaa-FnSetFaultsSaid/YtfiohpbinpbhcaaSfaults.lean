/- Working sets: both sides' are the same; no conditions beyond those written. -/
import Derived.Test.YtfiohpbinpbhcaaQx0
import Derived.Test.YtfiohpbinpbhcaaHsetOf
import Derived.Test.YtfiohpbinpbhcaaQx1
import Derived.Test.YtfiohpbinpbhcaaQx15
import Derived.Test.YtfiohpbinpbhcaaQx2
import Derived.Test.YtfiohpbinpbhcaaSbase
import Derived.Test.YtfiohpbinpbhcaaSsetl
namespace Go.Proofs.Ytfiohpbinpbhcaa.Q
open Go.RowKit Go.Proofs.YtfiohpbinpbhcaaW.PrintWords Go.Proofs.YtfiohpbinpbhcaaW.PrintLast Go.Proofs.YtfiohpbinpbhcaaW.PrintMore
attribute [local go_sem] max2_int min2_int max_two min_two max_three min_three max_four min_four   -- for this text's walks alone
set_option linter.unusedVariables false
set_option linter.unusedSimpArgs false

def wk (l : List Int) (i w : Nat) : List Int := setL ((l.take (i + 1)).drop (i + 1 - w))
theorem wk_length (l : List Int) (i w : Nat) : (wk l i w).length ≤ i + 1 := by
  unfold wk
  refine Nat.le_trans (setL_length_le _) ?_
  rw [List.length_drop, List.length_take]; omega
theorem ev_l02Working (l : List Int) (i w : Nat) (hi : i < l.length) (hl : l.length ≤ 1000000000) (hw : w ≤ 1000) : Ev (fun k => spec_l02Working.f k l (i : Int) (w : Int)) (wk l i w) := by
  unfold spec_l02Working.f
  have hm : spec_l00Max.f 0 (wrap64 ((wrap64 ((i : Int) - w)) + 1)) = some (((i + 1 - w : Nat)) : Int) := by
    unfold spec_l00Max.f
    rw [wrap64_id (x := (i : Int) - w) (by omega) (by omega), wrap64_id (by omega) (by omega)]
    by_cases h : (0 : Int) > (i : Int) - w + 1
    · rw [if_pos h]; congr 1; omega
    · rw [if_neg h]; congr 1; omega
  refine Ev.cbind hm ?_
  rw [wrap64_succ (by omega)]
  refine Ev.ite_pos (by omega) (Ev.ite_pos (by omega) (Ev.ite_pos (by omega) ?_))
  rw [Int.toNat_natCast, Int.toNat_natCast]
  refine Ev.bind (ev_l02Set _ ?_) (Ev.now _)
  rw [List.length_drop, List.length_take]; omega
theorem impl_workingSet_f (l : List Int) (i w : Nat) (hi : i < l.length) (hl : l.length ≤ 1000000000) (hw : w ≤ 1000) : impl_workingSet.f l (i : Int) (w : Int) = some (wk l i w) := by
  unfold impl_workingSet.f
  have hm : mx 0 (wrap64 ((wrap64 ((i : Int) + 1)) - w)) = (((i + 1 - w : Nat)) : Int) := by
    rw [wrap64_succ (by omega), wrap64_id (by omega) (by omega)]
    unfold mx
    by_cases h : (0 : Int) < ((i + 1 : Nat) : Int) - w
    · rw [if_pos h]; omega
    · rw [if_neg h]; omega
  rw [hm, wrap64_succ (by omega), if_pos (by omega), if_pos (by omega), if_pos (by omega), Int.toNat_natCast, Int.toNat_natCast, impl_setOf_f _ (by rw [List.length_drop, List.length_take]; omega)]
  rfl
theorem ev_l00Has (l : List Int) (a : Int) (h : l.length ≤ 1000000000) : Ev (fun k => spec_l00Has.f k l a) (decide (a ∈ l)) := by
  unfold spec_l00Has.f
  have key := Ev.down (fun i k => spec_l00Has.l0 k l a (i : Int)) l.length (fun i => decide (a ∈ l.drop i)) ?_ ?_ 0 (Nat.zero_le _)
  · exact Ev.eq key (by simp)
  · apply Ev.succ
    simp only [spec_l00Has.l0]
    exact Ev.ite_neg (by omega) (Ev.eq (Ev.now _) (by simp))
  · intro i hi ih
    apply Ev.succ
    simp only [spec_l00Has.l0]
    refine Ev.ite_pos (by omega) (Ev.ite_pos (by omega) ?_)
    rw [drop_rd l i hi]
    by_cases hx : rd l (i : Int) = a
    · exact Ev.ite_pos hx (Ev.eq (Ev.now _) (by simp [hx]))
    · refine Ev.ite_neg hx ?_
      rw [wrap64_succ (by omega)]
      refine Ev.eq ih ?_
      have : ¬ a = rd l (i : Int) := fun e => hx e.symm
      simp [this]
end Go.Proofs.Ytfiohpbinpbhcaa.Q
