/- Parts of the proof, laid together: contracts and lemmas; no conditions beyond those written. -/
import Derived.Test.YteobbgofbedgdaaQx0
import Derived.Test.YteobbgofbedgdaaQx3
import Derived.Test.YteobbgofbedgdaaSbase
import Derived.Test.YteobbgofbedgdaaSintervals
import Derived.Test.YteobbgofbedgdaaQx1
import Derived.Test.YteobbgofbedgdaaSokaddr
namespace Go.Proofs.Yteobbgofbedgdaa.Q
open Go.RowKit Go.Proofs.YteobbgofbedgdaaW.PrintWords Go.Proofs.YteobbgofbedgdaaW.PrintLast Go.Proofs.YteobbgofbedgdaaW.PrintMore
attribute [local go_sem] max2_int min2_int max_two min_two max_three min_three max_four min_four   -- for this text's walks alone
set_option linter.unusedVariables false
set_option linter.unusedSimpArgs false
section
theorem ev_intervalsOf (l : List Int) (h : l.length ≤ 5864062014804) : Ev (fun k => impl_intervalsOf.f k l) (ivs l) := by
  unfold impl_intervalsOf.f
  refine Ev.up (fun i k => impl_intervalsOf.l0 k l (ivsTo l i) l (l.length : Int) (i : Int)) l.length (ivs l) ?_ ?_
  · apply Ev.succ
    simp only [impl_intervalsOf.l0]
    exact Ev.ite_neg (by omega) (Ev.now _)
  · intro i hi ih
    apply Ev.succ
    simp only [impl_intervalsOf.l0]
    have hlen := ivsTo_length l i
    refine Ev.ite_pos (by omega) (Ev.ite_pos (by omega) (Ev.ite_pos (by omega) ?_))
    rw [wrap64_succ (by omega)]
    refine Ev.bind (ev_nextUse l _ (i + 1) (by omega) (by omega)) ?_
    have e := ivsTo_succ l i
    by_cases hlt : nx l (rd l (i : Int)) (i + 1) < l.length
    · rw [if_pos hlt] at e ⊢
      refine Ev.ite_pos (by omega) (Ev.ite_pos (by omega) ?_)
      rw [← e]; exact ih
    · rw [if_neg hlt] at e ⊢
      refine Ev.ite_neg (by omega) ?_
      rw [List.append_nil] at e
      rw [← e]; exact ih
end
section
theorem ev_l02Uses (l : List Int) (h : l.length ≤ 9223372036854775807) : Ev (fun k => spec_l02Uses.f k l) (okUses l) := by
  unfold spec_l02Uses.f
  have key := Ev.down (fun i k => spec_l02Uses.l0 k l (i : Int)) l.length (fun i => (l.drop i).all okAddr && decide (l.length ≤ 60)) ?_ ?_ 0 (Nat.zero_le _)
  · exact Ev.eq key (by simp [okUses])
  · apply Ev.succ
    simp only [spec_l02Uses.l0]
    refine Ev.ite_neg (by omega) (Ev.eq (Ev.now _) ?_)
    simp; omega
  · intro i hi ih
    apply Ev.succ
    simp only [spec_l02Uses.l0]
    refine Ev.ite_pos (by omega) (Ev.ite_pos (by omega) (Ev.cbind (spec_l02Address_f _) ?_))
    rw [drop_rd l i hi, List.all_cons]
    cases ha : okAddr (rd l (i : Int)) with
    | true =>
      refine Ev.ite_pos rfl ?_
      rw [wrap64_succ (by omega)]
      exact Ev.eq ih (by simp)
    | false => exact Ev.ite_neg (by simp) (Ev.eq (Ev.now _) (by simp))
end
end Go.Proofs.Yteobbgofbedgdaa.Q
