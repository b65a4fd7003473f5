/- Uses: what the checks of both sides come to; no conditions beyond those written. -/
import Derived.Test.YtellojkbfnfacaaQx0
import Derived.Test.YtellojkbfnfacaaQx1
import Derived.Test.YtellojkbfnfacaaSwaits
import Derived.Test.YtellojkbfnfacaaSbase
import Derived.Test.YtellojkbfnfacaaSsortl
import Derived.Test.YtellojkbfnfacaaSokuses
namespace Go.Proofs.Ytellojkbfnfacaa.Q
open Go.RowKit Go.Proofs.YtellojkbfnfacaaW.PrintWords Go.Proofs.YtellojkbfnfacaaW.PrintLast Go.Proofs.YtellojkbfnfacaaW.PrintMore
attribute [local go_sem] max2_int min2_int max_two min_two max_three min_three max_four min_four   -- for this text's walks alone
set_option linter.unusedVariables false
set_option linter.unusedSimpArgs false

theorem ev_l02Uses (l : List Int) (h : l.length ≤ 9223372036854775807) : Ev (fun k => spec_l02Uses.f k l) (okUses l) := by
  unfold spec_l02Uses.f
  have key := Ev.down (fun i k => spec_l02Uses.l0 k l (i : Int)) l.length (fun i => (l.drop i).all okAddr && decide (l.length ≤ 60)) ?_ ?_ 0 (Nat.zero_le _)
  · exact Ev.eq key (by simp [okUses])
  · apply Ev.succ
    simp only [spec_l02Uses.l0]
    refine Ev.ite_neg (by omega) (Ev.eq (Ev.now _) ?_)
    simp; omega
  · intro i hi ih
    apply Ev.succ
    simp only [spec_l02Uses.l0]
    refine Ev.ite_pos (by omega) (Ev.ite_pos (by omega) (Ev.cbind (spec_l02Address_f _) ?_))
    rw [drop_rd l i hi, List.all_cons]
    cases ha : okAddr (rd l (i : Int)) with
    | true =>
      refine Ev.ite_pos rfl ?_
      rw [wrap64_succ (by omega)]
      exact Ev.eq ih (by simp)
    | false => exact Ev.ite_neg (by simp) (Ev.eq (Ev.now _) (by simp))
end Go.Proofs.Ytellojkbfnfacaa.Q
