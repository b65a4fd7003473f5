/- Parts of the proof, laid together: contracts and lemmas; no conditions beyond those written. -/
import Derived.Test.YtellojkbfnfacaaQx0
import Derived.Test.YtellojkbfnfacaaQx1
import Derived.Test.YtellojkbfnfacaaSisin
import Derived.Test.YtellojkbfnfacaaSokuses
import Derived.Test.YtellojkbfnfacaaSupto
import Derived.Test.YtellojkbfnfacaaSbase
import Derived.Test.YtellojkbfnfacaaSuses
namespace Go.Proofs.Ytellojkbfnfacaa.Q
open Go.RowKit Go.Proofs.YtellojkbfnfacaaW.PrintWords Go.Proofs.YtellojkbfnfacaaW.PrintLast Go.Proofs.YtellojkbfnfacaaW.PrintMore
attribute [local go_sem] max2_int min2_int max_two min_two max_three min_three max_four min_four   -- for this text's walks alone
set_option linter.unusedVariables false
set_option linter.unusedSimpArgs false
section
theorem impl_isOptimal_f (l : List Int) (ways : Int) : impl_isOptimal.f l ways = some (okUses l && isIn 1 6 ways) := by
  unfold impl_isOptimal.f impl_isWays.f
  rw [impl_ValidUses_f, impl_inRange_f]
  cases okUses l <;> rfl
theorem ways_range {ways : Int} (h : isIn 1 6 ways = true) : 1 ≤ ways ∧ ways ≤ 6 := by simpa [isIn] using h
end
section
theorem ev_l05Fine (l : List Int) (ways : Int) (h : l.length ≤ 35184372088832) : Ev (fun k => spec_l05Fine.f k l ways) (okUses l && isIn 1 6 ways) := by
  unfold spec_l05Fine.f
  refine Ev.bind (ev_l02Uses l (by omega)) ?_
  cases hu : okUses l with
  | true =>
    refine Ev.ite_pos rfl (Ev.cbind (a := isIn 1 6 ways) ?_ (Ev.now _))
    unfold spec_l03Ways.f
    rw [spec_l00In_f]; rfl
  | false => exact Ev.ite_neg (by simp) (Ev.now _)
end
end Go.Proofs.Ytellojkbfnfacaa.Q
