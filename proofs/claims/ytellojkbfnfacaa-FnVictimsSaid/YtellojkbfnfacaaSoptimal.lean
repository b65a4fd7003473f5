/- Uses and ways, as the program checks them; no conditions beyond those written. -/
import Derived.Test.YtellojkbfnfacaaQx0
import Derived.Test.YtellojkbfnfacaaQx1
import Derived.Test.YtellojkbfnfacaaSisin
import Derived.Test.YtellojkbfnfacaaSsetlimpl
import Derived.Test.YtellojkbfnfacaaSusesimpl
namespace Go.Proofs.Ytellojkbfnfacaa.Q
open Go.RowKit Go.Proofs.YtellojkbfnfacaaW.PrintWords Go.Proofs.YtellojkbfnfacaaW.PrintLast Go.Proofs.YtellojkbfnfacaaW.PrintMore
attribute [local go_sem] max2_int min2_int max_two min_two max_three min_three max_four min_four   -- for this text's walks alone
set_option linter.unusedVariables false
set_option linter.unusedSimpArgs false

theorem impl_isOptimal_f (l : List Int) (ways : Int) : impl_isOptimal.f l ways = some (okUses l && isIn 1 6 ways) := by
  unfold impl_isOptimal.f impl_isWays.f
  rw [impl_ValidUses_f, impl_inRange_f]
  cases okUses l <;> rfl
theorem ways_range {ways : Int} (h : isIn 1 6 ways = true) : 1 ≤ ways ∧ ways ≤ 6 := by simpa [isIn] using h
end Go.Proofs.Ytellojkbfnfacaa.Q
