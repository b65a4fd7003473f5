/- impl.ValidUses, told; no conditions beyond those written. -/
import Derived.Test.YthnpcalkcjkdhaaQx0
import Derived.Test.YthnpcalkcjkdhaaHallIn
import Derived.Test.YthnpcalkcjkdhaaQx1
import Derived.Test.YthnpcalkcjkdhaaSokaddr
import Derived.Test.YthnpcalkcjkdhaaSokuses
namespace Go.Proofs.Ythnpcalkcjkdhaa.Q
open Go.RowKit Go.Proofs.YthnpcalkcjkdhaaW.PrintWords Go.Proofs.YthnpcalkcjkdhaaW.PrintLast Go.Proofs.YthnpcalkcjkdhaaW.PrintMore
attribute [local go_sem] max2_int min2_int max_two min_two max_three min_three max_four min_four   -- for this text's walks alone
set_option linter.unusedVariables false
set_option linter.unusedSimpArgs false

theorem impl_ValidUses_f (l : List Int) : impl_ValidUses.f l = some (okUses l) := by
  unfold impl_ValidUses.f impl_allIn.f okUses
  by_cases h : l.length ≤ 60
  · rw [if_pos (by omega)]
    show some (l.all okAddr) = some (l.all okAddr && decide (l.length ≤ 60))
    simp [h]
  · rw [if_neg (by omega)]
    simp [h]
end Go.Proofs.Ythnpcalkcjkdhaa.Q
