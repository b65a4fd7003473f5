/- Parts of the proof, laid together: contracts and lemmas; no conditions beyond those written. -/
import Derived.Test.YteobbgofbedgdaaQx0
import Derived.Test.YteobbgofbedgdaaHallIn
import Derived.Test.YteobbgofbedgdaaQx2
import Derived.Test.YteobbgofbedgdaaSokaddr
import Derived.Test.YteobbgofbedgdaaSisin
namespace Go.Proofs.Yteobbgofbedgdaa.Q
open Go.RowKit Go.Proofs.YteobbgofbedgdaaW.PrintWords Go.Proofs.YteobbgofbedgdaaW.PrintLast Go.Proofs.YteobbgofbedgdaaW.PrintMore
attribute [local go_sem] max2_int min2_int max_two min_two max_three min_three max_four min_four   -- for this text's walks alone
set_option linter.unusedVariables false
set_option linter.unusedSimpArgs false
section
theorem impl_ValidUses_f (l : List Int) : impl_ValidUses.f l = some (okUses l) := by
  unfold impl_ValidUses.f impl_allIn.f okUses
  by_cases h : l.length ≤ 60
  · rw [if_pos (by omega)]
    show some (l.all okAddr) = some (l.all okAddr && decide (l.length ≤ 60))
    simp [h]
  · rw [if_neg (by omega)]
    simp [h]
end
section
theorem impl_isOptimal_f (l : List Int) (ways : Int) : impl_isOptimal.f l ways = some (okUses l && isIn 1 6 ways) := by
  unfold impl_isOptimal.f impl_isWays.f
  rw [impl_ValidUses_f, impl_inRange_f]
  cases okUses l <;> rfl
theorem ways_range {ways : Int} (h : isIn 1 6 ways = true) : 1 ≤ ways ∧ ways ≤ 6 := by simpa [isIn] using h
end
end Go.Proofs.Yteobbgofbedgdaa.Q
