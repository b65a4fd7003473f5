/- impl.ValidIndex; no conditions. -/
import Derived.Test.YthnpcalkcjkdhaaQx0
import Derived.Test.YthnpcalkcjkdhaaHallIn
import Derived.Test.YthnpcalkcjkdhaaQx1
import Derived.Test.YthnpcalkcjkdhaaSokrows
namespace Go.Proofs.Ythnpcalkcjkdhaa.Q
open Go.RowKit Go.Proofs.YthnpcalkcjkdhaaW.PrintWords Go.Proofs.YthnpcalkcjkdhaaW.PrintLast Go.Proofs.YthnpcalkcjkdhaaW.PrintMore
attribute [local go_sem] max2_int min2_int max_two min_two max_three min_three max_four min_four   -- for this text's walks alone
set_option linter.unusedVariables false
set_option linter.unusedSimpArgs false

theorem impl_ValidIndex_f (l : List Int) : impl_ValidIndex.f l = some (okRows l) := by
  unfold impl_ValidIndex.f impl_allIn.f okRows
  by_cases h : l.length ≤ 3
  · rw [if_pos (by omega)]; simp [h]
  · rw [if_neg (by omega)]; simp [h]
end Go.Proofs.Ythnpcalkcjkdhaa.Q
