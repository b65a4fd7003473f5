/- Whether a list are uses; no conditions. -/
import Derived.Test.YthnpcalkcjkdhaaQx0
import Derived.Test.YthnpcalkcjkdhaaSokaddr
namespace Go.Proofs.Ythnpcalkcjkdhaa.Q
open Go.RowKit Go.Proofs.YthnpcalkcjkdhaaW.PrintWords Go.Proofs.YthnpcalkcjkdhaaW.PrintLast Go.Proofs.YthnpcalkcjkdhaaW.PrintMore
attribute [local go_sem] max2_int min2_int max_two min_two max_three min_three max_four min_four   -- for this text's walks alone
set_option linter.unusedVariables false
set_option linter.unusedSimpArgs false

def okUses (l : List Int) : Bool := (l.all okAddr) && decide (l.length ≤ 60)
theorem okUses_iff (l : List Int) : okUses l = true ↔ (∀ x ∈ l, 0 ≤ x ∧ x ≤ 63) ∧ l.length ≤ 60 := by
  simp [okUses, okAddr]
end Go.Proofs.Ythnpcalkcjkdhaa.Q
