/- Whether rows are an index; no conditions. -/
import Derived.Test.YthnpcalkcjkdhaaDoorQx0
namespace Go.Proofs.YthnpcalkcjkdhaaDoor.Q
open Go.RowKit Go.Proofs.YthnpcalkcjkdhaaDoorW.PrintWords Go.Proofs.YthnpcalkcjkdhaaDoorW.PrintLast Go.Proofs.YthnpcalkcjkdhaaDoorW.PrintMore
attribute [local go_sem] max2_int min2_int max_two min_two max_three min_three max_four min_four   -- for this text's walks alone
set_option linter.unusedVariables false
set_option linter.unusedSimpArgs false

def okRows (l : List Int) : Bool := (l.all fun n => decide (0 ≤ n) && decide (n ≤ 63)) && decide (l.length ≤ 3)
theorem okRows_iff (l : List Int) : okRows l = true ↔ (∀ x ∈ l, 0 ≤ x ∧ x ≤ 63) ∧ l.length ≤ 3 := by
  simp [okRows]
end Go.Proofs.YthnpcalkcjkdhaaDoor.Q
