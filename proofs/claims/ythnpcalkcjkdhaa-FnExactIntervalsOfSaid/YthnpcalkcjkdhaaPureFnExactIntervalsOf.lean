/- The plain law of FnExactIntervalsOf: what it computes answers true; no conditions. -/
import Derived.Test.YthnpcalkcjkdhaaQx0
import Derived.Test.YthnpcalkcjkdhaaHlawIntervals
namespace Go.Proofs.Ythnpcalkcjkdhaa.Q
open Go.RowKit Go.Proofs.YthnpcalkcjkdhaaW.PrintWords Go.Proofs.YthnpcalkcjkdhaaW.PrintLast Go.Proofs.YthnpcalkcjkdhaaW.PrintMore
attribute [local go_sem] max2_int min2_int max_two min_two max_three min_three max_four min_four   -- for this text's walks alone
set_option linter.unusedVariables false
set_option linter.unusedSimpArgs false

def laws_FnExactIntervalsOf.PureQ : Prop := ∀ (l0 : List Int), l0.length ≤ 9223372036854775807 → laws_FnExactIntervalsOf.f l0 = some true
end Go.Proofs.Ythnpcalkcjkdhaa.Q
namespace Go.Proofs.Ythnpcalkcjkdhaa.Pure
open Go.RowKit Go.Proofs.Ythnpcalkcjkdhaa.Q Go.Proofs.YthnpcalkcjkdhaaW.PrintWords
theorem FnExactIntervalsOf : laws_FnExactIntervalsOf.PureQ := by
  intro l0 _
  rfl
end Go.Proofs.Ythnpcalkcjkdhaa.Pure
