/- The plain law of FnStacked: what it computes answers true; no conditions. -/
import Derived.Test.YteobbgofbedgdaaQx0
import Derived.Test.YteobbgofbedgdaaHlawStacked
import Derived.Test.YteobbgofbedgdaaSascend
namespace Go.Proofs.Yteobbgofbedgdaa.Q
open Go.RowKit Go.Proofs.YteobbgofbedgdaaW.PrintWords Go.Proofs.YteobbgofbedgdaaW.PrintLast Go.Proofs.YteobbgofbedgdaaW.PrintMore
attribute [local go_sem] max2_int min2_int max_two min_two max_three min_three max_four min_four   -- for this text's walks alone
set_option linter.unusedVariables false
set_option linter.unusedSimpArgs false

def laws_FnStacked.PureQ : Prop := ∀ (l0 : List Int) (l1 : List Int), l0.length ≤ 9223372036854775807 → (∀ y ∈ l0, (Lit.int .u8 y).wf = true) → l1.length ≤ 9223372036854775807 → (∀ y ∈ l1, (Lit.int .u8 y).wf = true) → laws_FnStacked.f l0 l1 = some true
end Go.Proofs.Yteobbgofbedgdaa.Q
namespace Go.Proofs.Yteobbgofbedgdaa.Pure
open Go.RowKit Go.Proofs.Yteobbgofbedgdaa.Q Go.Proofs.YteobbgofbedgdaaW.PrintWords
theorem FnStacked : laws_FnStacked.PureQ := by
  intro l0 l1 h0 b0 h1 b1
  exact lawOf2_of b0 b1
end Go.Proofs.Yteobbgofbedgdaa.Pure
