/- The plain law of FnExactNewSpace: what it computes answers true; no conditions. -/
import Derived.Test.YteobbgofbedgdaaQx0
import Derived.Test.YteobbgofbedgdaaHlawNewSpace
namespace Go.Proofs.Yteobbgofbedgdaa.Q
open Go.RowKit Go.Proofs.YteobbgofbedgdaaW.PrintWords Go.Proofs.YteobbgofbedgdaaW.PrintLast Go.Proofs.YteobbgofbedgdaaW.PrintMore
attribute [local go_sem] max2_int min2_int max_two min_two max_three min_three max_four min_four   -- for this text's walks alone
set_option linter.unusedVariables false
set_option linter.unusedSimpArgs false

def laws_FnExactNewSpace.PureQ : Prop := ∀ (a0 : Int), (Lit.int .i64 a0).wf = true → laws_FnExactNewSpace.f a0 = some true
end Go.Proofs.Yteobbgofbedgdaa.Q
namespace Go.Proofs.Yteobbgofbedgdaa.Pure
open Go.RowKit Go.Proofs.Yteobbgofbedgdaa.Q Go.Proofs.YteobbgofbedgdaaW.PrintWords
theorem FnExactNewSpace : laws_FnExactNewSpace.PureQ := by
  intro a0 _
  rfl
end Go.Proofs.Yteobbgofbedgdaa.Pure
