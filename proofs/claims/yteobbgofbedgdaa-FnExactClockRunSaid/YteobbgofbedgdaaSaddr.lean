/- An address is between 0 and 63. -/
import Derived.Test.YteobbgofbedgdaaQx0
import Derived.Test.YteobbgofbedgdaaQx1
import Derived.Test.YteobbgofbedgdaaSokaddr
namespace Go.Proofs.Yteobbgofbedgdaa.Q
open Go.RowKit Go.Proofs.YteobbgofbedgdaaW.PrintWords Go.Proofs.YteobbgofbedgdaaW.PrintLast Go.Proofs.YteobbgofbedgdaaW.PrintMore
attribute [local go_sem] max2_int min2_int max_two min_two max_three min_three max_four min_four   -- for this text's walks alone
set_option linter.unusedVariables false
set_option linter.unusedSimpArgs false

theorem spec_l02Address_f (n : Int) : spec_l02Address.f n = some (okAddr n) := by
  unfold spec_l02Address.f spec_l00In.f okAddr
  by_cases h : n ≥ 0 <;> simp [h]
end Go.Proofs.Yteobbgofbedgdaa.Q
