/- The bound of cuts; no conditions beyond those written. -/
import Derived.Test.YthnpcalkcjkdhaaQx0
import Derived.Test.YthnpcalkcjkdhaaSintervals
namespace Go.Proofs.Ythnpcalkcjkdhaa.Q
open Go.RowKit Go.Proofs.YthnpcalkcjkdhaaW.PrintWords Go.Proofs.YthnpcalkcjkdhaaW.PrintLast Go.Proofs.YthnpcalkcjkdhaaW.PrintMore
attribute [local go_sem] max2_int min2_int max_two min_two max_three min_three max_four min_four   -- for this text's walks alone
set_option linter.unusedVariables false
set_option linter.unusedSimpArgs false

def crossB (x : List Int) (t : Int) : Bool := decide (rd x 0 < t) && decide (t < rd x 1)
def hbTo (U : List Int) (n : Int) (cuts : List Int) : Nat → Int
  | 0 => wrap64 (wrap64 (n - 1) * (cuts.length : Int))
  | j + 1 => if cuts.any (crossB ((ivs U).getD j [])) = true then hbTo U n cuts j else wrap64 (hbTo U n cuts j + 1)
end Go.Proofs.Ythnpcalkcjkdhaa.Q
