/- Parts of the proof, laid together: contracts and lemmas; no conditions beyond those written. -/
import Derived.Test.YthaipkhgemachaaQx0
import Derived.Test.YthaipkhgemachaaSupto
namespace Go.Proofs.Ythaipkhgemachaa.Q
open Go.RowKit Go.Proofs.YthaipkhgemachaaW.PrintWords Go.Proofs.YthaipkhgemachaaW.PrintLast Go.Proofs.YthaipkhgemachaaW.PrintMore
attribute [local go_sem] max2_int min2_int max_two min_two max_three min_three max_four min_four   -- for this text's walks alone
set_option linter.unusedVariables false
set_option linter.unusedSimpArgs false
section
def sortL (l : List Int) : List Int := l.mergeSort fun x y => decide (x ≤ y)
end
section
def okOrd (n : Nat) (l : List Int) : Bool := decide (l.length = n) && decide (sortL l = upto (fun j => (j : Int)) l.length)
def okPol (H : List (List Int)) (M : List Int) : Bool := (decide (1 ≤ (M.length : Int)) && decide ((M.length : Int) ≤ 6)) && (decide ((H.length : Int) = (M.length : Int)) && (okOrd M.length M && H.all (okOrd M.length)))
end
end Go.Proofs.Ythaipkhgemachaa.Q
