/- Marks of an index, read again; no conditions beyond those written. -/
import Derived.Test.YthnpcalkcjkdhaaDoorQx0
import Derived.Test.YthnpcalkcjkdhaaDoorQx1
import Derived.Test.YthnpcalkcjkdhaaDoorSbase
import Derived.Test.YthnpcalkcjkdhaaDoorSmarks
namespace Go.Proofs.YthnpcalkcjkdhaaDoor.Q
open Go.RowKit Go.Proofs.YthnpcalkcjkdhaaDoorW.PrintWords Go.Proofs.YthnpcalkcjkdhaaDoorW.PrintLast Go.Proofs.YthnpcalkcjkdhaaDoorW.PrintMore
attribute [local go_sem] max2_int min2_int max_two min_two max_three min_three max_four min_four   -- for this text's walks alone
set_option linter.unusedVariables false
set_option linter.unusedSimpArgs false

theorem ev_heldIndex (m : Int) (n : Nat) (h : n ≤ 35184372088832) (h0 : 0 ≤ m) (h1 : m ≤ 4611686018427387904) : Ev (fun k => laws_heldIndex.f k (ups m n) m) (m + n) := by
  unfold laws_heldIndex.f
  exact Ev.bind (ev_heldInt64S m n h h0 h1) (Ev.ite_neg (by omega) (Ev.now _))
end Go.Proofs.YthnpcalkcjkdhaaDoor.Q
