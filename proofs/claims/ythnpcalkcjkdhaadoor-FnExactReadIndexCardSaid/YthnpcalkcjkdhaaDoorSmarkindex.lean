/- Marks of an index; no conditions beyond those written. -/
import Derived.Test.YthnpcalkcjkdhaaDoorQx0
import Derived.Test.YthnpcalkcjkdhaaDoorQx1
import Derived.Test.YthnpcalkcjkdhaaDoorSmarks
namespace Go.Proofs.YthnpcalkcjkdhaaDoor.Q
open Go.RowKit Go.Proofs.YthnpcalkcjkdhaaDoorW.PrintWords Go.Proofs.YthnpcalkcjkdhaaDoorW.PrintLast Go.Proofs.YthnpcalkcjkdhaaDoorW.PrintMore
attribute [local go_sem] max2_int min2_int max_two min_two max_three min_three max_four min_four   -- for this text's walks alone
set_option linter.unusedVariables false
set_option linter.unusedSimpArgs false

theorem ev_markIndex (l : List Int) (m : Int) (h : l.length ≤ 35184372088832) (h0 : 0 ≤ m) (h1 : m ≤ 4611686018427387904) : Ev (fun k => laws_markIndex.f k l m) (m + l.length, ups m l.length) := by
  unfold laws_markIndex.f
  exact Ev.bind (ev_markInt64S l m h h0 h1) (Ev.now _)
end Go.Proofs.YthnpcalkcjkdhaaDoor.Q
