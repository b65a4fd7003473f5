/- What has been used since the last use; no conditions beyond those written. -/
import Derived.Test.YtfiohpbinpbhcaaQx0
import Derived.Test.YtfiohpbinpbhcaaQx7
import Derived.Test.YtfiohpbinpbhcaaSbase
import Derived.Test.YtfiohpbinpbhcaaSaddr
import Derived.Test.YtfiohpbinpbhcaaSlast
namespace Go.Proofs.Ytfiohpbinpbhcaa.Q
open Go.RowKit Go.Proofs.YtfiohpbinpbhcaaW.PrintWords Go.Proofs.YtfiohpbinpbhcaaW.PrintLast Go.Proofs.YtfiohpbinpbhcaaW.PrintMore
attribute [local go_sem] max2_int min2_int max_two min_two max_three min_three max_four min_four   -- for this text's walks alone
set_option linter.unusedVariables false
set_option linter.unusedSimpArgs false

def again (l : List Int) (i : Nat) : Bool := decide (0 ≤ lu l (rd l (i : Int)) i)
theorem ev_l06Since (l : List Int) (i : Nat) (hi : i < l.length) (h : l.length ≤ 1000000000) : Ev (fun k => spec_l06Since.f k l (i : Int)) (if again l i = true then (between l i, true) else ([], false)) := by
  unfold spec_l06Since.f again
  have hr := lu_range l (rd l (i : Int)) i
  refine Ev.ite_pos (by omega) (Ev.ite_pos (by omega) (Ev.bind (ev_l02Last l _ i (by omega) (by omega)) ?_))
  by_cases h0 : 0 ≤ lu l (rd l (i : Int)) i
  · rw [if_pos (by simpa using h0), wrap64_id (by omega) (by omega)]
    refine Ev.ite_neg (by omega) (Ev.ite_pos (by omega) (Ev.ite_pos (by omega) (Ev.ite_pos (by omega) (Ev.bind (ev_l02Set _ ?_) (Ev.eq (Ev.now _) ?_)))))
    · rw [List.length_drop, List.length_take]; omega
    · rw [Int.toNat_natCast]; rfl
  · rw [if_neg (by simpa using h0)]
    exact Ev.ite_pos (by omega) (Ev.now _)
end Go.Proofs.Ytfiohpbinpbhcaa.Q
