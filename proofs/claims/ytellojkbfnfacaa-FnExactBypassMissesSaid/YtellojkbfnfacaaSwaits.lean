/- Parts of the proof, laid together: contracts and lemmas; no conditions beyond those written. -/
import Derived.Test.YtellojkbfnfacaaQx0
import Derived.Test.YtellojkbfnfacaaQx1
import Derived.Test.YtellojkbfnfacaaSbase
import Derived.Test.YtellojkbfnfacaaSintervals
import Derived.Test.YtellojkbfnfacaaSsortl
import Derived.Test.YtellojkbfnfacaaHsetOf
import Derived.Test.YtellojkbfnfacaaSisin
namespace Go.Proofs.Ytellojkbfnfacaa.Q
open Go.RowKit Go.Proofs.YtellojkbfnfacaaW.PrintWords Go.Proofs.YtellojkbfnfacaaW.PrintLast Go.Proofs.YtellojkbfnfacaaW.PrintMore
attribute [local go_sem] max2_int min2_int max_two min_two max_three min_three max_four min_four   -- for this text's walks alone
set_option linter.unusedVariables false
set_option linter.unusedSimpArgs false
section
/-- The next use of a from i on, 60 if there is none. -/
def wt (l : List Int) (i : Nat) (a : Int) : Int := if nx l a i < l.length then (nx l a i : Int) else 60
theorem wt_range (l : List Int) (i : Nat) (a : Int) (h : l.length ≤ 60) : 0 ≤ wt l i a ∧ wt l i a ≤ 60 := by
  unfold wt
  split <;> omega
theorem ev_waits (l : List Int) (a : Int) (i : Nat) (h : l.length ≤ 60) (hi : i ≤ l.length) : Ev (fun k => impl_waits.f k l a (i : Int)) (wt l i a) := by
  unfold impl_waits.f wt
  refine Ev.bind (ev_nextUse l a i (by omega) hi) ?_
  by_cases hlt : nx l a i < l.length
  · rw [if_pos hlt, if_pos hlt]; exact Ev.ite_pos (by omega) (Ev.now _)
  · rw [if_neg hlt, if_neg hlt]; exact Ev.ite_neg (by omega) (Ev.now _)
end
section
theorem spec_l02Address_f (n : Int) : spec_l02Address.f n = some (okAddr n) := by
  unfold spec_l02Address.f spec_l00In.f okAddr
  by_cases h : n ≥ 0 <;> simp [h]
end
section
theorem impl_setOf_f (l : List Int) (h : l.length ≤ 17592186044416) : impl_setOf.f l = some (setL l) := by unfold impl_setOf.f; rw [if_pos h]
end
end Go.Proofs.Ytellojkbfnfacaa.Q
