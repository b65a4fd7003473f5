/- The plain law of FnExactIsKept: what it computes answers true; no conditions. -/
import Derived.Test.YthnpcalkcjkdhaaQx0
import Derived.Test.YthnpcalkcjkdhaaLkept
import Derived.Test.YthnpcalkcjkdhaaLwords
import Derived.Test.YthnpcalkcjkdhaaQx12
import Derived.Test.YthnpcalkcjkdhaaSbase
namespace Go.Proofs.Ythnpcalkcjkdhaa.Q
open Go.RowKit Go.Proofs.YthnpcalkcjkdhaaW.PrintWords Go.Proofs.YthnpcalkcjkdhaaW.PrintLast Go.Proofs.YthnpcalkcjkdhaaW.PrintMore
attribute [local go_sem] max2_int min2_int max_two min_two max_three min_three max_four min_four   -- for this text's walks alone
set_option linter.unusedVariables false
set_option linter.unusedSimpArgs false

def laws_FnExactIsKept.PureQ : Prop := ∀ (l0 : List Int) (a1 : Int) (l2 : List Int), l0.length ≤ 9223372036854775807 → (Lit.int .i64 a1).wf = true → l2.length ≤ 9223372036854775807 → ∃ k, laws_FnExactIsKept.f k l0 a1 l2 = some true
end Go.Proofs.Ythnpcalkcjkdhaa.Q
namespace Go.Proofs.Ythnpcalkcjkdhaa.Pure
open Go.RowKit Go.Proofs.Ythnpcalkcjkdhaa.Q Go.Proofs.YthnpcalkcjkdhaaW.PrintWords
theorem FnExactIsKept : laws_FnExactIsKept.PureQ := by
  intro l ways s hl _ hs
  refine Ev.rounds (g := fun k => laws_FnExactIsKept.f k l ways s) ?_
  unfold laws_FnExactIsKept.f
  by_cases c0 : (l.length : Int) > 1048576
  · exact Ev.ite_pos c0 (Ev.now _)
  refine Ev.ite_neg c0 ?_
  by_cases c1 : (s.length : Int) > 1048576
  · exact Ev.ite_pos c1 (Ev.now _)
  refine Ev.ite_neg c1 ?_
  have bl : l.length ≤ 35184372088832 := by omega
  have bs : s.length ≤ 35184372088832 := by omega
  refine Ev.bind (ev_toInt64S l bl) (Ev.bind (ev_toInt64S s bs) (Ev.bind (ev_spec_IsKept l ways s (by omega) (by omega)) (Ev.bind (ev_toInt64S l bl) (Ev.bind (ev_toInt64S s bs) (Ev.bind (ev_impl_IsKept l ways s (by omega) (by omega)) ?_)))))
  refine Ev.ite_neg (by simp) (Ev.bind (ev_toInt64S l bl) (Ev.bind (ev_eqInt64S_same l bl) (Ev.ite_pos rfl ?_)))
  exact Ev.bind (ev_toInt64S s bs) (Ev.bind (ev_eqInt64S_same s bs) (Ev.ite_pos rfl (Ev.now _)))
end Go.Proofs.Ythnpcalkcjkdhaa.Pure
