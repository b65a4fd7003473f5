/- The plain law of FnExactBypassMisses: what it computes answers true; no conditions. -/
import Derived.Test.YtellojkbfnfacaaQx0
import Derived.Test.YtellojkbfnfacaaHbypass
import Derived.Test.YtellojkbfnfacaaQx2
import Derived.Test.YtellojkbfnfacaaSbase
import Derived.Test.YtellojkbfnfacaaSbypassev
import Derived.Test.YtellojkbfnfacaaSisin
import Derived.Test.YtellojkbfnfacaaSokuses
import Derived.Test.YtellojkbfnfacaaSwords
namespace Go.Proofs.Ytellojkbfnfacaa.Q
open Go.RowKit Go.Proofs.YtellojkbfnfacaaW.PrintWords Go.Proofs.YtellojkbfnfacaaW.PrintLast Go.Proofs.YtellojkbfnfacaaW.PrintMore
attribute [local go_sem] max2_int min2_int max_two min_two max_three min_three max_four min_four   -- for this text's walks alone
set_option linter.unusedVariables false
set_option linter.unusedSimpArgs false

def laws_FnExactBypassMisses.PureQ : Prop := ∀ (l0 : List Int) (a1 : Int), l0.length ≤ 9223372036854775807 → (Lit.int .i64 a1).wf = true → ∃ k, laws_FnExactBypassMisses.f k l0 a1 = some true
end Go.Proofs.Ytellojkbfnfacaa.Q
namespace Go.Proofs.Ytellojkbfnfacaa.Pure
open Go.RowKit Go.Proofs.Ytellojkbfnfacaa.Q Go.Proofs.YtellojkbfnfacaaW.PrintWords
theorem FnExactBypassMisses : laws_FnExactBypassMisses.PureQ := by
  intro l0 a1
  intros
  refine Ev.rounds (g := fun k => laws_FnExactBypassMisses.f k l0 a1) ?_
  unfold laws_FnExactBypassMisses.f
  by_cases cl0 : (l0.length : Int) > 1048576
  · exact Ev.ite_pos cl0 (Ev.now _)
  refine Ev.ite_neg cl0 ?_
  have es := ev_spec_BypassMisses l0 a1 (by omega)
  have ei : impl_BypassMisses.f l0 a1 = some (if (okUses l0 && isIn 1 6 a1) = true then (((bypMiss l0 a1 l0.length : Nat) : Int), true) else (0, false)) := by
    unfold impl_BypassMisses.f
    split <;> rfl
  generalize (if (okUses l0 && isIn 1 6 a1) = true then (((bypMiss l0 a1 l0.length : Nat) : Int), true) else (0, false)) = r at es ei
  have etl0 := ev_toInt64S l0 (by omega)
  have eql0 := ev_eqInt64S_same l0 (by omega)
  have fin : Ev (fun k => laws_FnExactBypassMisses.j0 k l0 l0 false) true := by
    apply Ev.succ
    simp only [laws_FnExactBypassMisses.j0]
    exact Ev.ite_neg (by simp) (Ev.bind etl0 (Ev.bind eql0 (Ev.ite_pos rfl (Ev.now _))))
  refine Ev.bind etl0 (Ev.bind es (Ev.bind etl0 (Ev.cbind ei (Ev.ite_pos rfl ?_))))
  rw [show (r.2 != r.2) = false by simp]
  exact fin
end Go.Proofs.Ytellojkbfnfacaa.Pure
