/- The plain law of FnExactValidIndex: what it computes answers true; no conditions. -/
import Derived.Test.YthnpcalkcjkdhaaQx0
import Derived.Test.YthnpcalkcjkdhaaHallIn
import Derived.Test.YthnpcalkcjkdhaaHspecValidIndex
import Derived.Test.YthnpcalkcjkdhaaLindex
import Derived.Test.YthnpcalkcjkdhaaQx5
import Derived.Test.YthnpcalkcjkdhaaSbase
import Derived.Test.YthnpcalkcjkdhaaSl06Is
namespace Go.Proofs.Ythnpcalkcjkdhaa.Q
open Go.RowKit Go.Proofs.YthnpcalkcjkdhaaW.PrintWords Go.Proofs.YthnpcalkcjkdhaaW.PrintLast Go.Proofs.YthnpcalkcjkdhaaW.PrintMore
attribute [local go_sem] max2_int min2_int max_two min_two max_three min_three max_four min_four   -- for this text's walks alone
set_option linter.unusedVariables false
set_option linter.unusedSimpArgs false

def laws_FnExactValidIndex.PureQ : Prop := ∀ (l0_0 : List Int), l0_0.length ≤ 9223372036854775807 → ∃ k, laws_FnExactValidIndex.f k l0_0 = some true
end Go.Proofs.Ythnpcalkcjkdhaa.Q
namespace Go.Proofs.Ythnpcalkcjkdhaa.Pure
open Go.RowKit Go.Proofs.Ythnpcalkcjkdhaa.Q Go.Proofs.YthnpcalkcjkdhaaW.PrintWords
theorem FnExactValidIndex : laws_FnExactValidIndex.PureQ := by
  intro l hl
  refine Ev.rounds (g := fun k => laws_FnExactValidIndex.f k l) ?_
  unfold laws_FnExactValidIndex.f
  refine ev_index_guard l hl fun hs => ?_
  have hb : l.length ≤ 35184372088832 := by omega
  have hi : impl_ValidIndex.f l = some (okRows l) := by
    unfold impl_ValidIndex.f impl_allIn.f okRows
    by_cases h : l.length ≤ 3
    · rw [if_pos (by omega)]; simp [h]
    · rw [if_neg (by omega)]; simp [h]
  refine Ev.bind (ev_toIndex l hb) (Ev.cbind (g := spec_ValidIndex.f l) (a := okRows l) rfl (Ev.bind (ev_toIndex l hb) (Ev.cbind hi (Ev.ite_neg (by simp) ?_))))
  exact Ev.bind (ev_toIndex l hb) (Ev.bind (ev_eqIndex_same l hb) (Ev.ite_pos rfl (Ev.now _)))
end Go.Proofs.Ythnpcalkcjkdhaa.Pure
