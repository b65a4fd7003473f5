/- The plain law of FnExactMissKinds: what it computes answers true; no conditions. -/
import Derived.Test.YtdhkcnhmmiigoaaQx0
import Derived.Test.YtdhkcnhmmiigoaaHmissKinds
import Derived.Test.YtdhkcnhmmiigoaaHspecMissKinds
import Derived.Test.YtdhkcnhmmiigoaaQx8
import Derived.Test.YtdhkcnhmmiigoaaSbase
import Derived.Test.YtdhkcnhmmiigoaaSindex
import Derived.Test.YtdhkcnhmmiigoaaSvalidindex
import Derived.Test.YtdhkcnhmmiigoaaSmisses
import Derived.Test.YtdhkcnhmmiigoaaSaddr
import Derived.Test.YtdhkcnhmmiigoaaSmarks
namespace Go.Proofs.Ytdhkcnhmmiigoaa.Q
open Go.RowKit Go.Proofs.YtdhkcnhmmiigoaaW.PrintWords Go.Proofs.YtdhkcnhmmiigoaaW.PrintLast Go.Proofs.YtdhkcnhmmiigoaaW.PrintMore
attribute [local go_sem] max2_int min2_int max_two min_two max_three min_three max_four min_four   -- for this text's walks alone
set_option linter.unusedVariables false
set_option linter.unusedSimpArgs false

def laws_FnExactMissKinds.PureQ : Prop := ∀ (l0_0 : List Int) (a1 : Int) (l2 : List Int), l0_0.length ≤ 9223372036854775807 → (Lit.int .i64 a1).wf = true → l2.length ≤ 9223372036854775807 → ∃ k, laws_FnExactMissKinds.f k l0_0 a1 l2 = some true
end Go.Proofs.Ytdhkcnhmmiigoaa.Q
namespace Go.Proofs.Ytdhkcnhmmiigoaa.Pure
open Go.RowKit Go.Proofs.Ytdhkcnhmmiigoaa.Q Go.Proofs.YtdhkcnhmmiigoaaW.PrintWords
theorem bothMissKinds (l : List Int) (p : Int) (U : List Int) : ∃ r b, r.length ≤ 1048576 ∧ spec_MissKinds.f l p U = some (r, b) ∧ impl_MissKinds.f l p U = some (r, b) := by
  unfold spec_MissKinds.f impl_MissKinds.f
  cases okRows l && (isIn 1 4 p && okUses U) with
  | false => exact ⟨[], false, by simp, by simp, by simp⟩
  | true => exact ⟨kindsOf l p U, true, by simp [kindsOf], by simp, by simp⟩
theorem FnExactMissKinds : laws_FnExactMissKinds.PureQ := by
  intro l0_0 a1 l2
  intros
  rename_i hl0 ha1 hl2
  refine Ev.rounds (g := fun k => laws_FnExactMissKinds.f k l0_0 a1 l2) ?_
  unfold laws_FnExactMissKinds.f
  by_cases c2 : (l2.length : Int) > 1048576
  · exact Ev.ite_pos c2 (Ev.now _)
  refine Ev.ite_neg c2 (ev_index_guard l0_0 hl0 fun hs => ?_)
  obtain ⟨r, b, hr, es, ei⟩ := bothMissKinds l0_0 a1 l2
  have etx := ev_toIndex l0_0 (by omega)
  have eqx := ev_eqIndex_same l0_0 (by omega)
  have etu := ev_toInt64S l2 (by omega)
  have equ := ev_eqInt64S_same l2 (by omega)
  have emx := ev_markIndex l0_0 1 (by omega) (by omega) (by omega)
  have emu := ev_markInt64S l2 (1 + (l0_0.length : Int)) (by omega) (by omega) (by omega)
  have eqr := ev_eqInt64S_same r (by omega)
  have emr := ev_markInt64S r 1 (by omega) (by omega) (by omega)
  have ehr := ev_heldInt64S 1 r.length (by omega) (by omega) (by omega)
  repeat' first
    | exact Ev.now _
    | (with_reducible refine Ev.cbind es ?_)
    | (with_reducible refine Ev.cbind ei ?_)
    | (with_reducible refine Ev.bind etx ?_)
    | (with_reducible refine Ev.bind eqx ?_)
    | (with_reducible refine Ev.bind etu ?_)
    | (with_reducible refine Ev.bind equ ?_)
    | (with_reducible refine Ev.bind emx ?_)
    | (with_reducible refine Ev.bind emu ?_)
    | (with_reducible refine Ev.bind eqr ?_)
    | (with_reducible refine Ev.bind emr ?_)
    | (with_reducible refine Ev.bind ehr ?_)
    | (with_reducible refine Ev.ite_pos (by first | rfl | omega | (dsimp only; omega)) ?_)
    | (with_reducible refine Ev.ite_neg (by first | omega | (dsimp only; omega) | (simp; done) | (simp; omega)) ?_)
    | (apply Ev.succ; simp only [laws_FnExactMissKinds.j0, laws_FnExactMissKinds.j1, laws_FnExactMissKinds.j2])
end Go.Proofs.Ytdhkcnhmmiigoaa.Pure
