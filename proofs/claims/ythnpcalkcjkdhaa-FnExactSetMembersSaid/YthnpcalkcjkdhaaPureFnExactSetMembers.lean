/- The plain law of FnExactSetMembers: what it computes answers true; no conditions. -/
import Derived.Test.YthnpcalkcjkdhaaQx0
import Derived.Test.YthnpcalkcjkdhaaHsetmembers
import Derived.Test.YthnpcalkcjkdhaaHspecSetMembers
import Derived.Test.YthnpcalkcjkdhaaQx20
import Derived.Test.YthnpcalkcjkdhaaSaddr
import Derived.Test.YthnpcalkcjkdhaaSbase
import Derived.Test.YthnpcalkcjkdhaaSindex
import Derived.Test.YthnpcalkcjkdhaaSl06Is
import Derived.Test.YthnpcalkcjkdhaaSmarkindex
import Derived.Test.YthnpcalkcjkdhaaSmembers
import Derived.Test.YthnpcalkcjkdhaaSsets
import Derived.Test.YthnpcalkcjkdhaaSwords
namespace Go.Proofs.Ythnpcalkcjkdhaa.Q
open Go.RowKit Go.Proofs.YthnpcalkcjkdhaaW.PrintWords Go.Proofs.YthnpcalkcjkdhaaW.PrintLast Go.Proofs.YthnpcalkcjkdhaaW.PrintMore
attribute [local go_sem] max2_int min2_int max_two min_two max_three min_three max_four min_four   -- for this text's walks alone
set_option linter.unusedVariables false
set_option linter.unusedSimpArgs false

def laws_FnExactSetMembers.PureQ : Prop := ∀ (l0_0 : List Int) (a1 : Int), l0_0.length ≤ 9223372036854775807 → (Lit.int .i64 a1).wf = true → ∃ k, laws_FnExactSetMembers.f k l0_0 a1 = some true
end Go.Proofs.Ythnpcalkcjkdhaa.Q
namespace Go.Proofs.Ythnpcalkcjkdhaa.Pure
open Go.RowKit Go.Proofs.Ythnpcalkcjkdhaa.Q Go.Proofs.YthnpcalkcjkdhaaW.PrintWords
theorem bothSetMembers (l : List Int) (a : Int) (_ : l.length ≤ 1048576) : ∃ r b, r.length ≤ 1048576 ∧ Ev (fun k => spec_SetMembers.f k l a) (r, b) ∧ Ev (fun _ => impl_SetMembers.f l a) (r, b) := by
  unfold spec_SetMembers.f impl_SetMembers.f
  cases ho : okRows l with
  | false => exact ⟨[], false, by simp, Ev.ite_neg (by simp) (Ev.now _), Ev.ite_neg (by simp) (Ev.now _)⟩
  | true =>
    cases ha : okAddr a with
    | false => exact ⟨[], false, by simp, Ev.ite_neg (by simp) (Ev.now _), Ev.ite_pos rfl (Ev.ite_neg (by simp) (Ev.now _))⟩
    | true =>
      obtain ⟨hr, hl⟩ := (okRows_iff l).1 ho
      obtain ⟨h0, h1⟩ := (okAddr_iff a).1 ha
      have hle := membersTo_length l a 64
      refine ⟨membersTo l a 64, true, by omega, Ev.ite_pos rfl (Ev.bind (ev_l06Members l a hl hr h0 h1) (Ev.now _)), Ev.ite_pos rfl (Ev.ite_pos rfl (Ev.eq (Ev.now _) ?_))⟩
      unfold membersTo
      simp
theorem FnExactSetMembers : laws_FnExactSetMembers.PureQ := by
  intro l0_0 a1 hl0_0
  intros
  refine Ev.rounds (g := fun k => laws_FnExactSetMembers.f k l0_0 a1) ?_
  unfold laws_FnExactSetMembers.f
  refine ev_index_guard l0_0 hl0_0 fun hs => ?_
  obtain ⟨r, b, hr, es, ei⟩ := bothSetMembers l0_0 a1 (by omega)
  have etx := ev_toIndex l0_0 (by omega)
  have eqx := ev_eqIndex_same l0_0 (by omega)
  have emx := ev_markIndex l0_0 1 (by omega) (by omega) (by omega)
  have eqr := ev_eqInt64S_same r (by omega)
  have emr := ev_markInt64S r 1 (by omega) (by omega) (by omega)
  have ehr := ev_heldInt64S 1 r.length (by omega) (by omega) (by omega)
  repeat' first
    | exact Ev.now _
    | (with_reducible refine Ev.bind es ?_)
    | (with_reducible refine Ev.bind ei ?_)
    | (with_reducible refine Ev.bind etx ?_)
    | (with_reducible refine Ev.bind eqx ?_)
    | (with_reducible refine Ev.bind emx ?_)
    | (with_reducible refine Ev.bind eqr ?_)
    | (with_reducible refine Ev.bind emr ?_)
    | (with_reducible refine Ev.bind ehr ?_)
    | (with_reducible refine Ev.ite_pos (by first | rfl | omega | (dsimp only; omega)) ?_)
    | (with_reducible refine Ev.ite_neg (by first | omega | (dsimp only; omega) | (simp; done) | (simp; omega)) ?_)
    | (apply Ev.succ; simp only [laws_FnExactSetMembers.j0, laws_FnExactSetMembers.j1, laws_FnExactSetMembers.j2])
end Go.Proofs.Ythnpcalkcjkdhaa.Pure
