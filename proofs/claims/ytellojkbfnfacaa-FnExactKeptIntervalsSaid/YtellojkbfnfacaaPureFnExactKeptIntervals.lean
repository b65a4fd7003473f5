/- The plain law of FnExactKeptIntervals: what it computes answers true; no conditions. -/
import Derived.Test.YtellojkbfnfacaaQx0
import Derived.Test.YtellojkbfnfacaaQx6
import Derived.Test.YtellojkbfnfacaaQx7
import Derived.Test.YtellojkbfnfacaaSbase
import Derived.Test.YtellojkbfnfacaaSbest
import Derived.Test.YtellojkbfnfacaaSbest5
import Derived.Test.YtellojkbfnfacaaSfine
import Derived.Test.YtellojkbfnfacaaSintervals
import Derived.Test.YtellojkbfnfacaaSnext5
import Derived.Test.YtellojkbfnfacaaSivsimpl
import Derived.Test.YtellojkbfnfacaaSkeptiv
import Derived.Test.YtellojkbfnfacaaSmarks
import Derived.Test.YtellojkbfnfacaaSwords
namespace Go.Proofs.Ytellojkbfnfacaa.Q
open Go.RowKit Go.Proofs.YtellojkbfnfacaaW.PrintWords Go.Proofs.YtellojkbfnfacaaW.PrintLast Go.Proofs.YtellojkbfnfacaaW.PrintMore
attribute [local go_sem] max2_int min2_int max_two min_two max_three min_three max_four min_four   -- for this text's walks alone
set_option linter.unusedVariables false
set_option linter.unusedSimpArgs false

def laws_FnExactKeptIntervals.PureQ : Prop := ∀ (l0 : List Int) (a1 : Int), l0.length ≤ 9223372036854775807 → (Lit.int .i64 a1).wf = true → ∃ k, laws_FnExactKeptIntervals.f k l0 a1 = some true
end Go.Proofs.Ytellojkbfnfacaa.Q
namespace Go.Proofs.Ytellojkbfnfacaa.Pure
open Go.RowKit Go.Proofs.Ytellojkbfnfacaa.Q Go.Proofs.YtellojkbfnfacaaW.PrintWords
theorem bothKeptIntervals (l : List Int) (n : Int) (h : l.length ≤ 1048576) : ∃ r b, r.length ≤ 1048576 ∧ Ev (fun k => spec_KeptIntervals.f k l n) (r, b) ∧ Ev (fun k => impl_KeptIntervals.f k l n) (r, b) := by
  unfold spec_KeptIntervals.f impl_KeptIntervals.f
  cases ho : okUses l && isIn 1 6 n with
  | false =>
    refine ⟨[], false, by simp, Ev.bind (ev_l05Fine l n (by omega)) ?_, Ev.cbind (impl_isOptimal_f l n) ?_⟩
    · rw [ho]; exact Ev.ite_neg (by simp) (Ev.now _)
    · rw [ho]; exact Ev.ite_neg (by simp) (Ev.now _)
  | true =>
    obtain ⟨h1, h2⟩ := Bool.and_eq_true_iff.1 ho
    obtain ⟨hU, hl⟩ := (okUses_iff l).1 h1
    obtain ⟨hn, hn6⟩ := ways_range h2
    refine ⟨keptTo l n (ivs l).length, true, by have h3 := keptTo_length l n (ivs l).length; have h4 : (ivs l).length ≤ l.length := ivsTo_length l l.length; omega, Ev.bind (ev_l05Fine l n (by omega)) ?_, Ev.cbind (impl_isOptimal_f l n) ?_⟩
    · rw [ho]; refine Ev.ite_pos rfl (Ev.bind (ev_l05Run l n hn hn6 hU hl) (Ev.bind (ev_l05Intervals l hl) (ev_spec_kept l n hl)))
    · rw [ho]; refine Ev.ite_pos rfl (Ev.bind (ev_bestRun l n hn hn6 hU hl) (Ev.bind (ev_intervalsOf l (by omega)) (ev_impl_kept l n hl)))
theorem FnExactKeptIntervals : laws_FnExactKeptIntervals.PureQ := by
  intro l0 a1
  intros
  refine Ev.rounds (g := fun k => laws_FnExactKeptIntervals.f k l0 a1) ?_
  unfold laws_FnExactKeptIntervals.f
  by_cases cl0 : (l0.length : Int) > 1048576
  · exact Ev.ite_pos cl0 (Ev.now _)
  refine Ev.ite_neg cl0 ?_
  obtain ⟨r, b, hr, es, ei⟩ := bothKeptIntervals l0 a1 (by omega)
  have etl0 := ev_toInt64S l0 (by omega)
  have eql0 := ev_eqInt64S_same l0 (by omega)
  have eml0 := ev_markInt64S l0 (1) (by omega) (by omega) (by omega)
  have eqr := ev_eqInt64S_same r (by omega)
  have emr := ev_markInt64S r 1 (by omega) (by omega) (by omega)
  have ehr := ev_heldInt64S 1 r.length (by omega) (by omega) (by omega)
  repeat' first
    | exact Ev.now _
    | (with_reducible refine Ev.bind es ?_)
    | (with_reducible refine Ev.bind ei ?_)
    | (with_reducible refine Ev.bind etl0 ?_)
    | (with_reducible refine Ev.bind eql0 ?_)
    | (with_reducible refine Ev.bind eml0 ?_)
    | (with_reducible refine Ev.bind eqr ?_)
    | (with_reducible refine Ev.bind emr ?_)
    | (with_reducible refine Ev.bind ehr ?_)
    | (with_reducible refine Ev.ite_pos (by first | rfl | omega | (dsimp only; omega)) ?_)
    | (with_reducible refine Ev.ite_neg (by first | omega | (dsimp only; omega) | (simp; done) | (simp; omega)) ?_)
    | (apply Ev.succ; simp only [laws_FnExactKeptIntervals.j0, laws_FnExactKeptIntervals.j1, laws_FnExactKeptIntervals.j2])
end Go.Proofs.Ytellojkbfnfacaa.Pure
