/- The plain law of FnExactBestCuts: what it computes answers true; no conditions. -/
import Derived.Test.YteobbgofbedgdaaQx0
import Derived.Test.YteobbgofbedgdaaHbestCuts
import Derived.Test.YteobbgofbedgdaaQx2
import Derived.Test.YteobbgofbedgdaaQx4
import Derived.Test.YteobbgofbedgdaaSbase
import Derived.Test.YteobbgofbedgdaaSbestcspec
import Derived.Test.YteobbgofbedgdaaSdpdef
import Derived.Test.YteobbgofbedgdaaSintervals
import Derived.Test.YteobbgofbedgdaaSisin
import Derived.Test.YteobbgofbedgdaaSmarks
import Derived.Test.YteobbgofbedgdaaSokaddr
import Derived.Test.YteobbgofbedgdaaSusesimpl
import Derived.Test.YteobbgofbedgdaaSwords
namespace Go.Proofs.Yteobbgofbedgdaa.Q
open Go.RowKit Go.Proofs.YteobbgofbedgdaaW.PrintWords Go.Proofs.YteobbgofbedgdaaW.PrintLast Go.Proofs.YteobbgofbedgdaaW.PrintMore
attribute [local go_sem] max2_int min2_int max_two min_two max_three min_three max_four min_four   -- for this text's walks alone
set_option linter.unusedVariables false
set_option linter.unusedSimpArgs false

def laws_FnExactBestCuts.PureQ : Prop := ∀ (l0 : List Int) (a1 : Int), l0.length ≤ 9223372036854775807 → (Lit.int .i64 a1).wf = true → ∃ k, laws_FnExactBestCuts.f k l0 a1 = some true
end Go.Proofs.Yteobbgofbedgdaa.Q
namespace Go.Proofs.Yteobbgofbedgdaa.Pure
open Go.RowKit Go.Proofs.Yteobbgofbedgdaa.Q Go.Proofs.YteobbgofbedgdaaW.PrintWords
theorem bestC_len (l : List Int) (n : Int) (hn : 1 ≤ n) : (bestC (ivs l) n l.length).length ≤ l.length := by
  rw [bestC_tab]
  have := (tabK_small (ivs l) n hn l.length l.length 0 (by omega)).2.2
  omega
theorem bothBestCuts (l : List Int) (n : Int) (h : l.length ≤ 1048576) : ∃ r b, r.length ≤ 1048576 ∧ Ev (fun k => spec_BestCuts.f k l n) (r, b) ∧ impl_BestCuts.f l n = some (r, b) := by
  have es := ev_spec_BestCuts l n h
  unfold impl_BestCuts.f
  cases ho : okUses l && isIn 1 6 n with
  | false =>
    rw [ho] at es
    exact ⟨[], false, by simp, es, rfl⟩
  | true =>
    rw [ho] at es
    obtain ⟨h1, h2⟩ := Bool.and_eq_true_iff.1 ho
    obtain ⟨hn, hn6⟩ := ways_range h2
    refine ⟨bestC (ivs l) n l.length, true, ?_, es, rfl⟩
    have := bestC_len l n hn
    omega
theorem FnExactBestCuts : laws_FnExactBestCuts.PureQ := by
  intro l0 a1
  intros
  refine Ev.rounds (g := fun k => laws_FnExactBestCuts.f k l0 a1) ?_
  unfold laws_FnExactBestCuts.f
  by_cases cl0 : (l0.length : Int) > 1048576
  · exact Ev.ite_pos cl0 (Ev.now _)
  refine Ev.ite_neg cl0 ?_
  obtain ⟨r, b, hr, es, ei⟩ := bothBestCuts l0 a1 (by omega)
  have etl0 := ev_toInt64S l0 (by omega)
  have eql0 := ev_eqInt64S_same l0 (by omega)
  have eml0 := ev_markInt64S l0 (1) (by omega) (by omega) (by omega)
  have eqr := ev_eqInt64S_same r (by omega)
  have emr := ev_markInt64S r 1 (by omega) (by omega) (by omega)
  have ehr := ev_heldInt64S 1 r.length (by omega) (by omega) (by omega)
  repeat' first
    | exact Ev.now _
    | (with_reducible refine Ev.bind es ?_)
    | (with_reducible refine Ev.cbind ei ?_)
    | (with_reducible refine Ev.bind ei ?_)
    | (with_reducible refine Ev.bind etl0 ?_)
    | (with_reducible refine Ev.bind eql0 ?_)
    | (with_reducible refine Ev.bind eml0 ?_)
    | (with_reducible refine Ev.bind eqr ?_)
    | (with_reducible refine Ev.bind emr ?_)
    | (with_reducible refine Ev.bind ehr ?_)
    | (with_reducible refine Ev.ite_pos (by first | rfl | omega | (dsimp only; omega)) ?_)
    | (with_reducible refine Ev.ite_neg (by first | omega | (dsimp only; omega) | (simp; done) | (simp; omega)) ?_)
    | (apply Ev.succ; simp only [laws_FnExactBestCuts.j0, laws_FnExactBestCuts.j1, laws_FnExactBestCuts.j2])
end Go.Proofs.Yteobbgofbedgdaa.Pure
