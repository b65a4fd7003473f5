/- The plain law of FnExactRankStack: what it computes answers true; no conditions. -/
import Derived.Test.YteobbgofbedgdaaQx0
import Derived.Test.YteobbgofbedgdaaQx26
import Derived.Test.YteobbgofbedgdaaQx27
import Derived.Test.YteobbgofbedgdaaQx28
import Derived.Test.YteobbgofbedgdaaSbase
import Derived.Test.YteobbgofbedgdaaSpush
import Derived.Test.YteobbgofbedgdaaSranks
import Derived.Test.YteobbgofbedgdaaSuses
import Derived.Test.YteobbgofbedgdaaSwords
namespace Go.Proofs.Yteobbgofbedgdaa.Q
open Go.RowKit Go.Proofs.YteobbgofbedgdaaW.PrintWords Go.Proofs.YteobbgofbedgdaaW.PrintLast Go.Proofs.YteobbgofbedgdaaW.PrintMore
attribute [local go_sem] max2_int min2_int max_two min_two max_three min_three max_four min_four   -- for this text's walks alone
set_option linter.unusedVariables false
set_option linter.unusedSimpArgs false

def laws_FnExactRankStack.PureQ : Prop := ∀ (l0 : List Int) (l1 : List Int), l0.length ≤ 9223372036854775807 → l1.length ≤ 9223372036854775807 → ∃ k, laws_FnExactRankStack.f k l0 l1 = some true
end Go.Proofs.Yteobbgofbedgdaa.Q
namespace Go.Proofs.Yteobbgofbedgdaa.Pure
open Go.RowKit Go.Proofs.Yteobbgofbedgdaa.Q Go.Proofs.YteobbgofbedgdaaW.PrintWords
theorem ev_specRankStack (R U : List Int) (hR : R.length = 64) (hU : In64 U) (hl : U.length ≤ 1000000) : Ev (fun k => spec_RankStack.l0 k R U [] 0) (stk R U U.length, true) := by
  refine Ev.up (fun j k => spec_RankStack.l0 k R U (stk R U j) (j : Int)) U.length _ ?_ ?_
  · apply Ev.succ
    simp only [spec_RankStack.l0]
    exact Ev.ite_neg (by omega) (Ev.now _)
  · intro j hj ih
    apply Ev.succ
    simp only [spec_RankStack.l0]
    refine Ev.ite_pos (by omega) (Ev.ite_pos (by omega) (Ev.bind (ev_l04Push R _ _ hR (stk_in R U hU j (by omega)) (by have := stk_length R U j; omega)) ?_))
    rw [wrap64_succ (by omega)]
    exact ih
theorem bothRankStack (l m : List Int) (h : l.length ≤ 1048576) (h2 : m.length ≤ 1048576) : ∃ r b, r.length ≤ 1048576 ∧ Ev (fun k => spec_RankStack.f k l m) (r, b) ∧ Ev (fun k => impl_RankStack.f k l m) (r, b) := by
  unfold spec_RankStack.f impl_RankStack.f
  cases ho : okRanks l with
  | false =>
    refine ⟨[], false, by simp, Ev.bind (ev_l04Ranks l (by omega)) ?_, Ev.cbind (impl_ValidRanks_f l) ?_⟩
    · rw [ho]; refine Ev.ite_neg (by simp) (Ev.succ ?_); simp only [spec_RankStack.j0]; exact Ev.ite_pos (by first | rfl | trivial | simp) (Ev.now _)
    · rw [ho]; exact Ev.ite_neg (by simp) (Ev.now _)
  | true =>
    have hR := okRanks_length ho
    cases hu : okUses m with
    | false =>
      refine ⟨[], false, by simp, Ev.bind (ev_l04Ranks l (by omega)) ?_, Ev.cbind (impl_ValidRanks_f l) ?_⟩
      · rw [ho]; refine Ev.ite_pos rfl (Ev.bind (ev_l02Uses m (by omega)) (Ev.succ ?_)); rw [hu]; simp only [spec_RankStack.j0]; exact Ev.ite_pos (by first | rfl | trivial | simp) (Ev.now _)
      · rw [ho]; refine Ev.ite_pos rfl (Ev.cbind (impl_ValidUses_f m) ?_); rw [hu]; exact Ev.ite_neg (by simp) (Ev.now _)
    | true =>
      obtain ⟨hm, hl⟩ := (okUses_iff m).1 hu
      refine ⟨stk l m m.length, true, by have := stk_length l m m.length; omega, Ev.bind (ev_l04Ranks l (by omega)) ?_, Ev.cbind (impl_ValidRanks_f l) ?_⟩
      · rw [ho]; refine Ev.ite_pos rfl (Ev.bind (ev_l02Uses m (by omega)) (Ev.succ ?_)); rw [hu]; simp only [spec_RankStack.j0]; exact Ev.ite_neg (by simp) (ev_specRankStack l m hR hm (by omega))
      · rw [ho]; refine Ev.ite_pos rfl (Ev.cbind (impl_ValidUses_f m) ?_); rw [hu]; exact Ev.ite_pos rfl (Ev.bind (ev_rankRun l m hR hm (by omega)) (Ev.now _))
theorem FnExactRankStack : laws_FnExactRankStack.PureQ := by
  intro l0 l1
  intros
  refine Ev.rounds (g := fun k => laws_FnExactRankStack.f k l0 l1) ?_
  unfold laws_FnExactRankStack.f
  by_cases cl0 : (l0.length : Int) > 1048576
  · exact Ev.ite_pos cl0 (Ev.now _)
  refine Ev.ite_neg cl0 ?_
  by_cases cl1 : (l1.length : Int) > 1048576
  · exact Ev.ite_pos cl1 (Ev.now _)
  refine Ev.ite_neg cl1 ?_
  obtain ⟨r, b, hr, es, ei⟩ := bothRankStack l0 l1 (by omega) (by omega)
  have etl0 := ev_toInt64S l0 (by omega)
  have eql0 := ev_eqInt64S_same l0 (by omega)
  have etl1 := ev_toInt64S l1 (by omega)
  have eql1 := ev_eqInt64S_same l1 (by omega)
  have eml0 := ev_markInt64S l0 (1) (by omega) (by omega) (by omega)
  have eml1 := ev_markInt64S l1 (1 + (l0.length : Int)) (by omega) (by omega) (by omega)
  have eqr := ev_eqInt64S_same r (by omega)
  have emr := ev_markInt64S r 1 (by omega) (by omega) (by omega)
  have ehr := ev_heldInt64S 1 r.length (by omega) (by omega) (by omega)
  repeat' first
    | exact Ev.now _
    | (with_reducible refine Ev.bind es ?_)
    | (with_reducible refine Ev.bind ei ?_)
    | (with_reducible refine Ev.bind etl0 ?_)
    | (with_reducible refine Ev.bind eql0 ?_)
    | (with_reducible refine Ev.bind etl1 ?_)
    | (with_reducible refine Ev.bind eql1 ?_)
    | (with_reducible refine Ev.bind eml0 ?_)
    | (with_reducible refine Ev.bind eml1 ?_)
    | (with_reducible refine Ev.bind eqr ?_)
    | (with_reducible refine Ev.bind emr ?_)
    | (with_reducible refine Ev.bind ehr ?_)
    | (with_reducible refine Ev.ite_pos (by first | rfl | omega | (dsimp only; omega)) ?_)
    | (with_reducible refine Ev.ite_neg (by first | omega | (dsimp only; omega) | (simp; done) | (simp; omega)) ?_)
    | (apply Ev.succ; simp only [laws_FnExactRankStack.j0, laws_FnExactRankStack.j1, laws_FnExactRankStack.j2])
end Go.Proofs.Yteobbgofbedgdaa.Pure
