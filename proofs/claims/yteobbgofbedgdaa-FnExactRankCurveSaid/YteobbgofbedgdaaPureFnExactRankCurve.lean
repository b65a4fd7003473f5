/- The plain law of FnExactRankCurve: what it computes answers true; no conditions. -/
import Derived.Test.YteobbgofbedgdaaQx0
import Derived.Test.YteobbgofbedgdaaQx1
import Derived.Test.YteobbgofbedgdaaQx13
import Derived.Test.YteobbgofbedgdaaQx15
import Derived.Test.YteobbgofbedgdaaQx16
import Derived.Test.YteobbgofbedgdaaQx2
import Derived.Test.YteobbgofbedgdaaSbase
import Derived.Test.YteobbgofbedgdaaScurve
import Derived.Test.YteobbgofbedgdaaSpush
import Derived.Test.YteobbgofbedgdaaSranks
import Derived.Test.YteobbgofbedgdaaSuses
import Derived.Test.YteobbgofbedgdaaSwords
namespace Go.Proofs.Yteobbgofbedgdaa.Q
open Go.RowKit Go.Proofs.YteobbgofbedgdaaW.PrintWords Go.Proofs.YteobbgofbedgdaaW.PrintLast Go.Proofs.YteobbgofbedgdaaW.PrintMore
attribute [local go_sem] max2_int min2_int max_two min_two max_three min_three max_four min_four   -- for this text's walks alone
set_option linter.unusedVariables false
set_option linter.unusedSimpArgs false

def laws_FnExactRankCurve.PureQ : Prop := ∀ (l0 : List Int) (l1 : List Int) (a2 : Int), l0.length ≤ 9223372036854775807 → l1.length ≤ 9223372036854775807 → (Lit.int .i64 a2).wf = true → ∃ k, laws_FnExactRankCurve.f k l0 l1 a2 = some true
end Go.Proofs.Yteobbgofbedgdaa.Q
namespace Go.Proofs.Yteobbgofbedgdaa.Pure
open Go.RowKit Go.Proofs.Yteobbgofbedgdaa.Q Go.Proofs.YteobbgofbedgdaaW.PrintWords
theorem ev_specRankCurve (R U : List Int) (n : Nat) (hn : n ≤ 60) (hR : R.length = 64) (hU : In64 U) (hl : U.length ≤ 1000000) : Ev (fun k => spec_RankCurve.l0 k R U (n : Int) [] [] 0) (crv (plc R U U.length) (n + 1), true) := by
  refine Ev.up (fun j k => spec_RankCurve.l0 k R U (n : Int) (plc R U j) (stk R U j) (j : Int)) U.length _ ?_ ?_
  · apply Ev.succ
    simp only [spec_RankCurve.l0]
    exact Ev.ite_neg (by omega) (Ev.bind (ev_spec_curve _ n (by rw [plc_length]; omega) (by omega)) (Ev.now _))
  · intro j hj ih
    apply Ev.succ
    simp only [spec_RankCurve.l0]
    refine Ev.ite_pos (by omega) (Ev.ite_pos (by omega) (Ev.bind (ev_l04Push R _ _ hR (stk_in R U hU j (by omega)) (by have := stk_length R U j; omega)) (Ev.ite_pos (by rw [plc_length]; omega) ?_)))
    rw [wrap64_succ (by omega)]
    exact ih
theorem bothRankCurve (l m : List Int) (a : Int) (h : l.length ≤ 1048576) (h2 : m.length ≤ 1048576) : ∃ r b, r.length ≤ 1048576 ∧ Ev (fun k => spec_RankCurve.f k l m a) (r, b) ∧ Ev (fun k => impl_RankCurve.f k l m a) (r, b) := by
  unfold spec_RankCurve.f impl_RankCurve.f
  have hs : spec_l04Size.f a = some (decide (0 ≤ a ∧ a ≤ 60)) := by
    unfold spec_l04Size.f spec_l00In.f
    by_cases h0 : a ≥ 0 <;> simp [h0]
  have hi : impl_isMost.f a = some (decide (0 ≤ a ∧ a ≤ 60)) := by
    unfold impl_isMost.f impl_inRange.f
    by_cases h0 : 0 ≤ a <;> simp [h0]
  cases ho : okRanks l with
  | false =>
    refine ⟨[], false, by simp, Ev.bind (ev_l04Ranks l (by omega)) ?_, Ev.cbind (impl_ValidRanks_f l) ?_⟩
    · rw [ho]; refine Ev.ite_neg (by simp) (Ev.succ ?_); simp only [spec_RankCurve.j0]; exact Ev.ite_pos (by first | rfl | trivial | simp) (Ev.now _)
    · rw [ho]; refine Ev.ite_neg (by simp) (Ev.succ ?_); simp only [impl_RankCurve.j0]; exact Ev.ite_pos (by first | rfl | trivial | simp) (Ev.now _)
  | true =>
    have hR := okRanks_length ho
    cases hu : okUses m with
    | false =>
      refine ⟨[], false, by simp, Ev.bind (ev_l04Ranks l (by omega)) ?_, Ev.cbind (impl_ValidRanks_f l) ?_⟩
      · rw [ho]; refine Ev.ite_pos rfl (Ev.bind (ev_l02Uses m (by omega)) ?_); rw [hu]; refine Ev.ite_neg (by simp) (Ev.succ ?_); simp only [spec_RankCurve.j0]; exact Ev.ite_pos (by first | rfl | trivial | simp) (Ev.now _)
      · rw [ho]; refine Ev.ite_pos rfl (Ev.cbind (impl_ValidUses_f m) ?_); rw [hu]; refine Ev.ite_neg (by simp) (Ev.succ ?_); simp only [impl_RankCurve.j0]; exact Ev.ite_pos (by first | rfl | trivial | simp) (Ev.now _)
    | true =>
      obtain ⟨hm, hl⟩ := (okUses_iff m).1 hu
      by_cases hr : 0 ≤ a ∧ a ≤ 60
      · obtain ⟨n, rfl⟩ : ∃ n : Nat, a = (n : Int) := ⟨a.toNat, by omega⟩
        refine ⟨crv (plc l m m.length) (n + 1), true, by rw [crv_length]; omega, Ev.bind (ev_l04Ranks l (by omega)) ?_, Ev.cbind (impl_ValidRanks_f l) ?_⟩
        · rw [ho]; refine Ev.ite_pos rfl (Ev.bind (ev_l02Uses m (by omega)) ?_); rw [hu]; refine Ev.ite_pos rfl (Ev.cbind hs (Ev.succ ?_)); simp only [spec_RankCurve.j0]; rw [decide_eq_true hr]; exact Ev.ite_neg (by simp) (ev_specRankCurve l m n (by omega) hR hm (by omega))
        · rw [ho]; refine Ev.ite_pos rfl (Ev.cbind (impl_ValidUses_f m) ?_); rw [hu]; refine Ev.ite_pos rfl (Ev.cbind hi (Ev.succ ?_)); simp only [impl_RankCurve.j0]; rw [decide_eq_true hr]; exact Ev.ite_neg (by simp) (Ev.bind (ev_rankRun l m hR hm (by omega)) (Ev.bind (ev_impl_curve _ n (by rw [plc_length]; omega) (by omega)) (Ev.now _)))
      · refine ⟨[], false, by simp, Ev.bind (ev_l04Ranks l (by omega)) ?_, Ev.cbind (impl_ValidRanks_f l) ?_⟩
        · rw [ho]; refine Ev.ite_pos rfl (Ev.bind (ev_l02Uses m (by omega)) ?_); rw [hu]; refine Ev.ite_pos rfl (Ev.cbind hs (Ev.succ ?_)); simp only [spec_RankCurve.j0]; rw [decide_eq_false hr]; exact Ev.ite_pos (by first | rfl | trivial | simp) (Ev.now _)
        · rw [ho]; refine Ev.ite_pos rfl (Ev.cbind (impl_ValidUses_f m) ?_); rw [hu]; refine Ev.ite_pos rfl (Ev.cbind hi (Ev.succ ?_)); simp only [impl_RankCurve.j0]; rw [decide_eq_false hr]; exact Ev.ite_pos (by first | rfl | trivial | simp) (Ev.now _)
theorem FnExactRankCurve : laws_FnExactRankCurve.PureQ := by
  intro l0 l1 a2
  intros
  refine Ev.rounds (g := fun k => laws_FnExactRankCurve.f k l0 l1 a2) ?_
  unfold laws_FnExactRankCurve.f
  by_cases cl0 : (l0.length : Int) > 1048576
  · exact Ev.ite_pos cl0 (Ev.now _)
  refine Ev.ite_neg cl0 ?_
  by_cases cl1 : (l1.length : Int) > 1048576
  · exact Ev.ite_pos cl1 (Ev.now _)
  refine Ev.ite_neg cl1 ?_
  obtain ⟨r, b, hr, es, ei⟩ := bothRankCurve l0 l1 a2 (by omega) (by omega)
  have etl0 := ev_toInt64S l0 (by omega)
  have eql0 := ev_eqInt64S_same l0 (by omega)
  have etl1 := ev_toInt64S l1 (by omega)
  have eql1 := ev_eqInt64S_same l1 (by omega)
  have eml0 := ev_markInt64S l0 (1) (by omega) (by omega) (by omega)
  have eml1 := ev_markInt64S l1 (1 + (l0.length : Int)) (by omega) (by omega) (by omega)
  have eqr := ev_eqInt64S_same r (by omega)
  have emr := ev_markInt64S r 1 (by omega) (by omega) (by omega)
  have ehr := ev_heldInt64S 1 r.length (by omega) (by omega) (by omega)
  repeat' first
    | exact Ev.now _
    | (with_reducible refine Ev.bind es ?_)
    | (with_reducible refine Ev.bind ei ?_)
    | (with_reducible refine Ev.bind etl0 ?_)
    | (with_reducible refine Ev.bind eql0 ?_)
    | (with_reducible refine Ev.bind etl1 ?_)
    | (with_reducible refine Ev.bind eql1 ?_)
    | (with_reducible refine Ev.bind eml0 ?_)
    | (with_reducible refine Ev.bind eml1 ?_)
    | (with_reducible refine Ev.bind eqr ?_)
    | (with_reducible refine Ev.bind emr ?_)
    | (with_reducible refine Ev.bind ehr ?_)
    | (with_reducible refine Ev.ite_pos (by first | rfl | omega | (dsimp only; omega)) ?_)
    | (with_reducible refine Ev.ite_neg (by first | omega | (dsimp only; omega) | (simp; done) | (simp; omega)) ?_)
    | (apply Ev.succ; simp only [laws_FnExactRankCurve.j0, laws_FnExactRankCurve.j1, laws_FnExactRankCurve.j2])
end Go.Proofs.Yteobbgofbedgdaa.Pure
