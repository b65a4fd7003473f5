/- The plain law of FnExactRankContents: what it computes answers true; no conditions. -/
import Derived.Test.YteobbgofbedgdaaQx0
import Derived.Test.YteobbgofbedgdaaHrankcontents
import Derived.Test.YteobbgofbedgdaaHsetOf
import Derived.Test.YteobbgofbedgdaaQx1
import Derived.Test.YteobbgofbedgdaaQx15
import Derived.Test.YteobbgofbedgdaaSbase
import Derived.Test.YteobbgofbedgdaaSmarks
import Derived.Test.YteobbgofbedgdaaSmemory
import Derived.Test.YteobbgofbedgdaaSranks
import Derived.Test.YteobbgofbedgdaaSsetl
import Derived.Test.YteobbgofbedgdaaSuses
import Derived.Test.YteobbgofbedgdaaSwords
namespace Go.Proofs.Yteobbgofbedgdaa.Q
open Go.RowKit Go.Proofs.YteobbgofbedgdaaW.PrintWords Go.Proofs.YteobbgofbedgdaaW.PrintLast Go.Proofs.YteobbgofbedgdaaW.PrintMore
attribute [local go_sem] max2_int min2_int max_two min_two max_three min_three max_four min_four   -- for this text's walks alone
set_option linter.unusedVariables false
set_option linter.unusedSimpArgs false

def laws_FnExactRankContents.PureQ : Prop := ∀ (l0 : List Int) (l1 : List Int) (a2 : Int), l0.length ≤ 9223372036854775807 → l1.length ≤ 9223372036854775807 → (Lit.int .i64 a2).wf = true → ∃ k, laws_FnExactRankContents.f k l0 l1 a2 = some true
end Go.Proofs.Yteobbgofbedgdaa.Q
namespace Go.Proofs.Yteobbgofbedgdaa.Pure
open Go.RowKit Go.Proofs.Yteobbgofbedgdaa.Q Go.Proofs.YteobbgofbedgdaaW.PrintWords
theorem bothRankContents (l m : List Int) (a : Int) (h : l.length ≤ 1048576) (h2 : m.length ≤ 1048576) : ∃ r b, r.length ≤ 1048576 ∧ Ev (fun k => spec_RankContents.f k l m a) (r, b) ∧ Ev (fun _ => impl_RankContents.f l m a) (r, b) := by
  unfold spec_RankContents.f impl_RankContents.f
  have hs : spec_l00In.f a 1 60 = some (decide (1 ≤ a ∧ a ≤ 60)) := by
    unfold spec_l00In.f
    by_cases h0 : a ≥ 1 <;> simp [h0]
  cases ho : okRanks l with
  | false =>
    refine ⟨[], false, by simp, Ev.bind (ev_l04Ranks l (by omega)) ?_, Ev.ite_neg (by simp) (Ev.now _)⟩
    rw [ho]; exact Ev.ite_neg (by simp) (Ev.now _)
  | true =>
    have hR := okRanks_length ho
    have hr : In64R l := ((rk_iff l []).1 ((okRanks_iff l).1 ho).1).1
    cases hu : okUses m with
    | false =>
      refine ⟨[], false, by simp, Ev.bind (ev_l04Ranks l (by omega)) ?_, Ev.ite_pos rfl (Ev.ite_neg (by simp) (Ev.now _))⟩
      rw [ho]; refine Ev.ite_pos rfl (Ev.bind (ev_l02Uses m (by omega)) ?_); rw [hu]; exact Ev.ite_neg (by simp) (Ev.now _)
    | true =>
      obtain ⟨hm, hml⟩ := (okUses_iff m).1 hu
      cases hd : decide (1 ≤ a ∧ a ≤ 60) with
      | false =>
        refine ⟨[], false, by simp, Ev.bind (ev_l04Ranks l (by omega)) ?_, Ev.ite_pos rfl (Ev.ite_pos rfl (Ev.ite_neg (by simp) (Ev.now _)))⟩
        rw [ho]; refine Ev.ite_pos rfl (Ev.bind (ev_l02Uses m (by omega)) ?_); rw [hu]; refine Ev.ite_pos rfl (Ev.cbind hs ?_); rw [hd]; exact Ev.ite_neg (by simp) (Ev.now _)
      | true =>
        have ha : 1 ≤ a := by simp at hd; omega
        obtain ⟨q, hq⟩ := ev_l04Memory l m a ha hm (by omega) hR hr
        have hle := setL_length_le (memTo l m a m.length)
        have hml2 := (memTo_in l m a hm m.length (Nat.le_refl _)).2
        refine ⟨setL (memTo l m a m.length), true, by omega, Ev.bind (ev_l04Ranks l (by omega)) ?_, Ev.ite_pos rfl (Ev.ite_pos rfl (Ev.ite_pos rfl (Ev.now _)))⟩
        rw [ho]; refine Ev.ite_pos rfl (Ev.bind (ev_l02Uses m (by omega)) ?_); rw [hu]; refine Ev.ite_pos rfl (Ev.cbind hs ?_); rw [hd]; exact Ev.ite_pos rfl (Ev.bind hq (Ev.now _))
theorem FnExactRankContents : laws_FnExactRankContents.PureQ := by
  intro l0 l1 a2
  intros
  refine Ev.rounds (g := fun k => laws_FnExactRankContents.f k l0 l1 a2) ?_
  unfold laws_FnExactRankContents.f
  by_cases cl0 : (l0.length : Int) > 1048576
  · exact Ev.ite_pos cl0 (Ev.now _)
  refine Ev.ite_neg cl0 ?_
  by_cases cl1 : (l1.length : Int) > 1048576
  · exact Ev.ite_pos cl1 (Ev.now _)
  refine Ev.ite_neg cl1 ?_
  obtain ⟨r, b, hr, es, ei⟩ := bothRankContents l0 l1 a2 (by omega) (by omega)
  have etl0 := ev_toInt64S l0 (by omega)
  have eql0 := ev_eqInt64S_same l0 (by omega)
  have etl1 := ev_toInt64S l1 (by omega)
  have eql1 := ev_eqInt64S_same l1 (by omega)
  have eml0 := ev_markInt64S l0 (1) (by omega) (by omega) (by omega)
  have eml1 := ev_markInt64S l1 (1 + (l0.length : Int)) (by omega) (by omega) (by omega)
  have eqr := ev_eqInt64S_same r (by omega)
  have emr := ev_markInt64S r 1 (by omega) (by omega) (by omega)
  have ehr := ev_heldInt64S 1 r.length (by omega) (by omega) (by omega)
  repeat' first
    | exact Ev.now _
    | (with_reducible refine Ev.bind es ?_)
    | (with_reducible refine Ev.bind ei ?_)
    | (with_reducible refine Ev.bind etl0 ?_)
    | (with_reducible refine Ev.bind eql0 ?_)
    | (with_reducible refine Ev.bind etl1 ?_)
    | (with_reducible refine Ev.bind eql1 ?_)
    | (with_reducible refine Ev.bind eml0 ?_)
    | (with_reducible refine Ev.bind eml1 ?_)
    | (with_reducible refine Ev.bind eqr ?_)
    | (with_reducible refine Ev.bind emr ?_)
    | (with_reducible refine Ev.bind ehr ?_)
    | (with_reducible refine Ev.ite_pos (by first | rfl | omega | (dsimp only; omega)) ?_)
    | (with_reducible refine Ev.ite_neg (by first | omega | (dsimp only; omega) | (simp; done) | (simp; omega)) ?_)
    | (apply Ev.succ; simp only [laws_FnExactRankContents.j0, laws_FnExactRankContents.j1, laws_FnExactRankContents.j2])
end Go.Proofs.Yteobbgofbedgdaa.Pure
