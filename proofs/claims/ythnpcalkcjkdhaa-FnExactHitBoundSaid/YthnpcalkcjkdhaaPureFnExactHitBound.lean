/- The plain law of FnExactHitBound: what it computes answers true; no conditions. -/
import Derived.Test.YthnpcalkcjkdhaaQx0
import Derived.Test.YthnpcalkcjkdhaaHhitBound
import Derived.Test.YthnpcalkcjkdhaaQx1
import Derived.Test.YthnpcalkcjkdhaaQx2
import Derived.Test.YthnpcalkcjkdhaaSbase
import Derived.Test.YthnpcalkcjkdhaaSfine
import Derived.Test.YthnpcalkcjkdhaaShit
import Derived.Test.YthnpcalkcjkdhaaShit5
import Derived.Test.YthnpcalkcjkdhaaSintervals
import Derived.Test.YthnpcalkcjkdhaaSisin
import Derived.Test.YthnpcalkcjkdhaaSrises
import Derived.Test.YthnpcalkcjkdhaaSuses
import Derived.Test.YthnpcalkcjkdhaaSwords
namespace Go.Proofs.Ythnpcalkcjkdhaa.Q
open Go.RowKit Go.Proofs.YthnpcalkcjkdhaaW.PrintWords Go.Proofs.YthnpcalkcjkdhaaW.PrintLast Go.Proofs.YthnpcalkcjkdhaaW.PrintMore
attribute [local go_sem] max2_int min2_int max_two min_two max_three min_three max_four min_four   -- for this text's walks alone
set_option linter.unusedVariables false
set_option linter.unusedSimpArgs false

def laws_FnExactHitBound.PureQ : Prop := ∀ (l0 : List Int) (a1 : Int) (l2 : List Int), l0.length ≤ 9223372036854775807 → (Lit.int .i64 a1).wf = true → l2.length ≤ 9223372036854775807 → ∃ k, laws_FnExactHitBound.f k l0 a1 l2 = some true
end Go.Proofs.Ythnpcalkcjkdhaa.Q
namespace Go.Proofs.Ythnpcalkcjkdhaa.Pure
open Go.RowKit Go.Proofs.Ythnpcalkcjkdhaa.Q Go.Proofs.YthnpcalkcjkdhaaW.PrintWords
theorem bothHitBound (l : List Int) (n : Int) (cuts : List Int) (h : l.length ≤ 1048576) (hc : cuts.length ≤ 1048576) : ∃ r b, Ev (fun k => spec_HitBound.f k l n cuts) (r, b) ∧ impl_HitBound.f l n cuts = some (r, b) := by
  unfold spec_HitBound.f impl_HitBound.f
  have hw : wrap64 ((l.length : Int) - 1) = (l.length : Int) - 1 := wrap64_id (by omega) (by omega)
  have hcuts : Ev (fun k => spec_l05Cuts.f k l cuts) (rises cuts 0 ((l.length : Int) - 1)) := by
    unfold spec_l05Cuts.f
    rw [hw]
    exact Ev.bind (ev_l00Rises cuts 0 _ (by omega)) (Ev.now _)
  cases hg0 : (okUses l && isIn 1 6 n) with
  | false => exact ⟨0, false, Ev.bind (Ev.eq (ev_l05Fine l n (by omega)) hg0) (Ev.ite_neg (by simp) (Ev.now _)), by simp⟩
  | true =>
    cases hg1 : rises cuts 0 ((l.length : Int) - 1) with
    | false => exact ⟨0, false, Ev.bind (Ev.eq (ev_l05Fine l n (by omega)) hg0) (Ev.ite_pos rfl (Ev.bind (Ev.eq hcuts hg1) (Ev.ite_neg (by simp) (Ev.now _)))), by simp⟩
    | true =>
      obtain ⟨h1, _⟩ := Bool.and_eq_true_iff.1 hg0
      obtain ⟨hU, hul⟩ := (okUses_iff l).1 h1
      exact ⟨hbTo l n cuts (ivs l).length, true, Ev.bind (Ev.eq (ev_l05Fine l n (by omega)) hg0) (Ev.ite_pos rfl (Ev.bind (Ev.eq hcuts hg1) (Ev.ite_pos rfl (Ev.bind (ev_l05Bound l n cuts hul hc) (Ev.now _))))), by simp⟩
theorem FnExactHitBound : laws_FnExactHitBound.PureQ := by
  intro l0 a1 l2
  intros
  refine Ev.rounds (g := fun k => laws_FnExactHitBound.f k l0 a1 l2) ?_
  unfold laws_FnExactHitBound.f
  by_cases cl0 : (l0.length : Int) > 1048576
  · exact Ev.ite_pos cl0 (Ev.now _)
  refine Ev.ite_neg cl0 ?_
  by_cases cl2 : (l2.length : Int) > 1048576
  · exact Ev.ite_pos cl2 (Ev.now _)
  refine Ev.ite_neg cl2 ?_
  obtain ⟨r, b, es, ei⟩ := bothHitBound l0 a1 l2 (by omega) (by omega)
  have etl0 := ev_toInt64S l0 (by omega)
  have eql0 := ev_eqInt64S_same l0 (by omega)
  have etl2 := ev_toInt64S l2 (by omega)
  have eql2 := ev_eqInt64S_same l2 (by omega)
  repeat' first
    | exact Ev.now _
    | (with_reducible refine Ev.bind es ?_)
    | (with_reducible refine Ev.cbind ei ?_)
    | (with_reducible refine Ev.bind etl0 ?_)
    | (with_reducible refine Ev.bind eql0 ?_)
    | (with_reducible refine Ev.bind etl2 ?_)
    | (with_reducible refine Ev.bind eql2 ?_)
    | (with_reducible refine Ev.ite_pos (by first | rfl | omega | (dsimp only; omega)) ?_)
    | (with_reducible refine Ev.ite_neg (by first | omega | (dsimp only; omega) | (simp; done) | (simp; omega)) ?_)
    | (apply Ev.succ; simp only [laws_FnExactHitBound.j0])
end Go.Proofs.Ythnpcalkcjkdhaa.Pure
