/- The plain law of FnExactStackOf: what it computes answers true; no conditions. -/
import Derived.Test.YthnpcalkcjkdhaaQx0
import Derived.Test.YthnpcalkcjkdhaaHstackOf
import Derived.Test.YthnpcalkcjkdhaaQx1
import Derived.Test.YthnpcalkcjkdhaaQx2
import Derived.Test.YthnpcalkcjkdhaaSbase
import Derived.Test.YthnpcalkcjkdhaaSmarks
import Derived.Test.YthnpcalkcjkdhaaSokuses
import Derived.Test.YthnpcalkcjkdhaaSstackl
import Derived.Test.YthnpcalkcjkdhaaSuses
import Derived.Test.YthnpcalkcjkdhaaSwords
namespace Go.Proofs.Ythnpcalkcjkdhaa.Q
open Go.RowKit Go.Proofs.YthnpcalkcjkdhaaW.PrintWords Go.Proofs.YthnpcalkcjkdhaaW.PrintLast Go.Proofs.YthnpcalkcjkdhaaW.PrintMore
attribute [local go_sem] max2_int min2_int max_two min_two max_three min_three max_four min_four   -- for this text's walks alone
set_option linter.unusedVariables false
set_option linter.unusedSimpArgs false

def laws_FnExactStackOf.PureQ : Prop := ∀ (l0 : List Int), l0.length ≤ 9223372036854775807 → ∃ k, laws_FnExactStackOf.f k l0 = some true
end Go.Proofs.Ythnpcalkcjkdhaa.Q
namespace Go.Proofs.Ythnpcalkcjkdhaa.Pure
open Go.RowKit Go.Proofs.Ythnpcalkcjkdhaa.Q Go.Proofs.YthnpcalkcjkdhaaW.PrintWords
theorem ev_l04Front (s : List Int) (a : Int) (h : s.length ≤ 1000000000) : Ev (fun k => spec_l04Front.f k s a) (frontL s a) := by
  unfold spec_l04Front.f
  refine Ev.up (fun i k => spec_l04Front.l0 k s a (frontL (s.take i) a) (i : Int)) s.length _ ?_ ?_
  · apply Ev.succ
    simp only [spec_l04Front.l0]
    rw [List.take_length]
    exact Ev.ite_neg (by omega) (Ev.now _)
  · intro i hi ih
    have hl := frontL_length (s.take i) a
    rw [List.length_take] at hl
    apply Ev.succ
    simp only [spec_l04Front.l0]
    refine Ev.ite_pos (by omega) (Ev.ite_pos (by omega) ?_)
    rw [wrap64_succ (by omega)]
    by_cases e : rd s (i : Int) = a
    · have : frontL (s.take (i + 1)) a = frontL (s.take i) a := by unfold frontL; rw [take_succ_rd s i hi, List.filter_append]; simp [e]
      rw [this] at ih
      exact Ev.ite_pos e ih
    · have : frontL (s.take (i + 1)) a = frontL (s.take i) a ++ [rd s (i : Int)] := by unfold frontL; rw [take_succ_rd s i hi, List.filter_append]; simp [e]
      rw [this] at ih
      exact Ev.ite_neg e (Ev.ite_pos (by omega) ih)
theorem bothStackOf (l : List Int) (h : l.length ≤ 1048576) : ∃ r b, r.length ≤ 1048576 ∧ Ev (fun k => spec_StackOf.f k l) (r, b) ∧ impl_StackOf.f l = some (r, b) := by
  unfold spec_StackOf.f impl_StackOf.f
  cases ho : okUses l with
  | false =>
    refine ⟨[], false, by simp, Ev.bind (ev_l02Uses l (by omega)) ?_, by simp⟩
    rw [ho]; exact Ev.ite_neg (by simp) (Ev.now _)
  | true =>
    have hsl := (stackL_facts l).2.2
    refine ⟨stackL l, true, by omega, Ev.bind (ev_l02Uses l (by omega)) ?_, by simp⟩
    rw [ho]
    refine Ev.ite_pos rfl (Ev.up (fun i k => spec_StackOf.l0 k l (stackL (l.take i)) (i : Int)) l.length _ ?_ ?_)
    · apply Ev.succ
      simp only [spec_StackOf.l0]
      rw [List.take_length]
      exact Ev.ite_neg (by omega) (Ev.now _)
    · intro i hi ih
      have hs := (stackL_facts (l.take i)).2.2
      rw [List.length_take] at hs
      rw [take_succ_rd l i hi, stackL_snoc] at ih
      apply Ev.succ
      simp only [spec_StackOf.l0]
      refine Ev.ite_pos (by omega) (Ev.ite_pos (by omega) (Ev.bind (ev_l04Front _ _ (by omega)) ?_))
      rw [wrap64_succ (by omega)]
      exact ih
theorem FnExactStackOf : laws_FnExactStackOf.PureQ := by
  intro l0
  intros
  refine Ev.rounds (g := fun k => laws_FnExactStackOf.f k l0) ?_
  unfold laws_FnExactStackOf.f
  by_cases cl0 : (l0.length : Int) > 1048576
  · exact Ev.ite_pos cl0 (Ev.now _)
  refine Ev.ite_neg cl0 ?_
  obtain ⟨r, b, hr, es, ei⟩ := bothStackOf l0 (by omega)
  have etl0 := ev_toInt64S l0 (by omega)
  have eql0 := ev_eqInt64S_same l0 (by omega)
  have eml0 := ev_markInt64S l0 (1) (by omega) (by omega) (by omega)
  have eqr := ev_eqInt64S_same r (by omega)
  have emr := ev_markInt64S r 1 (by omega) (by omega) (by omega)
  have ehr := ev_heldInt64S 1 r.length (by omega) (by omega) (by omega)
  repeat' first
    | exact Ev.now _
    | (with_reducible refine Ev.bind es ?_)
    | (with_reducible refine Ev.cbind ei ?_)
    | (with_reducible refine Ev.bind etl0 ?_)
    | (with_reducible refine Ev.bind eql0 ?_)
    | (with_reducible refine Ev.bind eml0 ?_)
    | (with_reducible refine Ev.bind eqr ?_)
    | (with_reducible refine Ev.bind emr ?_)
    | (with_reducible refine Ev.bind ehr ?_)
    | (with_reducible refine Ev.ite_pos (by first | rfl | omega | (dsimp only; omega)) ?_)
    | (with_reducible refine Ev.ite_neg (by first | omega | (dsimp only; omega) | (simp; done) | (simp; omega)) ?_)
    | (apply Ev.succ; simp only [laws_FnExactStackOf.j0, laws_FnExactStackOf.j1, laws_FnExactStackOf.j2])
end Go.Proofs.Ythnpcalkcjkdhaa.Pure
