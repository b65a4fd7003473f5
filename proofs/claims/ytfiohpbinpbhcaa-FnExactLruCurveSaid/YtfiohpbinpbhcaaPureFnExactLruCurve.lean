/- The plain law of FnExactLruCurve: what it computes answers true; no conditions. -/
import Derived.Test.YtfiohpbinpbhcaaQx0
import Derived.Test.YtfiohpbinpbhcaaQx1
import Derived.Test.YtfiohpbinpbhcaaQx2
import Derived.Test.YtfiohpbinpbhcaaQx20
import Derived.Test.YtfiohpbinpbhcaaQx21
import Derived.Test.YtfiohpbinpbhcaaQx22
import Derived.Test.YtfiohpbinpbhcaaQx23
import Derived.Test.YtfiohpbinpbhcaaSbase
import Derived.Test.YtfiohpbinpbhcaaScurve
import Derived.Test.YtfiohpbinpbhcaaSdist
import Derived.Test.YtfiohpbinpbhcaaSuses
import Derived.Test.YtfiohpbinpbhcaaSwords
namespace Go.Proofs.Ytfiohpbinpbhcaa.Q
open Go.RowKit Go.Proofs.YtfiohpbinpbhcaaW.PrintWords Go.Proofs.YtfiohpbinpbhcaaW.PrintLast Go.Proofs.YtfiohpbinpbhcaaW.PrintMore
attribute [local go_sem] max2_int min2_int max_two min_two max_three min_three max_four min_four   -- for this text's walks alone
set_option linter.unusedVariables false
set_option linter.unusedSimpArgs false

def laws_FnExactLruCurve.PureQ : Prop := ∀ (l0 : List Int) (a1 : Int), l0.length ≤ 9223372036854775807 → (Lit.int .i64 a1).wf = true → ∃ k, laws_FnExactLruCurve.f k l0 a1 = some true
end Go.Proofs.Ytfiohpbinpbhcaa.Q
namespace Go.Proofs.Ytfiohpbinpbhcaa.Pure
open Go.RowKit Go.Proofs.Ytfiohpbinpbhcaa.Q Go.Proofs.YtfiohpbinpbhcaaW.PrintWords
theorem bothLruCurve (l : List Int) (m : Int) (h : l.length ≤ 1048576) : ∃ r b, r.length ≤ 1048576 ∧ Ev (fun k => spec_LruCurve.f k l m) (r, b) ∧ Ev (fun k => impl_LruCurve.f k l m) (r, b) := by
  unfold spec_LruCurve.f impl_LruCurve.f
  have hs : spec_l04Size.f m = some (decide (0 ≤ m ∧ m ≤ 60)) := by
    unfold spec_l04Size.f spec_l00In.f
    by_cases h0 : m ≥ 0 <;> simp [h0]
  have hi : impl_isMost.f m = some (decide (0 ≤ m ∧ m ≤ 60)) := by
    unfold impl_isMost.f impl_inRange.f
    by_cases h0 : 0 ≤ m <;> simp [h0]
  cases ho : okUses l with
  | false =>
    refine ⟨[], false, by simp, Ev.bind (ev_l02Uses l (by omega)) ?_, Ev.cbind (impl_ValidUses_f l) ?_⟩
    · rw [ho]; refine Ev.ite_neg (by simp) (Ev.succ ?_); simp only [spec_LruCurve.j0]; exact Ev.ite_pos (by first | rfl | trivial | simp) (Ev.now _)
    · rw [ho]; refine Ev.ite_neg (by simp) (Ev.succ ?_); simp only [impl_LruCurve.j0]; exact Ev.ite_pos (by first | rfl | trivial | simp) (Ev.now _)
  | true =>
    obtain ⟨hm, hl⟩ := (okUses_iff l).1 ho
    have hd : (dists l).length = l.length := by unfold dists; rw [distsTo_length]
    by_cases hr : 0 ≤ m ∧ m ≤ 60
    · obtain ⟨n, rfl⟩ : ∃ n : Nat, m = (n : Int) := ⟨m.toNat, by omega⟩
      refine ⟨crv (dists l) (n + 1), true, by rw [crv_length]; omega, Ev.bind (ev_l02Uses l (by omega)) ?_, Ev.cbind (impl_ValidUses_f l) ?_⟩
      · rw [ho]; refine Ev.ite_pos rfl (Ev.cbind hs (Ev.succ ?_)); simp only [spec_LruCurve.j0]; rw [decide_eq_true hr]
        exact Ev.ite_neg (by simp) (Ev.bind (ev_l04Distances l (by omega)) (Ev.bind (ev_spec_curve _ n (by omega) (by omega)) (Ev.now _)))
      · rw [ho]; refine Ev.ite_pos rfl (Ev.cbind hi (Ev.succ ?_)); simp only [impl_LruCurve.j0]; rw [decide_eq_true hr]
        exact Ev.ite_neg (by simp) (Ev.bind (ev_distancesOf l (by omega)) (Ev.bind (ev_impl_curve _ n (by omega) (by omega)) (Ev.now _)))
    · refine ⟨[], false, by simp, Ev.bind (ev_l02Uses l (by omega)) ?_, Ev.cbind (impl_ValidUses_f l) ?_⟩
      · rw [ho]; refine Ev.ite_pos rfl (Ev.cbind hs (Ev.succ ?_)); simp only [spec_LruCurve.j0]; rw [decide_eq_false hr]; exact Ev.ite_pos (by first | rfl | trivial | simp) (Ev.now _)
      · rw [ho]; refine Ev.ite_pos rfl (Ev.cbind hi (Ev.succ ?_)); simp only [impl_LruCurve.j0]; rw [decide_eq_false hr]; exact Ev.ite_pos (by first | rfl | trivial | simp) (Ev.now _)
theorem FnExactLruCurve : laws_FnExactLruCurve.PureQ := by
  intro l0 a1
  intros
  refine Ev.rounds (g := fun k => laws_FnExactLruCurve.f k l0 a1) ?_
  unfold laws_FnExactLruCurve.f
  by_cases cl0 : (l0.length : Int) > 1048576
  · exact Ev.ite_pos cl0 (Ev.now _)
  refine Ev.ite_neg cl0 ?_
  obtain ⟨r, b, hr, es, ei⟩ := bothLruCurve l0 a1 (by omega)
  have etl0 := ev_toInt64S l0 (by omega)
  have eql0 := ev_eqInt64S_same l0 (by omega)
  have eml0 := ev_markInt64S l0 (1) (by omega) (by omega) (by omega)
  have eqr := ev_eqInt64S_same r (by omega)
  have emr := ev_markInt64S r 1 (by omega) (by omega) (by omega)
  have ehr := ev_heldInt64S 1 r.length (by omega) (by omega) (by omega)
  repeat' first
    | exact Ev.now _
    | (with_reducible refine Ev.bind es ?_)
    | (with_reducible refine Ev.bind ei ?_)
    | (with_reducible refine Ev.bind etl0 ?_)
    | (with_reducible refine Ev.bind eql0 ?_)
    | (with_reducible refine Ev.bind eml0 ?_)
    | (with_reducible refine Ev.bind eqr ?_)
    | (with_reducible refine Ev.bind emr ?_)
    | (with_reducible refine Ev.bind ehr ?_)
    | (with_reducible refine Ev.ite_pos (by first | rfl | omega | (dsimp only; omega)) ?_)
    | (with_reducible refine Ev.ite_neg (by first | omega | (dsimp only; omega) | (simp; done) | (simp; omega)) ?_)
    | (apply Ev.succ; simp only [laws_FnExactLruCurve.j0, laws_FnExactLruCurve.j1, laws_FnExactLruCurve.j2])
end Go.Proofs.Ytfiohpbinpbhcaa.Pure
