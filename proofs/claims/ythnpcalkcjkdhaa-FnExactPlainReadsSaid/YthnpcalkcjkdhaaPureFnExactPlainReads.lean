/- The plain law of FnExactPlainReads: what it computes answers true; no conditions. -/
import Derived.Test.YthnpcalkcjkdhaaQx0
import Derived.Test.YthnpcalkcjkdhaaHValidTrace
import Derived.Test.YthnpcalkcjkdhaaQx18
import Derived.Test.YthnpcalkcjkdhaaQx19
import Derived.Test.YthnpcalkcjkdhaaSbase
import Derived.Test.YthnpcalkcjkdhaaSplain
import Derived.Test.YthnpcalkcjkdhaaStraces
import Derived.Test.YthnpcalkcjkdhaaSwords
namespace Go.Proofs.Ythnpcalkcjkdhaa.Q
open Go.RowKit Go.Proofs.YthnpcalkcjkdhaaW.PrintWords Go.Proofs.YthnpcalkcjkdhaaW.PrintLast Go.Proofs.YthnpcalkcjkdhaaW.PrintMore
attribute [local go_sem] max2_int min2_int max_two min_two max_three min_three max_four min_four   -- for this text's walks alone
set_option linter.unusedVariables false
set_option linter.unusedSimpArgs false

def laws_FnExactPlainReads.PureQ : Prop := ∀ (l0 : List S87), l0.length ≤ 9223372036854775807 → ∃ k, laws_FnExactPlainReads.f k l0 = some true
end Go.Proofs.Ythnpcalkcjkdhaa.Q
namespace Go.Proofs.Ythnpcalkcjkdhaa.Pure
open Go.RowKit Go.Proofs.Ythnpcalkcjkdhaa.Q Go.Proofs.YthnpcalkcjkdhaaW.PrintWords
theorem plainReads_both (l : List S85) (h : l.length ≤ 1048576) : ∃ r b, r.length ≤ 1048576 ∧ Ev (fun k => spec_PlainReads.f k l) (r, b) ∧ Ev (fun k => impl_PlainReads.f k l) (r, b) := by
  unfold spec_PlainReads.f impl_PlainReads.f
  cases ho : okTrace l with
  | false =>
    refine ⟨[], false, by simp, Ev.bind (ev_l02Is l (by omega)) ?_, Ev.cbind (a := false) (by show some (okTrace l) = _; rw [ho]) (Ev.ite_neg (by simp) (Ev.now _))⟩
    rw [ho]; exact Ev.ite_neg (by simp) (Ev.now _)
  | true =>
    obtain ⟨hl, ha⟩ := okTrace_acc ho
    have hp := plainAll_len l
    refine ⟨(plainAll l).1, true, by omega, Ev.bind (ev_l02Is l (by omega)) ?_, Ev.cbind (a := true) (by show some (okTrace l) = _; rw [ho]) (Ev.ite_pos rfl (Ev.bind (ev_plainRun l hl ha) (Ev.now _)))⟩
    rw [ho]; exact Ev.ite_pos rfl (Ev.bind (ev_l07Plain l hl ha) (Ev.now _))
theorem FnExactPlainReads : laws_FnExactPlainReads.PureQ := by
  intro l hl
  refine Ev.rounds (g := fun k => laws_FnExactPlainReads.f k l) ?_
  unfold laws_FnExactPlainReads.f
  by_cases hs : l.length ≤ 1048576
  · refine Ev.cbind (szAccessS_small l hs) (Ev.ite_neg (by omega) ?_)
    have hm : (l.map toImpl).length ≤ 1048576 := by simpa using hs
    obtain ⟨r, b, hr, es, ei⟩ := plainReads_both (l.map toImpl) hm
    obtain ⟨m, x, hm0, em⟩ := ev_markAccessS (l.map toImpl) (by omega)
    have et := ev_toAccessS l (by omega)
    refine Ev.bind et (Ev.bind es (Ev.bind et (Ev.bind ei (Ev.bind (ev_eqInt64S_same r (by omega)) (Ev.ite_pos rfl ?_)))))
    apply Ev.succ
    simp only [laws_FnExactPlainReads.j0]
    refine Ev.ite_neg (by simp) (Ev.bind et (Ev.bind (ev_eqAccessS_same _ (by omega)) (Ev.ite_pos rfl (Ev.bind em (Ev.ite_neg (by (try dsimp only); omega) (Ev.bind (ev_eqInt64S_same r (by omega)) (Ev.ite_pos rfl ?_)))))))
    apply Ev.succ
    simp only [laws_FnExactPlainReads.j1]
    refine Ev.ite_neg (by simp) (Ev.bind (ev_markInt64S r 1 (by omega) (by omega) (by omega)) (Ev.bind (ev_heldInt64S 1 r.length (by omega) (by omega) (by omega)) (Ev.ite_neg (by omega) (Ev.ite_pos rfl (Ev.bind et (Ev.bind ei (Ev.bind (ev_eqInt64S_same r (by omega)) (Ev.ite_pos rfl ?_))))))))
    apply Ev.succ
    simp only [laws_FnExactPlainReads.j2]
    exact Ev.ite_neg (by simp) (Ev.bind (ev_heldInt64S 1 r.length (by omega) (by omega) (by omega)) (Ev.ite_neg (by omega) (Ev.ite_pos rfl (Ev.now _))))
  · exact Ev.cbind (szAccessS_big l hs hl) (Ev.ite_pos (by omega) (Ev.now _))
end Go.Proofs.Ythnpcalkcjkdhaa.Pure
