/- The plain law of FnExactSetFaults: what it computes answers true; no conditions. -/
import Derived.Test.YtfiohpbinpbhcaaQx0
import Derived.Test.YtfiohpbinpbhcaaQx1
import Derived.Test.YtfiohpbinpbhcaaQx13
import Derived.Test.YtfiohpbinpbhcaaQx2
import Derived.Test.YtfiohpbinpbhcaaSbase
import Derived.Test.YtfiohpbinpbhcaaSsetfaults
import Derived.Test.YtfiohpbinpbhcaaSuses
import Derived.Test.YtfiohpbinpbhcaaSwords
namespace Go.Proofs.Ytfiohpbinpbhcaa.Q
open Go.RowKit Go.Proofs.YtfiohpbinpbhcaaW.PrintWords Go.Proofs.YtfiohpbinpbhcaaW.PrintLast Go.Proofs.YtfiohpbinpbhcaaW.PrintMore
attribute [local go_sem] max2_int min2_int max_two min_two max_three min_three max_four min_four   -- for this text's walks alone
set_option linter.unusedVariables false
set_option linter.unusedSimpArgs false

def laws_FnExactSetFaults.PureQ : Prop := ∀ (l0 : List Int) (a1 : Int), l0.length ≤ 9223372036854775807 → (Lit.int .i64 a1).wf = true → ∃ k, laws_FnExactSetFaults.f k l0 a1 = some true
end Go.Proofs.Ytfiohpbinpbhcaa.Q
namespace Go.Proofs.Ytfiohpbinpbhcaa.Pure
open Go.RowKit Go.Proofs.Ytfiohpbinpbhcaa.Q Go.Proofs.YtfiohpbinpbhcaaW.PrintWords
theorem bothSetFaults (l : List Int) (m : Int) (h : l.length ≤ 1048576) : ∃ r q b, Ev (fun k => spec_SetFaults.f k l m) (r, q, b) ∧ Ev (fun k => impl_SetFaults.f k l m) (r, q, b) := by
  unfold spec_SetFaults.f impl_SetFaults.f
  have hs : spec_l00In.f m 1 60 = some (decide (1 ≤ m ∧ m ≤ 60)) := by
    unfold spec_l00In.f
    by_cases h0 : m ≥ 1 <;> simp [h0]
  have hi : impl_inRange.f m 1 60 = some (decide (1 ≤ m ∧ m ≤ 60)) := by
    unfold impl_inRange.f
    by_cases h0 : 1 ≤ m <;> simp [h0]
  cases ho : okUses l with
  | false =>
    refine ⟨0, 0, false, Ev.bind (ev_l02Uses l (by omega)) ?_, Ev.cbind (impl_ValidUses_f l) ?_⟩
    · rw [ho]; refine Ev.ite_neg (by simp) (Ev.succ ?_); simp only [spec_SetFaults.j0]; exact Ev.ite_pos (by first | rfl | trivial | simp) (Ev.now _)
    · rw [ho]; refine Ev.ite_neg (by simp) (Ev.succ ?_); simp only [impl_SetFaults.j0]; exact Ev.ite_pos (by first | rfl | trivial | simp) (Ev.now _)
  | true =>
    obtain ⟨hm, hl⟩ := (okUses_iff l).1 ho
    by_cases hr : 1 ≤ m ∧ m ≤ 60
    · obtain ⟨n, rfl⟩ : ∃ n : Nat, m = (n : Int) := ⟨m.toNat, by omega⟩
      refine ⟨((flt l n l.length : Nat) : Int), ((wsum l n l.length : Nat) : Int), true, Ev.bind (ev_l02Uses l (by omega)) ?_, Ev.cbind (impl_ValidUses_f l) ?_⟩
      · rw [ho]; refine Ev.ite_pos rfl (Ev.cbind hs (Ev.succ ?_)); simp only [spec_SetFaults.j0]; rw [decide_eq_true hr]
        exact Ev.ite_neg (by simp) (ev_spec_faults l n (by omega) (by omega))
      · rw [ho]; refine Ev.ite_pos rfl (Ev.cbind hi (Ev.succ ?_)); simp only [impl_SetFaults.j0]; rw [decide_eq_true hr]
        exact Ev.ite_neg (by simp) (ev_impl_faults l n (by omega) (by omega))
    · refine ⟨0, 0, false, Ev.bind (ev_l02Uses l (by omega)) ?_, Ev.cbind (impl_ValidUses_f l) ?_⟩
      · rw [ho]; refine Ev.ite_pos rfl (Ev.cbind hs (Ev.succ ?_)); simp only [spec_SetFaults.j0]; rw [decide_eq_false hr]; exact Ev.ite_pos (by first | rfl | trivial | simp) (Ev.now _)
      · rw [ho]; refine Ev.ite_pos rfl (Ev.cbind hi (Ev.succ ?_)); simp only [impl_SetFaults.j0]; rw [decide_eq_false hr]; exact Ev.ite_pos (by first | rfl | trivial | simp) (Ev.now _)
theorem FnExactSetFaults : laws_FnExactSetFaults.PureQ := by
  intro l0 a1
  intros
  refine Ev.rounds (g := fun k => laws_FnExactSetFaults.f k l0 a1) ?_
  unfold laws_FnExactSetFaults.f
  by_cases cl0 : (l0.length : Int) > 1048576
  · exact Ev.ite_pos cl0 (Ev.now _)
  refine Ev.ite_neg cl0 ?_
  obtain ⟨r, q, b, es, ei⟩ := bothSetFaults l0 a1 (by omega)
  have etl0 := ev_toInt64S l0 (by omega)
  have eql0 := ev_eqInt64S_same l0 (by omega)
  repeat' first
    | exact Ev.now _
    | (with_reducible refine Ev.bind es ?_)
    | (with_reducible refine Ev.bind ei ?_)
    | (with_reducible refine Ev.bind etl0 ?_)
    | (with_reducible refine Ev.bind eql0 ?_)
    | (with_reducible refine Ev.ite_pos (by first | rfl | omega | (dsimp only; omega)) ?_)
    | (with_reducible refine Ev.ite_neg (by first | omega | (dsimp only; omega) | (simp; done) | (simp; omega)) ?_)
    | (apply Ev.succ; simp only [laws_FnExactSetFaults.j0])
end Go.Proofs.Ytfiohpbinpbhcaa.Pure
