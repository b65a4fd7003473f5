/- The plain law of FnExactClockRun: what it computes answers true; no conditions. -/
import Derived.Test.YteobbgofbedgdaaQx0
import Derived.Test.YteobbgofbedgdaaHimplClockRun
import Derived.Test.YteobbgofbedgdaaHspecClockRun
import Derived.Test.YteobbgofbedgdaaQx2
import Derived.Test.YteobbgofbedgdaaSbase
import Derived.Test.YteobbgofbedgdaaSclockdef
import Derived.Test.YteobbgofbedgdaaSeqi
import Derived.Test.YteobbgofbedgdaaSmarks
import Derived.Test.YteobbgofbedgdaaStraces
namespace Go.Proofs.Yteobbgofbedgdaa.Q
open Go.RowKit Go.Proofs.YteobbgofbedgdaaW.PrintWords Go.Proofs.YteobbgofbedgdaaW.PrintLast Go.Proofs.YteobbgofbedgdaaW.PrintMore
attribute [local go_sem] max2_int min2_int max_two min_two max_three min_three max_four min_four   -- for this text's walks alone
set_option linter.unusedVariables false
set_option linter.unusedSimpArgs false

def laws_FnExactClockRun.PureQ : Prop := ∀ (a0 : Int) (l1 : List S62), (Lit.int .i64 a0).wf = true → l1.length ≤ 9223372036854775807 → ∃ k, laws_FnExactClockRun.f k a0 l1 = some true
end Go.Proofs.Yteobbgofbedgdaa.Q
namespace Go.Proofs.Yteobbgofbedgdaa.Pure
open Go.RowKit Go.Proofs.Yteobbgofbedgdaa.Q Go.Proofs.YteobbgofbedgdaaW.PrintWords
theorem runC_len (fr : Nat) (t : List S60) (i : Nat) : (runC fr t i).2.1.length = i := by
  induction i with
  | zero => rfl
  | succ i ih =>
    show ((runC fr t i).2.1 ++ [_]).length = i + 1
    rw [List.length_append, List.length_singleton, ih]
theorem clkF_len (a0 : Int) (t : List S60) (h : t.length ≤ 1048576) : (clkF a0 t).1.length ≤ 1048576 := by
  unfold clkF
  split
  · show (runC a0.toNat t t.length).2.1.length ≤ _
    rw [runC_len]; exact h
  · exact Nat.zero_le _
theorem FnExactClockRun : laws_FnExactClockRun.PureQ := by
  intro a0 l _ hl
  refine Ev.rounds (g := fun k => laws_FnExactClockRun.f k a0 l) ?_
  unfold laws_FnExactClockRun.f
  by_cases hs : l.length ≤ 1048576
  · refine Ev.cbind (szAccessS_small l hs) (Ev.ite_neg (by omega) ?_)
    have hm : (l.map toImpl).length ≤ 1048576 := by simpa using hs
    have hr := clkF_len a0 (l.map toImpl) hm
    have es : spec_ClockRun.f a0 (l.map toImpl) = some (clkF a0 (l.map toImpl)) := by unfold spec_ClockRun.f; rw [if_pos hm]
    have ei : impl_ClockRun.f a0 (l.map toImpl) = some (clkF a0 (l.map toImpl)) := rfl
    generalize clkF a0 (l.map toImpl) = r at hr es ei
    obtain ⟨m, x, hm0, em⟩ := ev_markAccessS (l.map toImpl) (by omega)
    have et := ev_toAccessS l (by omega)
    have eqr := ev_eqJ_same r.1 (by omega)
    refine Ev.bind et (Ev.cbind es (Ev.bind et (Ev.cbind ei (Ev.bind eqr (Ev.ite_pos rfl (Ev.ite_pos rfl ?_))))))
    apply Ev.succ
    simp only [laws_FnExactClockRun.j0]
    refine Ev.ite_neg (by simp) (Ev.bind et (Ev.bind (ev_eqAccessS_same _ (by omega)) (Ev.ite_pos rfl (Ev.bind em (Ev.ite_neg (by (try dsimp only); omega) (Ev.bind eqr (Ev.ite_pos rfl (Ev.ite_pos (by simp) ?_))))))))
    apply Ev.succ
    simp only [laws_FnExactClockRun.j1]
    refine Ev.ite_neg (by simp) (Ev.bind (ev_markInt64S r.1 1 (by omega) (by omega) (by omega)) (Ev.bind (ev_heldInt64S 1 r.1.length (by omega) (by omega) (by omega)) (Ev.ite_neg (by omega) (Ev.ite_pos rfl (Ev.bind et (Ev.cbind ei (Ev.bind eqr (Ev.ite_pos rfl (Ev.ite_pos (by simp) ?_)))))))))
    apply Ev.succ
    simp only [laws_FnExactClockRun.j2]
    exact Ev.ite_neg (by simp) (Ev.bind (ev_heldInt64S 1 r.1.length (by omega) (by omega) (by omega)) (Ev.ite_neg (by omega) (Ev.ite_pos rfl (Ev.now _))))
  · exact Ev.cbind (szAccessS_big l hs hl) (Ev.ite_pos (by omega) (Ev.now _))
end Go.Proofs.Yteobbgofbedgdaa.Pure
