/- Faults of working sets: both sides' are the same; no conditions beyond those written. -/
import Derived.Test.YtfiohpbinpbhcaaQx0
import Derived.Test.YtfiohpbinpbhcaaQx15
import Derived.Test.YtfiohpbinpbhcaaQx2
import Derived.Test.YtfiohpbinpbhcaaSbase
import Derived.Test.YtfiohpbinpbhcaaSfaults
import Derived.Test.YtfiohpbinpbhcaaSslcont
import Derived.Test.YtfiohpbinpbhcaaSuses
namespace Go.Proofs.Ytfiohpbinpbhcaa.Q
open Go.RowKit Go.Proofs.YtfiohpbinpbhcaaW.PrintWords Go.Proofs.YtfiohpbinpbhcaaW.PrintLast Go.Proofs.YtfiohpbinpbhcaaW.PrintMore
attribute [local go_sem] max2_int min2_int max_two min_two max_three min_three max_four min_four   -- for this text's walks alone
set_option linter.unusedVariables false
set_option linter.unusedSimpArgs false

def kp (l : List Int) (w : Nat) : Nat → List Int
  | 0 => []
  | i + 1 => wk l i w
theorem kp_length (l : List Int) (w i : Nat) : (kp l w i).length ≤ i := by
  cases i with
  | zero => simp [kp]
  | succ i => exact wk_length l i w
def flt (l : List Int) (w : Nat) : Nat → Nat
  | 0 => 0
  | i + 1 => flt l w i + (if rd l (i : Int) ∈ kp l w i then 0 else 1)
def wsum (l : List Int) (w : Nat) : Nat → Nat
  | 0 => 0
  | i + 1 => wsum l w i + (wk l i w).length
theorem flt_le (l : List Int) (w i : Nat) : flt l w i ≤ i := by
  induction i with
  | zero => simp [flt]
  | succ i ih => unfold flt; split <;> omega
theorem wsum_le (l : List Int) (w i m : Nat) (h : i ≤ m) : wsum l w i ≤ i * m := by
  induction i with
  | zero => simp [wsum]
  | succ i ih =>
    have h1 := ih (by omega)
    have h2 := wk_length l i w
    unfold wsum
    rw [Nat.add_mul]; omega
theorem ev_spec_faults (l : List Int) (w : Nat) (hl : l.length ≤ 1000) (hw : w ≤ 1000) : Ev (fun k => spec_SetFaults.l0 k l (w : Int) 0 0 [] 0) (((flt l w l.length : Nat) : Int), ((wsum l w l.length : Nat) : Int), true) := by
  refine Ev.up (fun i k => spec_SetFaults.l0 k l (w : Int) ((flt l w i : Nat) : Int) ((wsum l w i : Nat) : Int) (kp l w i) (i : Int)) l.length _ ?_ ?_
  · apply Ev.succ
    simp only [spec_SetFaults.l0]
    exact Ev.ite_neg (by omega) (Ev.now _)
  · intro i hi ih
    have h1 := flt_le l w i
    have h2 := wsum_le l w i 1000 (by omega)
    have h3 := wk_length l i w
    apply Ev.succ
    simp only [spec_SetFaults.l0]
    refine Ev.ite_pos (by omega) (Ev.ite_pos (by omega) (Ev.bind (ev_l00Has _ _ (by have := kp_length l w i; omega)) ?_))
    have hs : wrap64 (((wsum l w i : Nat) : Int) + ((wk l i w).length : Int)) = ((wsum l w (i + 1) : Nat) : Int) := by rw [wrap64_id (by omega) (by omega)]; simp [wsum]
    by_cases hk : rd l (i : Int) ∈ kp l w i
    · have hf : flt l w (i + 1) = flt l w i := by simp [flt, hk]
      rw [decide_eq_true hk]
      refine Ev.ite_pos rfl (Ev.bind (ev_l02Working l i w hi (by omega) hw) ?_)
      rw [hs, wrap64_succ (i := i) (by omega)]
      rw [hf] at ih
      exact ih
    · have hf : flt l w (i + 1) = flt l w i + 1 := by simp [flt, hk]
      rw [decide_eq_false hk]
      refine Ev.ite_neg (by simp) (Ev.bind (ev_l02Working l i w hi (by omega) hw) ?_)
      rw [hs, wrap64_succ (i := i) (by omega), wrap64_succ (i := flt l w i) (by omega)]
      rw [hf] at ih
      exact ih
theorem ev_impl_faults (l : List Int) (w : Nat) (hl : l.length ≤ 1000) (hw : w ≤ 1000) : Ev (fun k => impl_SetFaults.l0 k l (w : Int) 0 0 [] l (l.length : Int) 0) (((flt l w l.length : Nat) : Int), ((wsum l w l.length : Nat) : Int), true) := by
  refine Ev.up (fun i k => impl_SetFaults.l0 k l (w : Int) ((flt l w i : Nat) : Int) ((wsum l w i : Nat) : Int) (kp l w i) l (l.length : Int) (i : Int)) l.length _ ?_ ?_
  · apply Ev.succ
    simp only [impl_SetFaults.l0]
    exact Ev.ite_neg (by omega) (Ev.now _)
  · intro i hi ih
    have h1 := flt_le l w i
    have h2 := wsum_le l w i 1000 (by omega)
    have h3 := wk_length l i w
    apply Ev.succ
    simp only [impl_SetFaults.l0]
    refine Ev.ite_pos (by omega) (Ev.ite_pos (by omega) (Ev.ite_pos (by omega) (Ev.bind (ev_slices_Contains _ _ (by have := kp_length l w i; omega)) ?_)))
    have hs : wrap64 (((wsum l w i : Nat) : Int) + ((wk l i w).length : Int)) = ((wsum l w (i + 1) : Nat) : Int) := by rw [wrap64_id (by omega) (by omega)]; simp [wsum]
    by_cases hk : rd l (i : Int) ∈ kp l w i
    · have hf : flt l w (i + 1) = flt l w i := by simp [flt, hk]
      rw [decide_eq_true hk]
      refine Ev.ite_pos rfl (Ev.cbind (impl_workingSet_f l i w hi (by omega) hw) (Ev.cbind (a := ((wk l i w).length : Int)) rfl ?_))
      rw [hs, wrap64_succ (i := i) (by omega)]
      rw [hf] at ih
      exact ih
    · have hf : flt l w (i + 1) = flt l w i + 1 := by simp [flt, hk]
      rw [decide_eq_false hk]
      refine Ev.ite_neg (by simp) (Ev.cbind (impl_workingSet_f l i w hi (by omega) hw) (Ev.cbind (a := ((wk l i w).length : Int)) rfl ?_))
      rw [hs, wrap64_succ (i := i) (by omega), wrap64_succ (i := flt l w i) (by omega)]
      rw [hf] at ih
      exact ih
theorem impl_SetFaults_ok (l : List Int) (w : Nat) (ho : okUses l = true) (h1 : 1 ≤ w) (h2 : w ≤ 60) : Ev (fun k => impl_SetFaults.f k l (w : Int)) (((flt l w l.length : Nat) : Int), ((wsum l w l.length : Nat) : Int), true) := by
  obtain ⟨hm, hl⟩ := (okUses_iff l).1 ho
  unfold impl_SetFaults.f
  refine Ev.cbind (impl_ValidUses_f l) ?_
  rw [ho]
  refine Ev.ite_pos rfl (Ev.cbind (a := true) ?_ (Ev.succ ?_))
  · unfold impl_inRange.f; rw [if_pos (by omega)]; simp; omega
  · simp only [impl_SetFaults.j0]
    exact Ev.ite_neg (by simp) (ev_impl_faults l w (by omega) (by omega))
end Go.Proofs.Ytfiohpbinpbhcaa.Q
