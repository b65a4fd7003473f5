/- Members of a set and the kernel: both sides' are the same; no conditions beyond those written. -/
import Derived.Test.YtdhkcnhmmiigoaaQx0
import Derived.Test.YtdhkcnhmmiigoaaHkernel
import Derived.Test.YtdhkcnhmmiigoaaQx2
import Derived.Test.YtdhkcnhmmiigoaaSbase
import Derived.Test.YtdhkcnhmmiigoaaSl06Is
import Derived.Test.YtdhkcnhmmiigoaaSsets
import Derived.Test.YtdhkcnhmmiigoaaSupto
namespace Go.Proofs.Ytdhkcnhmmiigoaa.Q
open Go.RowKit Go.Proofs.YtdhkcnhmmiigoaaW.PrintWords Go.Proofs.YtdhkcnhmmiigoaaW.PrintLast Go.Proofs.YtdhkcnhmmiigoaaW.PrintMore
attribute [local go_sem] max2_int min2_int max_two min_two max_three min_three max_four min_four   -- for this text's walks alone
set_option linter.unusedVariables false
set_option linter.unusedSimpArgs false

theorem setStep_zero (rows : List Int) (hr : ∀ x ∈ rows, 0 ≤ x ∧ x ≤ 63) (i : Nat) (hi : i < 3) (hl : i < rows.length) : setStep rows 0 i 0 = 0 := by
  unfold setStep
  have hm := hr (rd rows (i : Int)) (by rw [rd_lt rows i hl]; exact List.getElem_mem hl)
  obtain ⟨m, hm2⟩ := fin_of hm.1 hm.2
  rw [hm2]
  have key : ∀ (m : Fin 64) (j : Fin 3), Go.bits .or .i64 0 (shl .i64 (par (Go.bits .and .i64 (m.val : Int) 0)) (j.val : Int)) = 0 := by decide +kernel
  exact key m ⟨i, hi⟩
theorem setVal_zero (rows : List Int) (hl : rows.length ≤ 3) (hr : ∀ x ∈ rows, 0 ≤ x ∧ x ≤ 63) : setVal rows 0 = 0 := by
  unfold setVal
  have key : ∀ n s : Nat, s + n ≤ rows.length → (List.range' s n).foldl (fun t i => setStep rows 0 i t) 0 = 0 := by
    intro n
    induction n with
    | zero => intro s _; rfl
    | succ n ih =>
      intro s hs
      rw [List.range'_succ, List.foldl_cons, setStep_zero rows hr s (by omega) (by omega)]
      exact ih (s + 1) (by omega)
  exact key _ 0 (by omega)
def membersTo (rows : List Int) (a : Int) (n : Nat) : List Int := (upto (fun j => (j : Int)) n).filter fun x => decide (setVal rows x = setVal rows a)
theorem membersTo_succ (rows : List Int) (a : Int) (n : Nat) : membersTo rows a (n + 1) = membersTo rows a n ++ (if setVal rows (n : Int) = setVal rows a then [(n : Int)] else []) := by
  unfold membersTo
  rw [upto_succ, List.filter_append]
  congr 1
  by_cases h : setVal rows (n : Int) = setVal rows a <;> simp [List.filter_cons, h]
theorem membersTo_length (rows : List Int) (a : Int) (n : Nat) : (membersTo rows a n).length ≤ n := by
  unfold membersTo
  exact Nat.le_trans (List.length_filter_le _ _) (by rw [upto_length]; exact Nat.le_refl _)
theorem ev_l06Members (rows : List Int) (a : Int) (hl : rows.length ≤ 3) (hr : ∀ x ∈ rows, 0 ≤ x ∧ x ≤ 63) (h0 : 0 ≤ a) (h1 : a ≤ 63) : Ev (fun k => spec_l06Members.f k rows a) (membersTo rows a 64) := by
  unfold spec_l06Members.f
  refine Ev.up (fun i k => spec_l06Members.l0 k rows a (membersTo rows a i) (i : Int)) 64 _ ?_ ?_
  · apply Ev.succ
    simp only [spec_l06Members.l0]
    exact Ev.ite_neg (by omega) (Ev.now _)
  · intro i hi ih
    have hml := membersTo_length rows a i
    rw [membersTo_succ] at ih
    apply Ev.succ
    simp only [spec_l06Members.l0]
    refine Ev.ite_pos (by omega) (Ev.bind (ev_l06Set rows (i : Int) hl hr (by omega) (by omega)) (Ev.bind (ev_l06Set rows a hl hr h0 h1) ?_))
    rw [wrap64_succ (by omega)]
    by_cases h : setVal rows (i : Int) = setVal rows a
    · rw [if_pos h] at ih
      exact Ev.ite_pos h (Ev.ite_pos (by omega) ih)
    · rw [if_neg h, List.append_nil] at ih
      exact Ev.ite_neg h ih
theorem kernel_f (rows : List Int) (ho : okRows rows = true) : impl_Index_kernel.f rows = some (membersTo rows 0 64) := by
  obtain ⟨hr, hl⟩ := (okRows_iff rows).1 ho
  unfold impl_Index_kernel.f membersTo
  rw [if_pos ho, setVal_zero rows hl hr]
  simp
end Go.Proofs.Ytdhkcnhmmiigoaa.Q
