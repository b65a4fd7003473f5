/- A plain memory: both sides' runs are the same; no conditions beyond those written. -/
import Derived.Test.YthnpcalkcjkdhaaQx0
import Derived.Test.YthnpcalkcjkdhaaQx13
import Derived.Test.YthnpcalkcjkdhaaQx16
import Derived.Test.YthnpcalkcjkdhaaSbase
import Derived.Test.YthnpcalkcjkdhaaStraces
namespace Go.Proofs.Ythnpcalkcjkdhaa.Q
open Go.RowKit Go.Proofs.YthnpcalkcjkdhaaW.PrintWords Go.Proofs.YthnpcalkcjkdhaaW.PrintLast Go.Proofs.YthnpcalkcjkdhaaW.PrintMore
attribute [local go_sem] max2_int min2_int max_two min_two max_three min_three max_four min_four   -- for this text's walks alone
set_option linter.unusedVariables false
set_option linter.unusedSimpArgs false

/-- One access to plain memory: what has been read, and the words. -/
def plainStep (l : List S85) (i : Nat) (s : List Int × List Int) : List Int × List Int :=
  if (rd_T85 l (i : Int)).f0 = 1 then (s.1, s.2.set (rd_T85 l (i : Int)).f1.toNat ((i + 1 : Nat) : Int)) else (s.1 ++ [rd s.2 (rd_T85 l (i : Int)).f1], s.2)
def plainAll (l : List S85) : List Int × List Int := (List.range' 0 l.length).foldl (fun s i => plainStep l i s) ([], List.replicate 64 0)
theorem plainStep_inv (l : List S85) (i : Nat) (s : List Int × List Int) (h : s.2.length = 64 ∧ s.1.length ≤ i) : (plainStep l i s).2.length = 64 ∧ (plainStep l i s).1.length ≤ i + 1 := by
  unfold plainStep
  split
  · simp [h.1]; omega
  · simp [h.1]; omega
theorem ev_plainRun (l : List S85) (hl : l.length ≤ 60) (ha : ∀ x ∈ l, 0 ≤ x.f1 ∧ x.f1 ≤ 63) : Ev (fun k => impl_plainRun.f k l) (plainAll l) := by
  unfold impl_plainRun.f
  refine Ev.ite_pos (by omega) ?_
  refine Ev.fold (fun i s k => impl_plainRun.l0 k s.1 s.2 l (l.length : Int) (i : Int)) l.length (plainStep l) (fun s => s) (fun i s => s.2.length = 64 ∧ s.1.length ≤ i) ?_ ?_ ?_ l.length 0 ([], List.replicate 64 0) (by omega) (by simp)
  · intro s hs
    apply Ev.succ
    simp only [impl_plainRun.l0]
    exact Ev.ite_neg (by omega) (Ev.now _)
  · intro i s _ hs
    exact plainStep_inv l i s hs
  · intro i s r hi hs hr
    apply Ev.succ
    simp only [impl_plainRun.l0]
    have hm := ha (rd_T85 l (i : Int)) (by rw [rdI_lt l i hi]; exact List.getElem_mem hi)
    refine Ev.ite_pos (by omega) (Ev.ite_pos (by omega) (Ev.ite_pos (by omega) ?_))
    rw [wrap64_succ (by omega)]
    unfold plainStep at hr
    by_cases c : (rd_T85 l (i : Int)).f0 = 1
    · rw [if_pos c] at hr
      exact Ev.ite_pos c (Ev.ite_pos hm.1 (Ev.ite_pos (by omega) hr))
    · rw [if_neg c] at hr
      exact Ev.ite_neg c (Ev.ite_pos hm.1 (Ev.ite_pos (by omega) (Ev.ite_pos (by omega) hr)))
theorem ev_l07Plain (l : List S85) (hl : l.length ≤ 60) (ha : ∀ x ∈ l, 0 ≤ x.f1 ∧ x.f1 ≤ 63) : Ev (fun k => spec_l07Plain.f k l) (plainAll l) := by
  unfold spec_l07Plain.f
  refine Ev.ite_pos (by omega) ?_
  refine Ev.fold (fun i s k => spec_l07Plain.l0 k l s.2 s.1 (i : Int)) l.length (plainStep l) (fun s => s) (fun i s => s.2.length = 64 ∧ s.1.length ≤ i) ?_ ?_ ?_ l.length 0 ([], List.replicate 64 0) (by omega) (by simp)
  · intro s hs
    apply Ev.succ
    simp only [spec_l07Plain.l0]
    exact Ev.ite_neg (by omega) (Ev.now _)
  · intro i s _ hs
    exact plainStep_inv l i s hs
  · intro i s r hi hs hr
    apply Ev.succ
    simp only [spec_l07Plain.l0]
    have hm := ha (rd_T85 l (i : Int)) (by rw [rdI_lt l i hi]; exact List.getElem_mem hi)
    refine Ev.ite_pos (by omega) (Ev.ite_pos (by omega) ?_)
    rw [wrap64_succ (by omega)]
    unfold plainStep at hr
    by_cases c : (rd_T85 l (i : Int)).f0 = 1
    · rw [if_pos c] at hr
      exact Ev.ite_pos c (Ev.ite_pos hm.1 (Ev.ite_pos (by omega) hr))
    · rw [if_neg c] at hr
      exact Ev.ite_neg c (Ev.ite_pos hm.1 (Ev.ite_pos (by omega) (Ev.ite_pos (by omega) hr)))
theorem plainAll_len (l : List S85) : (plainAll l).2.length = 64 ∧ (plainAll l).1.length ≤ l.length := by
  unfold plainAll
  have : ∀ (d i : Nat) (s : List Int × List Int), s.2.length = 64 ∧ s.1.length ≤ i → ((List.range' i d).foldl (fun s i => plainStep l i s) s).2.length = 64 ∧ ((List.range' i d).foldl (fun s i => plainStep l i s) s).1.length ≤ i + d := by
    intro d
    induction d with
    | zero => intro i s h; simpa using h
    | succ d ih =>
      intro i s h
      rw [List.range'_succ, List.foldl_cons]
      have := ih (i + 1) _ (plainStep_inv l i s h)
      refine ⟨this.1, by omega⟩
  have h := this l.length 0 ([], List.replicate 64 0) (by simp)
  simpa using h
end Go.Proofs.Ythnpcalkcjkdhaa.Q
