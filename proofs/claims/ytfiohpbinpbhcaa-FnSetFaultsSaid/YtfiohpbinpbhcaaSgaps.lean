/- Gaps and sizes of working sets; no conditions beyond those written. -/
import Derived.Test.YtfiohpbinpbhcaaQx0
import Derived.Test.YtfiohpbinpbhcaaQx17
import Derived.Test.YtfiohpbinpbhcaaQx2
import Derived.Test.YtfiohpbinpbhcaaSbase
import Derived.Test.YtfiohpbinpbhcaaSfaults
import Derived.Test.YtfiohpbinpbhcaaSlast
import Derived.Test.YtfiohpbinpbhcaaSsetfaults
import Derived.Test.YtfiohpbinpbhcaaSsetl
import Derived.Test.YtfiohpbinpbhcaaSuses
namespace Go.Proofs.Ytfiohpbinpbhcaa.Q
open Go.RowKit Go.Proofs.YtfiohpbinpbhcaaW.PrintWords Go.Proofs.YtfiohpbinpbhcaaW.PrintLast Go.Proofs.YtfiohpbinpbhcaaW.PrintMore
attribute [local go_sem] max2_int min2_int max_two min_two max_three min_three max_four min_four   -- for this text's walks alone
set_option linter.unusedVariables false
set_option linter.unusedSimpArgs false

def gap (l : List Int) (i : Nat) : Int := if 0 ≤ lu l (rd l (i : Int)) i then (i : Int) - lu l (rd l (i : Int)) i else 0
def gapsTo (l : List Int) (n : Nat) : List Int := (List.range n).map (gap l)
def sizesTo (l : List Int) (w n : Nat) : List Int := (List.range n).map (fun i => ((wk l i w).length : Int))
theorem gapsTo_succ (l : List Int) (n : Nat) : gapsTo l (n + 1) = gapsTo l n ++ [gap l n] := by unfold gapsTo; rw [List.range_succ, List.map_append]; rfl
theorem gapsTo_length (l : List Int) (n : Nat) : (gapsTo l n).length = n := by simp [gapsTo]
theorem sizesTo_succ (l : List Int) (w n : Nat) : sizesTo l w (n + 1) = sizesTo l w n ++ [((wk l n w).length : Int)] := by unfold sizesTo; rw [List.range_succ, List.map_append]; rfl
theorem sizesTo_length (l : List Int) (w n : Nat) : (sizesTo l w n).length = n := by simp [sizesTo]
theorem rd_gapsTo (l : List Int) (n i : Nat) (h : i < n) : rd (gapsTo l n) (i : Int) = gap l i := by
  rw [rd_lt _ i (by rw [gapsTo_length]; exact h)]; simp [gapsTo]
theorem rd_sizesTo (l : List Int) (w n i : Nat) (h : i < n) : rd (sizesTo l w n) (i : Int) = ((wk l i w).length : Int) := by
  rw [rd_lt _ i (by rw [sizesTo_length]; exact h)]; simp [sizesTo]
theorem ev_GapsOf (l : List Int) (ho : okUses l = true) : Ev (fun k => impl_GapsOf.f k l) (gapsTo l l.length, true) := by
  obtain ⟨hm, hl⟩ := (okUses_iff l).1 ho
  unfold impl_GapsOf.f
  refine Ev.cbind (impl_ValidUses_f l) ?_
  rw [ho]
  refine Ev.ite_pos rfl (Ev.up (fun i k => impl_GapsOf.l0 k l (gapsTo l i) l (l.length : Int) (i : Int)) l.length _ ?_ ?_)
  · apply Ev.succ
    simp only [impl_GapsOf.l0]
    exact Ev.ite_neg (by omega) (Ev.now _)
  · intro i hi ih
    have hr := lu_range l (rd l (i : Int)) i
    have hgl := gapsTo_length l i
    rw [gapsTo_succ] at ih
    unfold gap at ih
    apply Ev.succ
    simp only [impl_GapsOf.l0]
    refine Ev.ite_pos (by omega) (Ev.ite_pos (by omega) (Ev.ite_pos (by omega) (Ev.ite_pos (by omega) ?_)))
    rw [Int.toNat_natCast]
    refine Ev.bind (ev_lastUse_take l _ i (by omega) (by omega)) ?_
    rw [wrap64_succ (by omega)]
    by_cases h0 : 0 ≤ lu l (rd l (i : Int)) i
    · rw [if_pos h0] at ih
      rw [wrap64_id (by omega) (by omega)]
      exact Ev.ite_pos (by omega) (Ev.ite_pos (by omega) ih)
    · rw [if_neg h0] at ih
      exact Ev.ite_neg (by omega) (Ev.ite_pos (by omega) ih)
theorem ev_WorkingSizes (l : List Int) (w : Nat) (ho : okUses l = true) (h1 : 1 ≤ w) (h2 : w ≤ 60) : Ev (fun k => impl_WorkingSizes.f k l (w : Int)) (sizesTo l w l.length, true) := by
  obtain ⟨hm, hl⟩ := (okUses_iff l).1 ho
  unfold impl_WorkingSizes.f
  refine Ev.cbind (impl_ValidUses_f l) ?_
  rw [ho]
  refine Ev.ite_pos rfl (Ev.cbind (a := true) ?_ (Ev.succ ?_))
  · unfold impl_inRange.f; rw [if_pos (by omega)]; simp; omega
  · simp only [impl_WorkingSizes.j0]
    refine Ev.ite_neg (by simp) (Ev.cbind (a := (l.length : Int)) rfl (Ev.up (fun i k => impl_WorkingSizes.l0 k l (w : Int) (sizesTo l w i) (l.length : Int) (i : Int)) l.length _ ?_ ?_))
    · apply Ev.succ
      simp only [impl_WorkingSizes.l0]
      exact Ev.ite_neg (by omega) (Ev.now _)
    · intro i hi ih
      have hgl := sizesTo_length l w i
      rw [sizesTo_succ] at ih
      apply Ev.succ
      simp only [impl_WorkingSizes.l0]
      refine Ev.ite_pos (by omega) (Ev.cbind (impl_workingSet_f l i w hi (by omega) (by omega)) (Ev.cbind (a := ((wk l i w).length : Int)) rfl (Ev.ite_pos (by omega) ?_)))
      rw [wrap64_succ (by omega)]
      exact ih
/-- What is kept holds a use's address exactly where its gap lies in the window. -/
theorem mem_kp (l : List Int) (w i : Nat) (hi : i < l.length) (h1 : 1 ≤ w) : rd l (i : Int) ∈ kp l w i ↔ ¬ (gap l i = 0 ∨ gap l i > (w : Int)) := by
  have hr := lu_range l (rd l (i : Int)) i
  have key : rd l (i : Int) ∈ kp l w i ↔ ∃ j : Nat, i - w ≤ j ∧ j < i ∧ rd l (j : Int) = rd l (i : Int) := by
    cases i with
    | zero => simp [kp]
    | succ i =>
      unfold kp wk
      rw [(setL_facts _).2, List.mem_iff_getElem]
      constructor
      · rintro ⟨n, hn, e⟩
        rw [List.length_drop, List.length_take] at hn
        refine ⟨i + 1 - w + n, by omega, by omega, ?_⟩
        rw [rd_lt l _ (by omega), ← e, List.getElem_drop, List.getElem_take]
      · rintro ⟨j, hj1, hj2, e⟩
        refine ⟨j - (i + 1 - w), by rw [List.length_drop, List.length_take]; omega, ?_⟩
        rw [← e, rd_lt l j (by omega), List.getElem_drop, List.getElem_take]
        congr 1; omega
  rw [key]
  unfold gap
  constructor
  · rintro ⟨j, hj1, hj2, e⟩
    have hlu : (j : Int) ≤ lu l (rd l (i : Int)) i := by
      rcases Int.lt_or_le (lu l (rd l (i : Int)) i) (j : Int) with h | h
      · exact absurd e (lu_after j h hj2)
      · exact h
    rw [if_pos (by omega)]
    omega
  · intro h
    by_cases h0 : 0 ≤ lu l (rd l (i : Int)) i
    · rw [if_pos h0] at h
      refine ⟨(lu l (rd l (i : Int)) i).toNat, by omega, by omega, ?_⟩
      rw [Int.toNat_of_nonneg h0]
      exact lu_hit h0
    · rw [if_neg h0] at h
      exact absurd (Or.inl rfl) h
theorem ev_r8Sum_sizes (l : List Int) (w : Nat) (hl : l.length ≤ 1000) : Ev (fun k => laws_r8Sum.f k (sizesTo l w l.length)) ((wsum l w l.length : Nat) : Int) := by
  unfold laws_r8Sum.f
  have hs := sizesTo_length l w l.length
  refine Ev.up (fun i k => laws_r8Sum.l0 k (sizesTo l w l.length) ((wsum l w i : Nat) : Int) (i : Int)) l.length _ ?_ ?_
  · apply Ev.succ
    simp only [laws_r8Sum.l0]
    exact Ev.ite_neg (by omega) (Ev.now _)
  · intro i hi ih
    have h2 := wsum_le l w i 1000 (by omega)
    have h3 := wk_length l i w
    apply Ev.succ
    simp only [laws_r8Sum.l0]
    refine Ev.ite_pos (by omega) (Ev.ite_pos (by omega) ?_)
    rw [rd_sizesTo l w l.length i hi, wrap64_succ (by omega)]
    have hs : wrap64 (((wsum l w i : Nat) : Int) + ((wk l i w).length : Int)) = ((wsum l w (i + 1) : Nat) : Int) := by rw [wrap64_id (by omega) (by omega)]; simp [wsum]
    rw [hs]
    exact ih
end Go.Proofs.Ytfiohpbinpbhcaa.Q
