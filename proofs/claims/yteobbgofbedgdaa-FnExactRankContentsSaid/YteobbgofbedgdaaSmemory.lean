/- The memory with ranks: both sides' are the same; no conditions beyond those written. -/
import Derived.Test.YteobbgofbedgdaaQx0
import Derived.Test.YteobbgofbedgdaaHrankcontents
import Derived.Test.YteobbgofbedgdaaHsetOf
import Derived.Test.YteobbgofbedgdaaQx1
import Derived.Test.YteobbgofbedgdaaSbase
import Derived.Test.YteobbgofbedgdaaShas
import Derived.Test.YteobbgofbedgdaaSmaxfunc
import Derived.Test.YteobbgofbedgdaaSsetl
namespace Go.Proofs.Yteobbgofbedgdaa.Q
open Go.RowKit Go.Proofs.YteobbgofbedgdaaW.PrintWords Go.Proofs.YteobbgofbedgdaaW.PrintLast Go.Proofs.YteobbgofbedgdaaW.PrintMore
attribute [local go_sem] max2_int min2_int max_two min_two max_three min_three max_four min_four   -- for this text's walks alone
set_option linter.unusedVariables false
set_option linter.unusedSimpArgs false

def wst (R S : List Int) : Nat → Nat
  | 0 => 0
  | t + 1 => if rd R (rd S ((t + 1 : Nat) : Int)) > rd R (rd S (wst R S t : Int)) then t + 1 else wst R S t
theorem wst_le (R S : List Int) (t : Nat) : wst R S t ≤ t := by
  induction t with
  | zero => simp [wst]
  | succ t ih => unfold wst; split <;> omega
def In64R (R : List Int) : Prop := ∀ x ∈ R, 0 ≤ x ∧ x ≤ 63
theorem wst_max (R S : List Int) (hR : R.length = 64) (hr : In64R R) (hS : ∀ x ∈ S, 0 ≤ x ∧ x ≤ 63) (t : Nat) (ht : t < S.length) : rd S (wst R S t : Int) = maxTo (rcmp R) S t := by
  induction t with
  | zero => rfl
  | succ t ih =>
    have h1 := ih (by omega)
    have hw := wst_le R S t
    have atR : ∀ j : Nat, j < S.length → 0 ≤ rd R (rd S (j : Int)) ∧ rd R (rd S (j : Int)) ≤ 63 := by
      intro j hj
      have h2 := hS _ (List.getElem_mem hj)
      rw [← rd_lt S j hj] at h2
      have h3 := rd_lt R (rd S (j : Int)).toNat (by omega)
      rw [Int.toNat_of_nonneg h2.1] at h3
      rw [h3]
      exact hr _ (List.getElem_mem _)
    have a1 := atR (t + 1) ht
    have a2 := atR (wst R S t) (by omega)
    have hc : rcmp R (rd S ((t + 1 : Nat) : Int)) (maxTo (rcmp R) S t) = rd R (rd S ((t + 1 : Nat) : Int)) - rd R (rd S (wst R S t : Int)) := by
      rw [← h1]
      show wrap64 (rd R (rd S ((t + 1 : Nat) : Int)) - rd R (rd S (wst R S t : Int))) = _
      exact wrap64_id (by omega) (by omega)
    unfold wst maxTo
    rw [hc]
    by_cases h : rd R (rd S ((t + 1 : Nat) : Int)) > rd R (rd S (wst R S t : Int))
    · rw [if_pos h, if_pos (by omega)]
    · rw [if_neg h, if_neg (by omega)]; exact h1
theorem filter_one (S : List Int) (hd : S.Nodup) (i : Nat) (hi : i < S.length) : (S.filter fun x => !decide (x = S[i])) = S.take i ++ S.drop (i + 1) := by
  have e : S = S.take i ++ S[i] :: S.drop (i + 1) := by rw [← List.drop_eq_getElem_cons hi, List.take_append_drop]
  obtain ⟨a, ha⟩ : ∃ a, a = S[i] := ⟨_, rfl⟩
  rw [← ha] at e ⊢
  rw [e] at hd
  rw [List.nodup_append] at hd
  obtain ⟨h1, h2, h3⟩ := hd
  rw [List.nodup_cons] at h2
  have g1 : (S.take i).filter (fun x => !decide (x = a)) = S.take i := List.filter_eq_self.2 (fun x hx => by have := h3 x hx a (by simp); simp [this])
  have g2 : (S.drop (i + 1)).filter (fun x => !decide (x = a)) = S.drop (i + 1) := List.filter_eq_self.2 (fun x hx => by have : x ≠ a := fun e2 => h2.1 (e2 ▸ hx); simp [this])
  conv => lhs; rw [e]
  rw [List.filter_append, List.filter_cons, g1, g2]
  simp
theorem evict_eq (R S : List Int) (hR : R.length = 64) (hr : In64R R) (hS : ∀ x ∈ S, 0 ≤ x ∧ x ≤ 63) (hd : S.Nodup) (h0 : 0 < S.length) : evict R S = S.take (wst R S (S.length - 1)) ++ S.drop (wst R S (S.length - 1) + 1) := by
  have hw := wst_le R S (S.length - 1)
  have hm := wst_max R S hR hr hS (S.length - 1) (by omega)
  rw [rd_lt S _ (by omega)] at hm
  unfold evict maxBy
  rw [← hm]
  exact filter_one S hd _ (by omega)
theorem memTo_nodup (R U : List Int) (n : Int) (i : Nat) : (memTo R U n i).Nodup := by
  induction i with
  | zero => simp [memTo]
  | succ i ih =>
    show (memStep R n (memTo R U n i) (rd U (i : Int))).Nodup
    unfold memStep
    split
    · exact ih
    · rename_i h
      rw [List.nodup_append]
      refine ⟨?_, by simp, ?_⟩
      · split
        · exact ih.filter _
        · exact ih
      · intro x hx y hy
        rw [List.mem_singleton.1 hy]
        rintro rfl
        apply h
        split at hx
        · exact (List.mem_filter.1 hx).1
        · exact hx
theorem ev_mem_l1 (R U S : List Int) (n miss : Int) (j : Nat) (hj : j < U.length) (hU : U.length ≤ 1000) (hR : R.length = 64) (hr : In64R R) (hS : ∀ x ∈ S, 0 ≤ x ∧ x ≤ 63) (hl : S.length ≤ 1000) (h0 : 0 < S.length) (hd : S.Nodup) (r : List Int × Int)
    (h : Ev (fun k => spec_l04Memory.l0 k R U n (evict R S ++ [rd U (j : Int)]) miss ((j + 1 : Nat) : Int)) r) : Ev (fun k => spec_l04Memory.l1 k R U n S miss (j : Int) 0 1) r := by
  refine Ev.up (fun t k => spec_l04Memory.l1 k R U n S miss (j : Int) (wst R S t : Int) ((t + 1 : Nat) : Int)) (S.length - 1) _ ?_ ?_
  · have hw := wst_le R S (S.length - 1)
    rw [evict_eq R S hR hr hS hd h0] at h
    obtain ⟨q, hq⟩ : ∃ q, q = wst R S (S.length - 1) := ⟨_, rfl⟩
    rw [← hq] at h hw ⊢
    apply Ev.succ
    simp only [spec_l04Memory.l1]
    refine Ev.ite_neg (by omega) (Ev.ite_pos (by omega) (Ev.ite_pos (by omega) (Ev.cbind (a := S.take q) ?_ ?_)))
    · unfold spec_l00Own.f
      rw [Int.toNat_natCast, Option.bind_some, if_pos (by rw [List.length_take]; simp; omega)]; simp
    · rw [wrap64_succ (by omega), wrap64_succ (by omega), Int.toNat_natCast]
      have hlen : (S.take q ++ S.drop (q + 1)).length ≤ 2000 := by rw [List.length_append, List.length_take, List.length_drop]; omega
      refine Ev.ite_pos (by omega) (Ev.ite_pos (by omega) (Ev.cbind rfl (Ev.ite_pos (by rw [← List.length_append]; omega) (Ev.cbind rfl (Ev.ite_pos (by omega) (Ev.ite_pos (by omega) (Ev.ite_pos (by omega) h)))))))
  · intro t ht ih
    have hw := wst_le R S t
    have a1 := hS _ (List.getElem_mem (l := S) (n := t + 1) (by omega))
    have a2 := hS _ (List.getElem_mem (l := S) (n := wst R S t) (by omega))
    rw [← rd_lt S (t + 1) (by omega)] at a1
    rw [← rd_lt S (wst R S t) (by omega)] at a2
    unfold wst at ih
    apply Ev.succ
    simp only [spec_l04Memory.l1]
    refine Ev.ite_pos (by omega) (Ev.ite_pos (by omega) (Ev.ite_pos (by omega) (Ev.ite_pos (by omega) (Ev.ite_pos (by omega) (Ev.ite_pos (by omega) (Ev.ite_pos (by omega) (Ev.ite_pos (by omega) ?_)))))))
    rw [wrap64_succ (by omega)]
    by_cases hc : rd R (rd S ((t + 1 : Nat) : Int)) > rd R (rd S (wst R S t : Int))
    · rw [if_pos hc] at ih; exact Ev.ite_pos hc ih
    · rw [if_neg hc] at ih; exact Ev.ite_neg hc ih
theorem ev_l04Memory (R U : List Int) (n : Int) (hn : 1 ≤ n) (hU : ∀ x ∈ U, 0 ≤ x ∧ x ≤ 63) (hl : U.length ≤ 1000) (hR : R.length = 64) (hr : In64R R) : ∃ m, Ev (fun k => spec_l04Memory.f k R U n) (setL (memTo R U n U.length), m) := by
  unfold spec_l04Memory.f
  have key : ∀ d i : Nat, i + d = U.length → ∀ miss : Int, ∃ m, Ev (fun k => spec_l04Memory.l0 k R U n (memTo R U n i) miss (i : Int)) (setL (memTo R U n U.length), m) := by
    intro d
    induction d with
    | zero =>
      intro i hi miss
      have hi2 : i = U.length := by omega
      have hm := (memTo_in R U n hU U.length (Nat.le_refl _)).2
      refine ⟨miss, Ev.succ ?_⟩
      simp only [spec_l04Memory.l0]
      rw [hi2]
      exact Ev.ite_neg (by omega) (Ev.bind (ev_l02Set _ (by omega)) (Ev.now _))
    | succ d ih =>
      intro i hi miss
      have hm := memTo_in R U n hU i (by omega)
      have hnd := memTo_nodup R U n i
      have hst : memTo R U n (i + 1) = memStep R n (memTo R U n i) (rd U (i : Int)) := rfl
      by_cases hin : rd U (i : Int) ∈ memTo R U n i
      · obtain ⟨m, e⟩ := ih (i + 1) (by omega) miss
        refine ⟨m, Ev.succ ?_⟩
        simp only [spec_l04Memory.l0]
        refine Ev.ite_pos (by omega) (Ev.ite_pos (by omega) (Ev.bind (ev_l00Has _ _ (by omega)) (Ev.ite_pos (decide_eq_true hin) ?_)))
        rw [wrap64_succ (by omega)]
        rw [hst] at e; unfold memStep at e; rw [if_pos hin] at e
        exact e
      · obtain ⟨m, e⟩ := ih (i + 1) (by omega) (wrap64 (miss + 1))
        rw [hst] at e; unfold memStep at e; rw [if_neg hin] at e
        refine ⟨m, Ev.succ ?_⟩
        simp only [spec_l04Memory.l0]
        refine Ev.ite_pos (by omega) (Ev.ite_pos (by omega) (Ev.bind (ev_l00Has _ _ (by omega)) (Ev.ite_neg (by simpa using hin) ?_)))
        by_cases hf : ((memTo R U n i).length : Int) = n
        · rw [if_pos hf] at e
          exact Ev.ite_pos hf (ev_mem_l1 R U _ n _ i (by omega) hl hR hr hm.1 (by omega) (by omega) hnd _ e)
        · rw [if_neg hf] at e
          refine Ev.ite_neg hf (Ev.ite_pos (by omega) ?_)
          rw [wrap64_succ (by omega)]
          exact e
  exact key U.length 0 (by omega) 0
end Go.Proofs.Yteobbgofbedgdaa.Q
