/- The best index by the reference; no conditions beyond those written. -/
import Derived.Test.YtdhkcnhmmiigoaaQx0
import Derived.Test.YtdhkcnhmmiigoaaQx2
import Derived.Test.YtdhkcnhmmiigoaaQx3
import Derived.Test.YtdhkcnhmmiigoaaSxor
import Derived.Test.YtdhkcnhmmiigoaaSbidw
import Derived.Test.YtdhkcnhmmiigoaaSfast
import Derived.Test.YtdhkcnhmmiigoaaSvalidindex
import Derived.Test.YtdhkcnhmmiigoaaSaddr
import Derived.Test.YtdhkcnhmmiigoaaSlead
import Derived.Test.YtdhkcnhmmiigoaaSlu
import Derived.Test.YtdhkcnhmmiigoaaStries
import Derived.Test.YtdhkcnhmmiigoaaStriesame
namespace Go.Proofs.Ytdhkcnhmmiigoaa.Q
open Go.RowKit Go.Proofs.YtdhkcnhmmiigoaaW.PrintWords Go.Proofs.YtdhkcnhmmiigoaaW.PrintLast Go.Proofs.YtdhkcnhmmiigoaaW.PrintMore
attribute [local go_sem] max2_int min2_int max_two min_two max_three min_three max_four min_four   -- for this text's walks alone
set_option linter.unusedVariables false
set_option linter.unusedSimpArgs false

theorem bfold_mem (f : List Nat → Int) : ∀ (L : List (List Nat)) (s : List Nat × Int), (bfold f s L).1 = s.1 ∨ (bfold f s L).1 ∈ L
  | [], _ => .inl rfl
  | x :: L, s => by
    have e0 : bfold f s (x :: L) = bfold f (bstep f s x) L := rfl
    rw [e0]
    rcases bfold_mem f L (bstep f s x) with h | h
    · rw [h]
      unfold bstep
      split
      · exact .inr (by simp)
      · exact .inl rfl
    · exact .inr (List.mem_cons_of_mem _ h)
def bestRes (a0 a1 : Int) (U : List Int) : List Int × Int × Bool := if (isIn 0 3 a0 && (isIn 1 4 a1 && okUses U)) = true then (nI (bfold (misI a1 U) ([], -1) (rAll a0.toNat [])).1, (bfold (misI a1 U) ([], -1) (rAll a0.toNat [])).2, true) else ([], 0, false)
def setsTo (R : List Int) (n : Nat) : List Int := (List.range n).map fun j : Nat => setVal R (j : Int)
theorem setsTo_succ (R : List Int) (n : Nat) : setsTo R (n + 1) = setsTo R n ++ [setVal R (n : Int)] := by unfold setsTo; rw [List.range_succ, List.map_append]; rfl
theorem setsTo_rd (R : List Int) (x : Int) (h0 : 0 ≤ x) (h1 : x ≤ 63) : rd (setsTo R 64) x = setVal R x := by
  obtain ⟨k, rfl⟩ : ∃ k : Nat, x = (k : Int) := ⟨x.toNat, by omega⟩
  rw [rd_lt _ k (by unfold setsTo; simp; omega)]
  unfold setsTo
  rw [List.getElem_map, List.getElem_range]
section
variable (p : Int) (U : List Int) (hl : U.length ≤ 60) (hU : ∀ x ∈ U, 0 ≤ x ∧ x ≤ 63)
include hl hU
theorem ev_best_l1 (T : List (List Int)) (best : List Int) (least : Int) (i : Nat) (hi : i < T.length) (hTl : T.length ≤ 1000000) (R : List Int) (hT : rd_L1 T (i : Int) = R) (hr : R.length ≤ 3) (hR : ∀ x ∈ R, 0 ≤ x ∧ x ≤ 63) (r : List Int × Int × Bool)
    (h : Ev (fun k => spec_BestIndex.l0 k p U T (if least < 0 ∨ (misN R p U U.length : Int) < least then R else best) (if least < 0 ∨ (misN R p U U.length : Int) < least then (misN R p U U.length : Int) else least) ((i + 1 : Nat) : Int)) r) : Ev (fun k => spec_BestIndex.l1 k p U T best least (i : Int) [] 0) r := by
  have key := Ev.up (fun n k => spec_BestIndex.l1 k p U T best least (i : Int) (setsTo R n) (n : Int)) 64 r ?_ ?_
  · exact key
  · have hsl : (setsTo R 64).length = 64 := by unfold setsTo; simp
    apply Ev.succ
    simp only [spec_BestIndex.l1]
    refine Ev.ite_neg (by omega) (Ev.bind (ev_l06Fast (setsTo R 64) R p U hsl (setsTo_rd R) hl hU) ?_)
    rw [hT, wrap64_succ (by omega)]
    by_cases h1 : least < 0
    · rw [if_pos (.inl h1), if_pos (.inl h1)] at h
      exact Ev.ite_pos h1 (Ev.ite_pos (by omega) (Ev.ite_pos (by omega) h))
    · by_cases h2 : (misN R p U U.length : Int) < least
      · rw [if_pos (.inr h2), if_pos (.inr h2)] at h
        exact Ev.ite_neg h1 (Ev.ite_pos h2 (Ev.ite_pos (by omega) (Ev.ite_pos (by omega) h)))
      · rw [if_neg (by rintro (h3 | h3) <;> contradiction), if_neg (by rintro (h3 | h3) <;> contradiction)] at h
        exact Ev.ite_neg h1 (Ev.ite_neg h2 h)
  · intro n hn ih
    have hsl : (setsTo R n).length = n := by unfold setsTo; simp
    rw [setsTo_succ] at ih
    apply Ev.succ
    simp only [spec_BestIndex.l1]
    rw [hT, wrap64_succ (by omega)]
    exact Ev.ite_pos (by omega) (Ev.ite_pos (by omega) (Ev.ite_pos (by omega) (Ev.bind (ev_l06Set R (n : Int) hr hR (by omega) (by omega)) (Ev.ite_pos (by omega) ih))))
end
theorem nI_range {x : List Nat} (h : ∀ r ∈ x, r < 64) : ∀ y ∈ nI x, 0 ≤ y ∧ y ≤ 63 := by
  intro y hy
  unfold nI at hy
  obtain ⟨r, hr, rfl⟩ := List.mem_map.1 hy
  have := h r hr
  omega
theorem bfold_succ (f : List Nat → Int) (s : List Nat × Int) (L : List (List Nat)) (i : Nat) (h : i < L.length) : bfold f s (L.take (i + 1)) = bstep f (bfold f s (L.take i)) L[i] := by
  rw [List.take_succ_eq_append_getElem h, bfold_append]; rfl
theorem ev_spec_BestIndex (a0 a1 : Int) (U : List Int) (h : U.length ≤ 1048576) : Ev (fun k => spec_BestIndex.f k a0 a1 U) (bestRes a0 a1 U) := by
  unfold spec_BestIndex.f bestRes
  refine Ev.cbind (spec_l00In_f a0 0 3) ?_
  have hbad : Ev (fun k => spec_BestIndex.j0 k a0 a1 U true) (([] : List Int), (0 : Int), false) := by
    apply Ev.succ
    simp only [spec_BestIndex.j0]
    exact Ev.ite_pos (by trivial) (Ev.now _)
  cases h0 : isIn 0 3 a0 with
  | false => exact Ev.ite_neg (by simp) (Ev.eq hbad (by simp))
  | true =>
    refine Ev.ite_pos rfl (Ev.cbind (spec_l06Places_f a1) ?_)
    cases h1 : isIn 1 4 a1 with
    | false => exact Ev.ite_neg (by simp) (Ev.eq hbad (by simp))
    | true =>
      refine Ev.ite_pos rfl (Ev.bind (ev_l02Uses U (by omega)) ?_)
      cases h2 : okUses U with
      | false => exact Ev.eq hbad (by simp)
      | true =>
        obtain ⟨hU, hl⟩ := (okUses_iff U).1 h2
        have hb : 0 ≤ a0 ∧ a0 ≤ 3 := by simpa [isIn] using h0
        obtain ⟨b, rfl⟩ : ∃ b : Nat, a0 = (b : Int) := ⟨a0.toNat, by omega⟩
        rw [Int.toNat_natCast, rAll_tryT]
        have hts := tryT_small (k := b) (by omega)
        have hml : ((tryT b).map nI).length = (tryT b).length := List.length_map _
        rw [if_pos (show (true && (true && true)) = true from rfl)]
        apply Ev.succ
        simp only [spec_BestIndex.j0]
        refine Ev.ite_neg (by simp) (Ev.bind (ev_l06Tries b (by omega)) ?_)
        refine Ev.up (fun i k => spec_BestIndex.l0 k a1 U ((tryT b).map nI) (nI (bfold (misI a1 U) ([], -1) ((tryT b).take i)).1) (bfold (misI a1 U) ([], -1) ((tryT b).take i)).2 (i : Int)) (tryT b).length _ ?_ ?_
        · rw [List.take_length]
          have hbl : (nI (bfold (misI a1 U) ([], -1) (tryT b)).1).length ≤ 3 := by
            rw [nI_length]
            rcases bfold_mem (misI a1 U) (tryT b) ([], -1) with e | e
            · rw [e]; simp
            · have := (tryT_mem b _ e).1; omega
          apply Ev.succ
          simp only [spec_BestIndex.l0]
          refine Ev.ite_neg (by omega) (Ev.cbind ?_ (Ev.now _))
          unfold spec_l00Own.f
          simp; omega
        · intro i hi ih
          obtain ⟨g1, g2, _⟩ := tryT_mem b _ (List.getElem_mem hi)
          rw [bfold_succ _ _ _ i hi] at ih
          apply Ev.succ
          simp only [spec_BestIndex.l0]
          refine Ev.ite_pos (by omega) (ev_best_l1 a1 U hl hU _ _ _ i (by omega) (by omega) (nI (tryT b)[i]) ?_ (by rw [nI_length]; omega) (nI_range g2) _ ?_)
          · show ((tryT b).map nI).getD i [] = _
            rw [List.getD_eq_getElem?_getD, List.getElem?_map, List.getElem?_eq_getElem hi]; rfl
          · obtain ⟨s, hs⟩ : ∃ s, s = bfold (misI a1 U) ([], -1) ((tryT b).take i) := ⟨_, rfl⟩
            rw [← hs] at ih ⊢
            unfold bstep misI at ih
            unfold misI
            by_cases hc : s.2 < 0 ∨ (misN (nI (tryT b)[i]) a1 U U.length : Int) < s.2
            · rw [if_pos hc] at ih; rw [if_pos hc, if_pos hc]; exact ih
            · rw [if_neg hc] at ih; rw [if_neg hc, if_neg hc]; exact ih
end Go.Proofs.Ytdhkcnhmmiigoaa.Q
