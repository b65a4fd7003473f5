/- The plain law of FnBestIndex: what it computes answers true; no conditions. -/
import Derived.Test.YtdhkcnhmmiigoaaQx0
import Derived.Test.YtdhkcnhmmiigoaaHbestIndex
import Derived.Test.YtdhkcnhmmiigoaaHrankOf
import Derived.Test.YtdhkcnhmmiigoaaHreduced
import Derived.Test.YtdhkcnhmmiigoaaQx1
import Derived.Test.YtdhkcnhmmiigoaaQx3
import Derived.Test.YtdhkcnhmmiigoaaSupto
import Derived.Test.YtdhkcnhmmiigoaaSplaced
import Derived.Test.YtdhkcnhmmiigoaaSsetval
import Derived.Test.YtdhkcnhmmiigoaaSokrows
import Derived.Test.YtdhkcnhmmiigoaaSlead
import Derived.Test.YtdhkcnhmmiigoaaSlu
import Derived.Test.YtdhkcnhmmiigoaaSsetmissok
import Derived.Test.YtdhkcnhmmiigoaaSidxf
import Derived.Test.YtdhkcnhmmiigoaaSred
import Derived.Test.YtdhkcnhmmiigoaaSredmiss
import Derived.Test.YtdhkcnhmmiigoaaSsetl
import Derived.Test.YtdhkcnhmmiigoaaSspanl
import Derived.Test.YtdhkcnhmmiigoaaStriesame
import Derived.Test.YtdhkcnhmmiigoaaSbidw
namespace Go.Proofs.Ytdhkcnhmmiigoaa.Q
open Go.RowKit Go.Proofs.YtdhkcnhmmiigoaaW.PrintWords Go.Proofs.YtdhkcnhmmiigoaaW.PrintLast Go.Proofs.YtdhkcnhmmiigoaaW.PrintMore
attribute [local go_sem] max2_int min2_int max_two min_two max_three min_three max_four min_four   -- for this text's walks alone
set_option linter.unusedVariables false
set_option linter.unusedSimpArgs false

def laws_FnBestIndex.PureQ : Prop := ∀ (l0 : List Int) (l1 : List Int), l0.length ≤ 9223372036854775807 → (∀ y ∈ l0, (Lit.int .u8 y).wf = true) → l1.length ≤ 9223372036854775807 → (∀ y ∈ l1, (Lit.int .u8 y).wf = true) → ∃ k, laws_FnBestIndex.f k l0 l1 = some true
end Go.Proofs.Ytdhkcnhmmiigoaa.Q
namespace Go.Proofs.Ytdhkcnhmmiigoaa.Pure
open Go.RowKit Go.Proofs.Ytdhkcnhmmiigoaa.Q Go.Proofs.YtdhkcnhmmiigoaaW.PrintWords
theorem RankOf_val (R : List Int) (h : okRows R = true) : impl_RankOf.f R = some (((redN (R.map Int.toNat)).length : Int), true) := by
  unfold impl_RankOf.f
  rw [if_pos h]
theorem Reduced_val (R : List Int) (h : okRows R = true) : impl_ReducedIndex.f R = some (redL R, true) := by
  unfold impl_ReducedIndex.f impl_Index_reduced.f redL
  rw [impl_ValidIndex_f R, h]
  simp
theorem r8Same_own (l : List Int) (h : l.length ≤ 1000000000) : Ev (fun k => laws_r8Same.f k l l) true := by
  unfold laws_r8Same.f
  refine Ev.ite_pos rfl ?_
  refine Ev.up (fun i k => laws_r8Same.l0 k l l (i : Int)) l.length true ?_ ?_
  · apply Ev.succ
    simp only [laws_r8Same.l0]
    exact Ev.ite_neg (by omega) (Ev.now _)
  · intro i hi ih
    apply Ev.succ
    simp only [laws_r8Same.l0]
    refine Ev.ite_pos (by omega) (Ev.ite_pos (by omega) (Ev.ite_pos (by omega) (Ev.ite_pos (by simp) ?_)))
    rw [wrap64_succ (by omega)]
    exact ih
theorem bfold_least (f : List Nat → Int) (hf : ∀ x, 0 ≤ f x) : ∀ (L : List (List Nat)) (s : List Nat × Int), s.2 = f s.1 → (bfold f s L).2 = f (bfold f s L).1 ∧ (bfold f s L).2 ≤ s.2 ∧ ∀ y ∈ L, (bfold f s L).2 ≤ f y
  | [], s, h => ⟨h, Int.le_refl _, fun y hy => by cases hy⟩
  | x :: L, s, h => by
    have e0 : bfold f s (x :: L) = bfold f (bstep f s x) L := rfl
    have h0 := hf s.1
    have hb : (bstep f s x).2 = f (bstep f s x).1 ∧ (bstep f s x).2 ≤ s.2 ∧ (bstep f s x).2 ≤ f x := by
      unfold bstep
      by_cases hc : s.2 < 0 ∨ f x < s.2
      · rw [if_pos hc]; exact ⟨rfl, by show f x ≤ s.2; omega, Int.le_refl _⟩
      · rw [if_neg hc]; exact ⟨h, Int.le_refl _, by omega⟩
    obtain ⟨h1, h2, h3⟩ := bfold_least f hf L (bstep f s x) hb.1
    rw [e0]
    refine ⟨h1, by omega, fun y hy => ?_⟩
    rcases List.mem_cons.1 hy with rfl | hy
    · omega
    · exact h3 y hy
theorem bfold_start (f : List Nat → Int) (hf : ∀ x, 0 ≤ f x) (L : List (List Nat)) (hL : L ≠ []) : (bfold f ([], -1) L).1 ∈ L ∧ (bfold f ([], -1) L).2 = f (bfold f ([], -1) L).1 ∧ ∀ y ∈ L, (bfold f ([], -1) L).2 ≤ f y := by
  match L, hL with
  | x :: L, _ =>
    have e0 : bfold f ([], -1) (x :: L) = bfold f (x, f x) L := rfl
    rw [e0]
    obtain ⟨h1, h2, h3⟩ := bfold_least f hf L (x, f x) rfl
    refine ⟨?_, h1, fun y hy => ?_⟩
    · rcases bfold_mem f L (x, f x) with e | e
      · rw [e]; simp
      · exact List.mem_cons_of_mem _ e
    · rcases List.mem_cons.1 hy with rfl | hy
      · exact h2
      · exact h3 y hy
theorem nI_toNat (l : List Nat) : (nI l).map Int.toNat = l := by
  unfold nI
  rw [List.map_map]
  conv => rhs; rw [← List.map_id l]
  apply List.map_congr_left
  intro x _
  simp
theorem red_self (B : List Nat) (hB : GoodR B) (hl : B.length ≤ 3) : redL (nI B) = nI B := by
  have h64 : ∀ r ∈ B, r < 64 := fun r hr => (hB.1.1 r hr).2
  obtain ⟨M, m1, m2, m3, m4, m5, m6, m7⟩ := redL_facts (nI B) (by rw [nI_length]; exact hl) (nI_range h64)
  rw [nI_toNat] at m3
  have c1 := chk_of M m4 m5 m7
  have c2 := chk_of B hB.1 hB.2 hl
  unfold chk at c1 c2
  rw [Bool.and_eq_true, beq_iff_eq] at c1 c2
  have e : spL M = spL B := by
    unfold spL
    rw [putAll_eq, putAll_eq]
    apply setL_congr
    intro x
    rw [List.mem_map, List.mem_map]
    constructor
    · rintro ⟨n, hn, rfl⟩; exact ⟨n, (m3 n).1 hn, rfl⟩
    · rintro ⟨n, hn, rfl⟩; exact ⟨n, (m3 n).2 hn, rfl⟩
  rw [m1, ← c1.1, e, c2.1]; rfl
theorem FnBestIndex : laws_FnBestIndex.PureQ := by
  intro l0 l1 h0 b0 h1 b1
  have B0 := Bytes.of b0
  have B1 := Bytes.of b1
  refine Ev.rounds (g := fun k => laws_FnBestIndex.f k l0 l1) ?_
  unfold laws_FnBestIndex.f
  by_cases hlong : laws_r8Long.f l0 l1 = some true
  · exact Ev.cbind hlong (Ev.ite_pos rfl (Ev.now _))
  obtain ⟨hno, _, _⟩ := r8Long_no l0 l1 hlong
  obtain ⟨R, eR, hR⟩ := ev_R8Index l0 B0
  obtain ⟨U, eU, hU, hUl⟩ := ev_R8Near l1 B1
  obtain ⟨x, ex, hx⟩ := r8At_ok l1 B1 0 2 (by omega)
  obtain ⟨y, ey, hy⟩ := r8At_ok l1 B1 1 8 (by omega)
  obtain ⟨hr, hl⟩ := (okRows_iff R).1 hR
  obtain ⟨hUm, _⟩ := (okUses_iff U).1 hU
  have hw : wrap64 (1 + (x : Int)) = 1 + (x : Int) := wrap64_id (by omega) (by omega)
  have hrk := RankOf_val R hR
  have hrl := redN_len (R.map Int.toNat)
  rw [List.length_map] at hrl
  obtain ⟨M, m1, m2, m3, m4, m5, m6, m7⟩ := redL_facts R hl hr
  obtain ⟨p, hp⟩ : ∃ p, p = 1 + (x : Int) := ⟨_, rfl⟩
  refine Ev.cbind hno (Ev.ite_neg (by simp) (Ev.bind eR (Ev.bind eU (Ev.cbind ex (Ev.cbind hrk ?_)))))
  rw [hw, ← hp]
  refine Ev.ite_pos rfl (Ev.ite_neg (by show ¬ ((redN (R.map Int.toNat)).length : Int) < 0; omega) ?_)
  have hgo : Ev (fun k => laws_FnBestIndex.j1 k U p ((redN (R.map Int.toNat)).length : Int) false R) true := by
    rw [← m6]
    have hMm : M ∈ tryT M.length := good_mem M ⟨m4, m5⟩
    have hne : tryT M.length ≠ [] := fun e => by rw [e] at hMm; cases hMm
    have hfn : ∀ z, 0 ≤ misI p U z := fun z => by unfold misI; omega
    obtain ⟨q1, q2, q3⟩ := bfold_start (misI p U) hfn _ hne
    have hbi : impl_BestIndex.f (M.length : Int) p U = some (nI (bfold (misI p U) ([], -1) (tryT M.length)).1, (bfold (misI p U) ([], -1) (tryT M.length)).2, true) := by
      unfold impl_BestIndex.f
      have h1 : isIn 0 3 (M.length : Int) = true := by unfold isIn; simp; omega
      have h2 : isIn 1 4 p = true := by unfold isIn; simp; omega
      rw [h1, h2, hU, Int.toNat_natCast, rAll_tryT]; rfl
    have hMis := q3 M hMm
    obtain ⟨B, hB⟩ : ∃ B, B = bfold (misI p U) ([], -1) (tryT M.length) := ⟨_, rfl⟩
    rw [← hB] at q1 q2 hMis hbi
    obtain ⟨t1, t2, _⟩ := tryT_mem _ _ q1
    have hgB := tryT_good _ _ q1
    have hokB : okRows (nI B.1) = true := okRows_nI B.1 t2 (by omega)
    have hsB := impl_SetMisses_ok (nI B.1) p U hokB (by omega) hU
    have hsR := impl_SetMisses_ok R p U hR (by omega) hU
    have hrB := Reduced_val (nI B.1) hokB
    rw [red_self B.1 hgB (by omega)] at hrB
    have hmis : misI p U M = (misN R p U U.length : Int) := by
      have := red_misses R hl hr p U hUm U.length (Nat.le_refl _)
      unfold misI
      rw [show nI M = redL R from m1.symm, this]
    have hq2 : (misN (nI B.1) p U U.length : Int) = B.2 := q2.symm
    apply Ev.succ
    simp only [laws_FnBestIndex.j1]
    refine Ev.ite_neg (by simp) (Ev.cbind hbi (Ev.cbind hsB (Ev.cbind hsR (Ev.cbind hrB ?_))))
    refine Ev.ite_pos (by trivial) (Ev.ite_pos (by trivial) (Ev.ite_pos (by trivial) (Ev.ite_pos (by trivial) (Ev.ite_pos hq2 (Ev.ite_pos ?_ (Ev.ite_pos ?_ (Ev.bind (r8Same_own _ (by rw [nI_length]; omega)) (Ev.now _))))))))
    · show B.2 ≤ (misN R p U U.length : Int)
      omega
    · show ((nI B.1).length : Int) = (M.length : Int)
      rw [nI_length]; omega
  apply Ev.succ
  simp only [laws_FnBestIndex.j0]
  refine Ev.ite_neg (by simp; omega) ?_
  by_cases h2 : ((redN (R.map Int.toNat)).length : Int) > 2
  · refine Ev.ite_pos h2 (Ev.cbind ey ?_)
    by_cases h3 : (y : Int) > 0
    · rw [decide_eq_true h3]
      apply Ev.succ
      simp only [laws_FnBestIndex.j1]
      exact Ev.ite_pos (by trivial) (Ev.now _)
    · rw [decide_eq_false h3]
      exact hgo
  · exact Ev.ite_neg h2 hgo
end Go.Proofs.Ytdhkcnhmmiigoaa.Pure
