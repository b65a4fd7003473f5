/- Parts of the proof, laid together: contracts and lemmas; no conditions beyond those written. -/
import Derived.Test.YtdhkcnhmmiigoaaQx0
import Derived.Test.YtdhkcnhmmiigoaaQx2
import Derived.Test.YtdhkcnhmmiigoaaSokrows
import Derived.Test.YtdhkcnhmmiigoaaSascend
import Derived.Test.YtdhkcnhmmiigoaaHsetmisses
import Derived.Test.YtdhkcnhmmiigoaaQx3
import Derived.Test.YtdhkcnhmmiigoaaSdraw
import Derived.Test.YtdhkcnhmmiigoaaQx4
import Derived.Test.YtdhkcnhmmiigoaaSbase
import Derived.Test.YtdhkcnhmmiigoaaScrv
import Derived.Test.YtdhkcnhmmiigoaaSr8index
import Derived.Test.YtdhkcnhmmiigoaaSsetl
import Derived.Test.YtdhkcnhmmiigoaaSsortl
namespace Go.Proofs.Ytdhkcnhmmiigoaa.Q
open Go.RowKit Go.Proofs.YtdhkcnhmmiigoaaW.PrintWords Go.Proofs.YtdhkcnhmmiigoaaW.PrintLast Go.Proofs.YtdhkcnhmmiigoaaW.PrintMore
attribute [local go_sem] max2_int min2_int max_two min_two max_three min_three max_four min_four   -- for this text's walks alone
set_option linter.unusedVariables false
set_option linter.unusedSimpArgs false
section
theorem impl_isPlaced_f (l : List Int) (p : Int) (U : List Int) : impl_isPlaced.f l p U = some (okRows l && (isIn 1 4 p && okUses U)) := by
  unfold impl_isPlaced.f
  rw [impl_ValidIndex_f, impl_inRange_f, impl_ValidUses_f]
  cases okRows l <;> cases isIn 1 4 p <;> cases okUses U <;> rfl
end
section
theorem impl_SetMisses_ok (R : List Int) (p : Int) (U : List Int) (hr : okRows R = true) (hp : 1 ≤ p ∧ p ≤ 4) (hU : okUses U = true) : impl_SetMisses.f R p U = some ((misN R p U U.length : Int), true) := by
  unfold impl_SetMisses.f impl_Index_setMisses.f
  rw [impl_isPlaced_f]
  have : isIn 1 4 p = true := by simp [isIn]; omega
  simp [hr, hU, this]
end
section
theorem ev_impl_sum (d m : List Int) (hd : d.length = 64) (hm : ∀ x ∈ m, 0 ≤ x ∧ x ≤ 63) (hl : m.length ≤ 1000) : Ev (fun k => impl_PressureOf.l0 k 0 d m (m.length : Int) 0) (sumAt d m, true) := by
  refine Ev.up (fun i k => impl_PressureOf.l0 k (sumAt d (m.take i)) d m (m.length : Int) (i : Int)) m.length _ ?_ ?_
  · apply Ev.succ
    simp only [impl_PressureOf.l0]
    refine Ev.ite_neg (by omega) ?_
    rw [List.take_length]; exact Ev.now _
  · intro i hi ih
    have hx := hm _ (List.getElem_mem hi)
    rw [← rd_lt m i hi] at hx
    have hst : sumAt d (m.take (i + 1)) = wrap64 (sumAt d (m.take i) + rd d (rd m (i : Int))) := by unfold sumAt; rw [take_succ_rd m i hi, List.foldl_append]; rfl
    rw [hst] at ih
    apply Ev.succ
    simp only [impl_PressureOf.l0]
    refine Ev.ite_pos (by omega) (Ev.ite_pos (by omega) (Ev.ite_pos (by omega) (Ev.ite_pos (by omega) (Ev.ite_pos (by omega) ?_))))
    rw [wrap64_succ (by omega)]
    exact ih
theorem ev_PressureOf_ok (R U : List Int) (hr : okRows R = true) (hu : okUses U = true) : Ev (fun k => impl_PressureOf.f k R U) (sumAt (dif U U.length) (membersTo R 0 64), true) := by
  obtain ⟨hm, hml⟩ := (okUses_iff U).1 hu
  have hd := dif_length U U.length
  have hk : ∀ x ∈ membersTo R 0 64, 0 ≤ x ∧ x ≤ 63 := fun x hx => upto64_mem (List.mem_filter.1 hx).1
  have hkl := membersTo_length R 0 64
  unfold impl_PressureOf.f
  refine Ev.cbind (impl_ValidIndex_f R) ?_
  rw [hr]
  refine Ev.ite_pos rfl (Ev.cbind (impl_ValidUses_f U) (Ev.succ ?_))
  rw [hu]
  simp only [impl_PressureOf.j0]
  exact Ev.ite_neg (by simp) (Ev.bind (ev_impl_diffs U (by omega) hm) (Ev.cbind (kernel_f R hr) (ev_impl_sum _ _ hd hk (by omega))))
end
section
theorem between_take (U : List Int) (n i : Nat) (h : i < n) : between (U.take n) i = between U i := by
  unfold between
  rw [rd_take U n i h, lu_take U _ n i (Nat.le_of_lt h), List.take_take, Nat.min_eq_left (Nat.le_of_lt h)]
theorem missAt_take (R : List Int) (p : Int) (U : List Int) (n i : Nat) (h : i < n) : missAt R p (U.take n) i = missAt R p U i := by
  unfold missAt othersOf
  rw [rd_take U n i h, lu_take U _ n i (Nat.le_of_lt h), between_take U n i h]
theorem misN_take (R : List Int) (p : Int) (U : List Int) (n : Nat) : ∀ i : Nat, i ≤ n → misN R p (U.take n) i = misN R p U i
  | 0, _ => rfl
  | i + 1, h => by
    unfold misN
    rw [misN_take R p U n i (by omega), missAt_take R p U n i (by omega)]
/-- One use more gives no miss or one. -/
theorem misN_step (R : List Int) (p : Int) (U : List Int) (i : Nat) : misN R p U i ≤ misN R p U (i + 1) ∧ misN R p U (i + 1) ≤ misN R p U i + 1 := by
  show misN R p U i ≤ misN R p U i + _ ∧ misN R p U i + _ ≤ misN R p U i + 1
  split <;> omega
/-- The misses of words used before, up to use i. -/
def againN (R : List Int) (p : Int) (U : List Int) : Nat → Nat
  | 0 => 0
  | i + 1 => againN R p U i + if rd U (i : Int) ∈ U.take i ∧ missAt R p U i = true then 1 else 0
/-- The first uses of words, up to use i. -/
def coldN (U : List Int) : Nat → Nat
  | 0 => 0
  | i + 1 => coldN U i + if rd U (i : Int) ∈ U.take i then 0 else 1
theorem lu_of_mem (U : List Int) (a : Int) : ∀ i : Nat, i ≤ U.length → (0 ≤ lu U a i ↔ a ∈ U.take i)
  | 0, _ => by simp [lu]
  | i + 1, h => by
    have hlt : i < U.length := by omega
    have ih := lu_of_mem U a i (by omega)
    have hr : rd U (i : Int) = U[i] := by
      show U.getD i 0 = U[i]
      rw [List.getD_eq_getElem?_getD, List.getElem?_eq_getElem hlt]; rfl
    rw [List.take_succ_eq_append_getElem hlt, List.mem_append, List.mem_singleton]
    unfold lu
    by_cases e : rd U (i : Int) = a
    · rw [if_pos e]
      exact ⟨fun _ => Or.inr (by rw [← e, hr]), fun _ => by omega⟩
    · rw [if_neg e, ih]
      exact ⟨Or.inl, fun h => h.elim id (fun h => absurd (by rw [hr, h]) e)⟩
theorem miss_of_new (R : List Int) (p : Int) (U : List Int) (i : Nat) (h : i ≤ U.length) (hn : ¬ rd U (i : Int) ∈ U.take i) : missAt R p U i = true := by
  have e : ¬ 0 ≤ lu U (rd U (i : Int)) i := fun q => hn ((lu_of_mem U _ i h).mp q)
  unfold missAt
  simp [e]
/-- The misses are the first uses and the misses of words used before. -/
theorem misN_split (R : List Int) (p : Int) (U : List Int) : ∀ i : Nat, i ≤ U.length → misN R p U i = againN R p U i + coldN U i
  | 0, _ => rfl
  | i + 1, h => by
    have ih := misN_split R p U i (by omega)
    unfold misN againN coldN
    by_cases hm : rd U (i : Int) ∈ U.take i
    · by_cases hq : missAt R p U i = true
      · simp only [hm, hq, and_self, if_true]; omega
      · simp only [hm, hq, and_false, if_false, if_true]; simp; omega
    · have hq := miss_of_new R p U i (by omega) hm
      simp only [hm, hq, false_and, if_true, if_false]; omega
theorem setL_nodup (L : List Int) : (setL L).Nodup := (setL_facts L).1.imp (fun h => by omega)
theorem setL_length_new (L : List Int) (a : Int) (hn : ¬ a ∈ L) : (setL (L ++ [a])).length = (setL L).length + 1 := by
  have hp : (setL (L ++ [a])).Perm (a :: setL L) := by
    refine (List.perm_ext_iff_of_nodup (setL_nodup _) (List.nodup_cons.mpr ⟨fun q => hn (((setL_facts L).2 a).mp q), setL_nodup L⟩)).mpr ?_
    intro x
    rw [(setL_facts _).2 x, List.mem_append, List.mem_singleton, List.mem_cons, (setL_facts L).2 x]
    exact Or.comm
  rw [hp.length_eq, List.length_cons]
theorem setL_length_old (L : List Int) (a : Int) (h : a ∈ L) : (setL (L ++ [a])).length = (setL L).length := by
  rw [setL_eq (s := setL L) (setL_facts L).1 (fun x => by rw [(setL_facts L).2 x, List.mem_append, List.mem_singleton]; exact ⟨Or.inl, fun q => q.elim id (fun e => e ▸ h)⟩)]
theorem coldN_set (U : List Int) : ∀ i : Nat, i ≤ U.length → coldN U i = (setL (U.take i)).length
  | 0, _ => by simp [coldN]; exact (setL_eq (l := []) (s := []) (by trivial) (by simp)).symm ▸ rfl
  | i + 1, h => by
    have hlt : i < U.length := by omega
    have hr : rd U (i : Int) = U[i] := by
      show U.getD i 0 = U[i]
      rw [List.getD_eq_getElem?_getD, List.getElem?_eq_getElem hlt]; rfl
    rw [List.take_succ_eq_append_getElem hlt, ← hr]
    unfold coldN
    rw [coldN_set U i (by omega)]
    by_cases hm : rd U (i : Int) ∈ U.take i
    · rw [if_pos hm, setL_length_old _ _ hm, Nat.add_zero]
    · rw [if_neg hm, setL_length_new _ _ hm]
end
end Go.Proofs.Ytdhkcnhmmiigoaa.Q
