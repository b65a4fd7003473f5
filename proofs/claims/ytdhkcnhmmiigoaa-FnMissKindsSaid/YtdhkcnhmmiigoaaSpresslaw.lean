/- Pressure against misses, and misses against the curve; no conditions beyond those written. -/
import Derived.Test.YtdhkcnhmmiigoaaQx0
import Derived.Test.YtdhkcnhmmiigoaaSamong
import Derived.Test.YtdhkcnhmmiigoaaSascend
import Derived.Test.YtdhkcnhmmiigoaaSbase
import Derived.Test.YtdhkcnhmmiigoaaScrv
import Derived.Test.YtdhkcnhmmiigoaaSdists
import Derived.Test.YtdhkcnhmmiigoaaSplaced
import Derived.Test.YtdhkcnhmmiigoaaSdraw
import Derived.Test.YtdhkcnhmmiigoaaSr8index
import Derived.Test.YtdhkcnhmmiigoaaSsetl
import Derived.Test.YtdhkcnhmmiigoaaSsortl
namespace Go.Proofs.Ytdhkcnhmmiigoaa.Q
open Go.RowKit Go.Proofs.YtdhkcnhmmiigoaaW.PrintWords Go.Proofs.YtdhkcnhmmiigoaaW.PrintLast Go.Proofs.YtdhkcnhmmiigoaaW.PrintMore
attribute [local go_sem] max2_int min2_int max_two min_two max_three min_three max_four min_four   -- for this text's walks alone
set_option linter.unusedVariables false
set_option linter.unusedSimpArgs false

/-- The sum of the numbers at some places. -/
def tot (d : List Int) : List Int → Int
  | [] => 0
  | x :: K => rd d x + tot d K
theorem rd_set (d : List Int) (n : Nat) (v x : Int) (hn : n < d.length) (hx : 0 ≤ x) : rd (d.set n v) x = if x = (n : Int) then v else rd d x := by
  obtain ⟨m, rfl⟩ : ∃ m : Nat, x = (m : Int) := ⟨x.toNat, by omega⟩
  show (d.set n v).getD m 0 = if (m : Int) = (n : Int) then v else d.getD m 0
  rw [List.getD_eq_getElem?_getD, List.getD_eq_getElem?_getD, List.getElem?_set]
  by_cases e : n = m
  · subst e; simp [hn]
  · have : ¬ (m : Int) = (n : Int) := by omega
    simp [e, this]
theorem tot_set (d : List Int) (n : Nat) (v : Int) (hn : n < d.length) : ∀ K : List Int, K.Nodup → (∀ x ∈ K, 0 ≤ x) → tot (d.set n v) K = tot d K + if (n : Int) ∈ K then v - rd d (n : Int) else 0
  | [], _, _ => by simp [tot]
  | x :: K, hd, h0 => by
    obtain ⟨hx, hK⟩ := List.nodup_cons.1 hd
    have ih := tot_set d n v hn K hK (fun y hy => h0 y (List.mem_cons_of_mem _ hy))
    unfold tot
    rw [ih, rd_set d n v x hn (h0 x List.mem_cons_self)]
    by_cases e : x = (n : Int)
    · subst e
      rw [if_pos rfl, if_neg hx, if_pos List.mem_cons_self]; omega
    · rw [if_neg e]
      by_cases hm : (n : Int) ∈ K
      · rw [if_pos hm, if_pos (List.mem_cons_of_mem _ hm)]; omega
      · rw [if_neg hm, if_neg (fun h => (List.mem_cons.1 h).elim (fun q => e q.symm) hm)]; omega
theorem sumAt_tot (d : List Int) (B : Int) (hb : ∀ x, 0 ≤ rd d x ∧ rd d x ≤ B) : ∀ (K : List Int) (s : Int), 0 ≤ s → s + B * (K.length : Int) ≤ 4611686018427387904 → K.foldl (fun s x => wrap64 (s + rd d x)) s = s + tot d K ∧ 0 ≤ tot d K
  | [], s, _, _ => by simp [tot]
  | x :: K, s, h0, h => by
    have hx := hb x
    have hmul : B * ((x :: K).length : Int) = B * (K.length : Int) + B := by rw [List.length_cons, Int.natCast_add, Int.mul_add]; simp
    rw [hmul] at h
    have hB : 0 ≤ B * (K.length : Int) := Int.mul_nonneg (by omega) (by omega)
    have ih := sumAt_tot d B hb K (s + rd d x) (by omega) (by omega)
    rw [List.foldl_cons, wrap64_id (by omega) (by omega), ih.1]
    show s + rd d x + tot d K = s + (rd d x + tot d K) ∧ 0 ≤ rd d x + tot d K
    omega
def inK (R : List Int) (x : Int) : Prop := 0 ≤ x ∧ x ≤ 63 ∧ setVal R x = setVal R 0
theorem kernel_mem (R : List Int) (x : Int) : x ∈ membersTo R 0 64 ↔ 0 ≤ x ∧ x ≤ 63 ∧ setVal R x = setVal R 0 := by
  unfold membersTo
  rw [List.mem_filter, decide_eq_true_iff]
  constructor
  · rintro ⟨h1, h2⟩
    exact ⟨(upto64_mem h1).1, (upto64_mem h1).2, h2⟩
  · rintro ⟨h0, h1, h2⟩
    refine ⟨?_, h2⟩
    unfold upto
    exact List.mem_map.2 ⟨x.toNat, List.mem_range.2 (by omega), by omega⟩
theorem kernel_nodup (R : List Int) : (membersTo R 0 64).Nodup := by
  unfold membersTo
  refine List.Nodup.sublist List.filter_sublist ?_
  unfold upto List.Nodup
  rw [List.pairwise_map]
  exact List.nodup_range.imp (fun h => by omega)
section
variable (R : List Int) (hr : R.length ≤ 3) (hR : ∀ x ∈ R, 0 ≤ x ∧ x ≤ 63)
include hr hR
theorem tot_step (a b : Int) (d : List Int) (N : Int) (ha : 0 ≤ a ∧ a ≤ 63) (hb : 0 ≤ b ∧ b ≤ 63) (hd : d.length = 64) (hN : ∀ x, 0 ≤ rd d x ∧ rd d x ≤ N) (hN2 : N ≤ 1000000) :
    tot (dstep a d b) (membersTo R 0 64) = tot d (membersTo R 0 64) + (if setVal R a = setVal R b then 1 else 0) ∧ (dstep a d b).length = 64 ∧ ∀ x, 0 ≤ rd (dstep a d b) x ∧ rd (dstep a d b) x ≤ N + 1 := by
  have hx := xor_xo ha hb
  have hn : ((xo a b).toNat : Int) = xo a b := by omega
  have hv := hN (xo a b)
  have hw : wrap64 (rd d (xo a b) + 1) = rd d (xo a b) + 1 := wrap64_id (by omega) (by omega)
  have hset := set_same R a b hr hR ha hb
  have h0 := setVal_zero R hr hR
  refine ⟨?_, by rw [dstep_length, hd], ?_⟩
  · unfold dstep
    rw [tot_set d _ _ (by omega) _ (kernel_nodup R) (fun x hx => ((kernel_mem R x).1 hx).1), hn, hw]
    by_cases e : setVal R a = setVal R b
    · rw [if_pos e, if_pos ((kernel_mem R _).2 ⟨hx.2.1, hx.2.2, by rw [h0]; exact hset.2 e⟩)]; omega
    · rw [if_neg e, if_neg (fun h => e (hset.1 (by rw [((kernel_mem R _).1 h).2.2, h0])))]
  · intro x
    unfold dstep
    by_cases hxn : 0 ≤ x
    · rw [rd_set d _ _ x (by omega) hxn, hw]
      have := hN x
      split <;> omega
    · have e : rd (d.set (xo a b).toNat (wrap64 (rd d (xo a b) + 1))) x = rd (d.set (xo a b).toNat (wrap64 (rd d (xo a b) + 1))) 0 := by
        show List.getD _ x.toNat 0 = List.getD _ (0 : Int).toNat 0
        rw [show x.toNat = 0 by omega]; rfl
      rw [e, rd_set d _ _ 0 (by omega) (by omega), hw]
      have := hN 0
      split <;> omega
theorem tot_fold (a : Int) (ha : 0 ≤ a ∧ a ≤ 63) : ∀ (s d : List Int) (N : Int), (∀ x ∈ s, 0 ≤ x ∧ x ≤ 63) → d.length = 64 → (∀ x, 0 ≤ rd d x ∧ rd d x ≤ N) → N + (s.length : Int) ≤ 1000000 →
    tot (s.foldl (dstep a) d) (membersTo R 0 64) = tot d (membersTo R 0 64) + ((s.filter fun x => !(!decide (setVal R a = setVal R x))).length : Int) ∧ ∀ x, 0 ≤ rd (s.foldl (dstep a) d) x ∧ rd (s.foldl (dstep a) d) x ≤ N + (s.length : Int)
  | [], d, N, _, _, hN, _ => by simpa using hN
  | b :: s, d, N, hs, hd, hN, hN2 => by
    rw [List.length_cons] at hN2
    have h1 := tot_step R hr hR a b d N ha (hs b List.mem_cons_self) hd hN (by omega)
    have ih := tot_fold a ha s (dstep a d b) (N + 1) (fun x hx => hs x (List.mem_cons_of_mem _ hx)) h1.2.1 h1.2.2 (by omega)
    rw [List.foldl_cons]
    refine ⟨?_, fun x => ?_⟩
    · rw [ih.1, h1.1, List.filter_cons]
      by_cases e : setVal R a = setVal R b
      · rw [if_pos e, if_pos (by simp [e]), List.length_cons]; omega
      · rw [if_neg e, if_neg (by simp [e])]; omega
    · have := ih.2 x
      rw [List.length_cons]; omega
theorem press_ge (U : List Int) (hU : ∀ x ∈ U, 0 ≤ x ∧ x ≤ 63) (hl : U.length ≤ 60) : ∀ i : Nat, i ≤ U.length → (againN R 1 U i : Int) ≤ tot (dif U i) (membersTo R 0 64) ∧ ∀ x, 0 ≤ rd (dif U i) x ∧ rd (dif U i) x ≤ 60 * (i : Int)
  | 0, _ => by
    have hz : ∀ x, rd (dif U 0) x = 0 := by
      intro x
      show (List.replicate 64 (0 : Int)).getD x.toNat 0 = 0
      rw [List.getD_eq_getElem?_getD, List.getElem?_replicate]
      split <;> rfl
    refine ⟨?_, fun x => by rw [hz x]; omega⟩
    have key : ∀ K : List Int, tot (dif U 0) K = 0 := by
      intro K
      induction K with
      | nil => rfl
      | cons x K ih => unfold tot; rw [ih, hz x]; rfl
    rw [key]
    exact Int.le_refl _
  | i + 1, h => by
    have ih := press_ge U hU hl i (by omega)
    have ha : 0 ≤ rd U (i : Int) ∧ rd U (i : Int) ≤ 63 := by rw [rd_lt U i (by omega)]; exact hU _ (List.getElem_mem (by omega))
    have hbl := between_length U i
    rw [dif_succ]
    have hagn : againN R 1 U (i + 1) = againN R 1 U i + if rd U (i : Int) ∈ U.take i ∧ missAt R 1 U i = true then 1 else 0 := rfl
    rw [hagn]
    cases hag : again U i with
    | false =>
      have hn : ¬ rd U (i : Int) ∈ U.take i := fun q => by
        have := (lu_of_mem U _ i (by omega)).mpr q
        have h2 : decide (0 ≤ lu U (rd U (i : Int)) i) = false := hag
        rw [decide_eq_true this] at h2
        exact absurd h2 (by simp)
      rw [if_neg (fun q => hn q.1), Nat.add_zero, if_neg (by simp)]
      exact ⟨by have := ih.1; omega, fun x => by have := ih.2 x; omega⟩
    | true =>
      rw [if_pos rfl]
      have ht := tot_fold R hr hR (rd U (i : Int)) ha (between U i) (dif U i) (60 * (i : Int)) (between_mem U i hU) (dif_length U i) ih.2 (by omega)
      refine ⟨?_, fun x => by have := ht.2 x; omega⟩
      rw [ht.1]
      have hml : missAt R 1 U i = (!decide (0 ≤ lu U (rd U (i : Int)) i) || decide ((1 : Int) ≤ (((between U i).filter fun x => !(!decide (setVal R (rd U (i : Int)) = setVal R x))).length : Int))) := rfl
      have h0 : decide (0 ≤ lu U (rd U (i : Int)) i) = true := hag
      rw [h0] at hml
      have := ih.1
      split
      · rename_i hq
        rw [hq.2] at hml
        have : (1 : Int) ≤ (((between U i).filter fun x => !(!decide (setVal R (rd U (i : Int)) = setVal R x))).length : Int) := by simpa using hml.symm
        omega
      · omega
theorem pressure_ge (U : List Int) (hU : ∀ x ∈ U, 0 ≤ x ∧ x ≤ 63) (hl : U.length ≤ 60) : (againN R 1 U U.length : Int) ≤ sumAt (dif U U.length) (membersTo R 0 64) := by
  have h := press_ge R hr hR U hU hl U.length (Nat.le_refl _)
  have hk := membersTo_length R 0 64
  have hs := sumAt_tot (dif U U.length) 3600 (fun x => by have := h.2 x; omega) (membersTo R 0 64) 0 (by omega) (by omega)
  have h1 := h.1
  have h2 := hs.1
  unfold sumAt
  omega
end
theorem xo_zero : ∀ a b : Fin 64, xo (a.val : Int) (b.val : Int) = 0 → a = b := by decide +kernel
theorem between_ne (U : List Int) (i : Nat) (hi : i ≤ U.length) : ∀ x ∈ between U i, x ≠ rd U (i : Int) := by
  intro x hx e
  have hr := lu_range U (rd U (i : Int)) i
  have hm := ((setL_facts _).2 x).1 hx
  obtain ⟨j, hj, hjx⟩ := List.getElem_of_mem hm
  rw [List.length_drop, List.length_take] at hj
  rw [List.getElem_drop, List.getElem_take] at hjx
  have hlt : (lu U (rd U (i : Int)) i + 1).toNat + j < U.length := by omega
  refine lu_after (l := U) (a := rd U (i : Int)) (i := i) ((lu U (rd U (i : Int)) i + 1).toNat + j) (by omega) (by omega) ?_
  rw [rd_lt U _ hlt, hjx, e]
theorem dif_zero (U : List Int) (hU : ∀ x ∈ U, 0 ≤ x ∧ x ≤ 63) : ∀ i : Nat, i ≤ U.length → rd (dif U i) 0 = 0
  | 0, _ => rfl
  | i + 1, h => by
    have ih := dif_zero U hU i (by omega)
    have ha : 0 ≤ rd U (i : Int) ∧ rd U (i : Int) ≤ 63 := by rw [rd_lt U i (by omega)]; exact hU _ (List.getElem_mem (by omega))
    have key : ∀ (s d : List Int), (∀ x ∈ s, (0 ≤ x ∧ x ≤ 63) ∧ x ≠ rd U (i : Int)) → d.length = 64 → rd (s.foldl (dstep (rd U (i : Int))) d) 0 = rd d 0 := by
      intro s
      induction s with
      | nil => intro d _ _; rfl
      | cons b s ihs =>
        intro d hs hd
        obtain ⟨hb, hne⟩ := hs b List.mem_cons_self
        have hx := xor_xo ha hb
        rw [List.foldl_cons, ihs _ (fun x hx => hs x (List.mem_cons_of_mem _ hx)) (by rw [dstep_length, hd])]
        unfold dstep
        rw [rd_set d _ _ 0 (by omega) (by omega), if_neg]
        intro e
        have e0 : xo (rd U (i : Int)) b = 0 := by omega
        obtain ⟨m, hm⟩ := fin_of ha.1 ha.2
        obtain ⟨n, hn⟩ := fin_of hb.1 hb.2
        rw [hm, hn] at e0
        exact hne (by rw [hm, hn, xo_zero m n e0])
    rw [dif_succ]
    split
    · rw [key _ _ (fun x hx => ⟨between_mem U i hU x hx, between_ne U i (by omega) x hx⟩) (dif_length U i)]; exact ih
    · exact ih
theorem setVal_nil (a : Int) : setVal [] a = 0 := rfl
theorem miss_empty (p : Nat) (U : List Int) (i : Nat) : missAt [] (p : Int) U i = isMiss p (distAt U i) := by
  have ho : othersOf [] U i = between U i := by
    unfold othersOf
    rw [List.filter_eq_self]
    intro x _
    rw [setVal_nil, setVal_nil]; rfl
  unfold missAt isMiss distAt again
  rw [ho]
  by_cases h : 0 ≤ lu U (rd U (i : Int)) i
  · have h2 : ¬ ((between U i).length : Int) < 0 := by omega
    rw [decide_eq_true h, if_pos rfl, decide_eq_false h2]
    rfl
  · rw [decide_eq_false h, if_neg (by simp)]
    rfl
/-- With no rows, the misses are those of the curve. -/
theorem misN_empty (p : Nat) (U : List Int) : ∀ i : Nat, misN [] (p : Int) U i = (distsTo U i).countP (isMiss p)
  | 0 => rfl
  | i + 1 => by
    unfold misN
    rw [misN_empty p U i, distsTo_succ, List.countP_append, List.countP_singleton, miss_empty]
theorem rd_crv (d : List Int) (p : Nat) : rd (crv d (p + 1)) (p : Int) = ((d.countP (isMiss p) : Nat) : Int) := by
  unfold crv
  rw [rd_lt _ p (by simp)]
  simp
end Go.Proofs.Ytdhkcnhmmiigoaa.Q
