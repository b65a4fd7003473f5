/- Kept intervals and cuts: the kept ones are as many as the hits, no set has more, no bound is less; no conditions beyond those written. -/
import Derived.Test.YtellojkbfnfacaaQx0
import Derived.Test.YtellojkbfnfacaaSbase
import Derived.Test.YtellojkbfnfacaaSbelady
import Derived.Test.YtellojkbfnfacaaSbestmiss
import Derived.Test.YtellojkbfnfacaaSduality
import Derived.Test.YtellojkbfnfacaaSsetlimpl
import Derived.Test.YtellojkbfnfacaaSslidx
import Derived.Test.YtellojkbfnfacaaSivsimpl
import Derived.Test.YtellojkbfnfacaaSkept
import Derived.Test.YtellojkbfnfacaaSkeptiv
import Derived.Test.YtellojkbfnfacaaSidxf
namespace Go.Proofs.Ytellojkbfnfacaa.Q
open Go.RowKit Go.Proofs.YtellojkbfnfacaaW.PrintWords Go.Proofs.YtellojkbfnfacaaW.PrintLast Go.Proofs.YtellojkbfnfacaaW.PrintMore
attribute [local go_sem] max2_int min2_int max_two min_two max_three min_three max_four min_four   -- for this text's walks alone
set_option linter.unusedVariables false
set_option linter.unusedSimpArgs false

theorem filterMap_if {α β : Type} (p : α → Prop) [DecidablePred p] (g : α → β) : ∀ l : List α, (l.filterMap fun i => if p i then some (g i) else none) = (l.filter fun i => decide (p i)).map g
  | [] => rfl
  | a :: l => by
    rw [List.filterMap_cons, List.filter_cons]
    by_cases h : p a
    · rw [if_pos h]; simp [h, filterMap_if p g l]
    · rw [if_neg h]; simp [h, filterMap_if p g l]
theorem ivs_iN (U : List Int) : ivs U = (iN U).map fun i : Nat => [(i : Int), (eN U i : Int)] := filterMap_if (fun i : Nat => nx U (rd U (i : Int)) (i + 1) < U.length) (fun i : Nat => [(i : Int), (nx U (rd U (i : Int)) (i + 1) : Int)]) (List.range U.length)
theorem ivs_len (U : List Int) : (ivs U).length = (iN U).length := by rw [ivs_iN, List.length_map]
theorem ivs_at (U : List Int) (k : Nat) (h : k < (iN U).length) : (ivs U).getD k [] = [((iN U).getD k 0 : Int), (eN U ((iN U).getD k 0) : Int)] := by
  rw [ivs_iN, List.getD_eq_getElem?_getD, List.getElem?_map, List.getD_eq_getElem?_getD, List.getElem?_eq_getElem h]; rfl
theorem crossB_crN (e : Nat → Nat) (i t : Nat) : crossB [(i : Int), (e i : Int)] (t : Int) = crN e t i := by
  unfold crossB crN
  show (decide ((i : Int) < (t : Int)) && decide ((t : Int) < (e i : Int))) = _
  by_cases h : i < t <;> by_cases k : t < e i <;> simp [h, k]
theorem iN_le (U : List Int) : (iN U).length ≤ U.length := by rw [← ivs_len]; exact ivsTo_length U U.length
theorem count_take {α : Type} (l : List α) (p : α → Bool) (d : α) (j : Nat) (h : j < l.length) : (l.take (j + 1)).countP p = (l.take j).countP p + if p (l.getD j d) = true then 1 else 0 := by
  rw [List.take_succ_eq_append_getElem h, List.countP_append, List.countP_singleton, List.getD_eq_getElem?_getD, List.getElem?_eq_getElem h]; rfl
def castN (C : List Nat) : List Int := C.map fun t : Nat => (t : Int)
theorem any_cross (e : Nat → Nat) (i : Nat) : ∀ C : List Nat, (castN C).any (crossB [(i : Int), (e i : Int)]) = C.any fun t => crN e t i
  | [] => rfl
  | t :: C => by
    show (crossB _ (t : Int) || (castN C).any _) = (crN e t i || C.any _)
    rw [crossB_crN, any_cross e i C]
theorem hbTo_bnd (U : List Int) (n : Int) (C : List Nat) (hn : 1 ≤ n) (hn6 : n ≤ 6) (hl : U.length ≤ 60) (hC : C.length ≤ 60) : hbTo U n (castN C) (ivs U).length = (bndN (iN U) (n - 1).toNat (eN U) C : Int) := by
  have hcl : (castN C).length = C.length := List.length_map _
  have h0 : (n - 1) * (C.length : Int) ≤ 5 * 60 := Int.mul_le_mul (by omega) (by omega) (by omega) (by omega)
  have h00 : 0 ≤ (n - 1) * (C.length : Int) := Int.mul_nonneg (by omega) (by omega)
  have hil := iN_le U
  have key : ∀ j : Nat, j ≤ (iN U).length → hbTo U n (castN C) j = (n - 1) * (C.length : Int) + (((iN U).take j).countP (fun i => !C.any fun t => crN (eN U) t i) : Nat) := by
    intro j
    induction j with
    | zero =>
      intro _
      unfold hbTo
      rw [hcl, wrap64_id (x := n - 1) (by omega) (by omega), wrap64_id (by omega) (by omega)]; simp
    | succ j ih =>
      intro hj
      have hc := List.countP_le_length (p := fun i => !C.any fun t => crN (eN U) t i) (l := (iN U).take j)
      rw [List.length_take] at hc
      unfold hbTo
      rw [ih (by omega), ivs_at U j (by omega), any_cross, count_take _ _ 0 j (by omega)]
      cases hq : C.any (fun t => crN (eN U) t ((iN U).getD j 0)) with
      | true => simp
      | false =>
        rw [if_neg (by simp), if_pos (by simp), wrap64_id (by omega) (by omega)]
        push_cast; omega
  rw [ivs_len, key _ (Nat.le_refl _), List.take_length]
  unfold bndN
  push_cast
  rw [Int.toNat_of_nonneg (by omega)]
/-- The intervals whose numbers are told. -/
def pickN (U : List Int) (s : List Int) (i : Nat) : Bool := decide (i ∈ s.map fun k => (iN U).getD k.toNat 0)
theorem getD_inj {l : List Nat} (h : l.Nodup) {i j : Nat} (hi : i < l.length) (hj : j < l.length) (e : l.getD i 0 = l.getD j 0) : i = j := by
  rw [List.getD_eq_getElem?_getD, List.getD_eq_getElem?_getD, List.getElem?_eq_getElem hi, List.getElem?_eq_getElem hj, Option.getD_some, Option.getD_some] at e
  rcases Nat.lt_trichotomy i j with h1 | h1 | h1
  · exact absurd e (List.pairwise_iff_getElem.1 h i j hi hj h1)
  · exact h1
  · exact absurd e.symm (List.pairwise_iff_getElem.1 h j i hj hi h1)
theorem getD_mem {l : List Nat} {i : Nat} (hi : i < l.length) : l.getD i 0 ∈ l := by
  rw [List.getD_eq_getElem?_getD, List.getElem?_eq_getElem hi, Option.getD_some]; exact List.getElem_mem hi
theorem pick_count (U s : List Int) (p : Nat → Bool) (hs : s.Nodup) (hr : ∀ k ∈ s, 0 ≤ k ∧ k < ((iN U).length : Int)) : (iN U).countP (fun i => pickN U s i && p i) = (s.filter fun k => p ((iN U).getD k.toNat 0)).length := by
  rw [List.countP_eq_length_filter, show (s.filter fun k => p ((iN U).getD k.toNat 0)).length = ((s.filter fun k => p ((iN U).getD k.toNat 0)).map fun k : Int => (iN U).getD k.toNat 0).length by rw [List.length_map]]
  refine same_len ((iN_nodup U).filter _) (nodup_map_on (hs.filter _) (fun a ha b hb e => ?_)) (fun i => ?_)
  · have h1 := hr a (List.mem_filter.1 ha).1
    have h2 := hr b (List.mem_filter.1 hb).1
    have := getD_inj (iN_nodup U) (by omega) (by omega) e
    omega
  · rw [List.mem_filter, List.mem_map]
    unfold pickN
    simp only [Bool.and_eq_true, decide_eq_true_eq, List.mem_map, List.mem_filter]
    constructor
    · rintro ⟨_, ⟨k, hk, rfl⟩, hp⟩
      exact ⟨k, ⟨hk, hp⟩, rfl⟩
    · rintro ⟨k, ⟨hk, hp⟩, rfl⟩
      have := hr k hk
      exact ⟨getD_mem (by omega), ⟨k, hk, rfl⟩, hp⟩
theorem crossed_pick (U s : List Int) (t : Nat) (hs : s.Nodup) (hr : ∀ k ∈ s, 0 ≤ k ∧ k < ((iN U).length : Int)) : crossed (ivs U) s (t : Int) = (iN U).countP fun i => pickN U s i && crN (eN U) t i := by
  rw [pick_count U s _ hs hr]
  unfold crossed
  congr 1
  apply List.filter_congr
  intro k hk
  have := hr k hk
  rw [ivs_at U k.toNat (by omega), crossB_crN]
theorem inc_of_incFrom (s : List Int) (h : incFrom s 1 = true) : s.Pairwise (· < ·) := by
  have hstep : ∀ j : Nat, 1 ≤ j → j < s.length → rd s ((j : Int) - 1) < rd s (j : Int) := by
    intro j h1 h2
    have := List.all_eq_true.1 h j (by rw [List.mem_range'_1]; omega)
    simpa using this
  rw [List.pairwise_iff_getElem]
  have key : ∀ d i : Nat, i + d + 1 < s.length → rd s (i : Int) < rd s ((i + d + 1 : Nat) : Int) := by
    intro d
    induction d with
    | zero =>
      intro i hi
      have := hstep (i + 1) (by omega) (by omega)
      rw [show ((i + 1 : Nat) : Int) - 1 = (i : Int) by omega] at this
      exact this
    | succ d ih =>
      intro i hi
      have h1 := ih i (by omega)
      have h2 := hstep (i + d + 2) (by omega) (by omega)
      rw [show ((i + d + 2 : Nat) : Int) - 1 = ((i + d + 1 : Nat) : Int) by omega] at h2
      exact Int.lt_trans h1 h2
  intro i j hi hj hij
  have := key (j - i - 1) i (by omega)
  rw [show i + (j - i - 1) + 1 = j by omega, rd_lt s i hi, rd_lt s j hj] at this
  exact this
theorem incFrom_of_inc (s : List Int) (h : s.Pairwise (· < ·)) : incFrom s 1 = true := by
  unfold incFrom
  rw [List.all_eq_true]
  intro j hj
  rw [List.mem_range'_1] at hj
  have := List.pairwise_iff_getElem.1 h (j - 1) j (by omega) (by omega) (by omega)
  rw [show ((j : Int) - 1) = ((j - 1 : Nat) : Int) by omega, rd_lt s (j - 1) (by omega), rd_lt s j (by omega)]
  simpa using this
theorem rises_of (s : List Int) (lo hi : Int) (h : s.Pairwise (· < ·)) (hr : ∀ x ∈ s, lo ≤ x ∧ x ≤ hi) : rises s lo hi = true := by
  unfold rises
  rw [incFrom_of_inc s h, Bool.and_true, List.all_eq_true]
  intro x hx
  have := hr x hx
  unfold isIn
  simp [this.1, this.2]
theorem inc_nodup {s : List Int} (h : s.Pairwise (· < ·)) : s.Nodup := h.imp (fun h => by omega)
theorem castN_inc {C : List Nat} (h : C.Pairwise (· < ·)) : (castN C).Pairwise (· < ·) := by
  unfold castN
  rw [List.pairwise_map]
  exact h.imp (fun h => by omega)
theorem small_len {C : List Nat} {N : Nat} (h : C.Pairwise (· < ·)) (hN : ∀ t ∈ C, t < N) : C.length ≤ N := by
  have := sub_len C (List.range N) (h.imp (fun h => by omega)) (fun x hx => List.mem_range.2 (hN x hx))
  rwa [List.length_range] at this
section
variable (U : List Int) (n : Int) (hn : 1 ≤ n) (hn6 : n ≤ 6) (hl : U.length ≤ 60) (hU : ∀ x ∈ U, 0 ≤ x ∧ x ≤ 63)
include hn hn6 hl hU
omit hU in
/-- No set of intervals that can be kept has more than the bound of cuts. -/
theorem kept_weak (s : List Int) (h : isKept U n s = true) (C : List Nat) (hC : ∀ t ∈ C, t < U.length) : s.length ≤ bndN (iN U) (n - 1).toNat (eN U) C := by
  unfold isKept at h
  simp only [Bool.and_eq_true] at h
  obtain ⟨_, _, hr, hk⟩ := h
  have hri : ∀ k ∈ s, 0 ≤ k ∧ k < ((iN U).length : Int) := fun k hk => by have := rises_range hr k hk; rw [ivs_len] at this; omega
  have hnd : s.Nodup := inc_nodup (inc_of_incFrom s (by unfold rises at hr; rw [Bool.and_eq_true] at hr; exact hr.2))
  have hw := dual_weak (iN U) U.length (n - 1).toNat (eN U) (pickN U s) (fun t ht => ?_) C hC
  · have hp := pick_count U s (fun _ => true) hnd hri
    simp only [Bool.and_true] at hp
    rw [List.filter_eq_self.2 (fun _ _ => rfl)] at hp
    rw [← hp]; exact hw
  · unfold keptB at hk
    have := List.all_eq_true.1 hk t (by rw [List.mem_range'_1]; omega)
    rw [crossed_pick U s t hnd hri] at this
    have h2 : ((((iN U).countP fun i => pickN U s i && crN (eN U) t i) : Nat) : Int) ≤ n - 1 := by simpa using this
    omega
omit hn hn6 hl hU in
theorem keptTo_eq (U : List Int) (n : Int) : keptTo U n (ivs U).length = ((List.range (iN U).length).filter fun k => accN U n ((iN U).getD k 0)).map fun k : Nat => (k : Int) := by
  unfold keptTo
  rw [ivs_len]
  congr 1
  apply List.filter_congr
  intro k hk
  have hk := List.mem_range.1 hk
  unfold endOf accN
  rw [ivs_at U k hk]
  rfl
omit hn hn6 hl hU in
theorem keptTo_mem (U : List Int) (n : Int) (x : Int) (h : x ∈ keptTo U n (ivs U).length) : 0 ≤ x ∧ x < ((iN U).length : Int) ∧ accN U n ((iN U).getD x.toNat 0) = true := by
  rw [keptTo_eq] at h
  obtain ⟨k, hk, rfl⟩ := List.mem_map.1 h
  obtain ⟨h1, h2⟩ := List.mem_filter.1 hk
  have := List.mem_range.1 h1
  exact ⟨by omega, by omega, by rw [Int.toNat_natCast]; exact h2⟩
omit hn hn6 hl hU in
theorem keptTo_inc (U : List Int) (n : Int) : (keptTo U n (ivs U).length).Pairwise (· < ·) := by
  rw [keptTo_eq, List.pairwise_map]
  refine List.Pairwise.imp (R := fun a b : Nat => a < b) (fun h => by omega) ?_
  exact (List.pairwise_lt_range).filter _
theorem kept_hits : ((keptTo U n (ivs U).length).length = hitTo U n U.length) ∧ isKept U n (keptTo U n (ivs U).length) = true := by
  have hinc := keptTo_inc U n
  have hnd := inc_nodup hinc
  have hm := keptTo_mem U n
  have hri : ∀ k ∈ keptTo U n (ivs U).length, 0 ≤ k ∧ k < ((iN U).length : Int) := fun k hk => ⟨(hm k hk).1, (hm k hk).2.1⟩
  have hpk : ∀ i ∈ iN U, pickN U (keptTo U n (ivs U).length) i = accN U n i := by
    intro i hi
    unfold pickN
    cases ha : accN U n i with
    | true =>
      rw [decide_eq_true_eq, List.mem_map]
      obtain ⟨k, hk, rfl⟩ := List.getElem_of_mem hi
      refine ⟨(k : Int), ?_, ?_⟩
      · rw [keptTo_eq]
        refine List.mem_map.2 ⟨k, List.mem_filter.2 ⟨List.mem_range.2 hk, ?_⟩, rfl⟩
        rw [List.getD_eq_getElem?_getD, List.getElem?_eq_getElem hk]; exact ha
      · rw [Int.toNat_natCast, List.getD_eq_getElem?_getD, List.getElem?_eq_getElem hk]; rfl
    | false =>
      rw [decide_eq_false_iff_not, List.mem_map]
      rintro ⟨k, hk, rfl⟩
      rw [(hm k hk).2.2] at ha; cases ha
  constructor
  · have hp := pick_count U (keptTo U n (ivs U).length) (fun _ => true) hnd hri
    simp only [Bool.and_true] at hp
    rw [List.filter_eq_self.2 (fun _ _ => rfl)] at hp
    rw [← hp, hits_acc U n]
    exact countP_eq _ _ _ hpk
  · unfold isKept
    have ho : okUses U = true := (okUses_iff U).2 ⟨hU, hl⟩
    have hi : isIn 1 6 n = true := by unfold isIn; simp [hn, hn6]
    have hr : rises (keptTo U n (ivs U).length) 0 (((ivs U).length : Int) - 1) = true := rises_of _ _ _ hinc (fun x hx => by have := hri x hx; rw [ivs_len]; omega)
    rw [ho, hi, hr, Bool.true_and, Bool.true_and, Bool.true_and]
    unfold keptB
    rw [List.all_eq_true]
    intro t ht
    rw [List.mem_range'_1] at ht
    rw [crossed_pick U _ t hnd hri]
    have h1 := countP_le (iN U) (fun i => pickN U (keptTo U n (ivs U).length) i && crN (eN U) t i) (fun i => accN U n i && crN (eN U) t i) (fun i hi h => by rw [hpk i hi] at h; exact h)
    have h2 := bel_cap U n hn hU t (by omega)
    simp; omega
omit hn6 in
/-- There are cuts whose bound is the number of hits. -/
theorem cuts_strong : ∃ C : List Nat, C.Pairwise (· < ·) ∧ (∀ t ∈ C, t < U.length) ∧ bndN (iN U) (n - 1).toNat (eN U) C = hitTo U n U.length := by
  rw [hits_acc U n]
  exact dual_strong (iN U) U.length (n - 1).toNat (eN U) (accN U n) (fun i hi => (iN_facts U i hi).2) (fun t ht => bel_cap U n hn hU t ht) (fun i hi ha => bel_tight U n hn hl hU i hi ha)
theorem cuts_weak (C : List Nat) (hC : ∀ t ∈ C, t < U.length) : hitTo U n U.length ≤ bndN (iN U) (n - 1).toNat (eN U) C := by
  obtain ⟨h1, h2⟩ := kept_hits U n hn hn6 hl hU
  rw [← h1]
  exact kept_weak U n hn hn6 hl _ h2 C hC
end
end Go.Proofs.Ytellojkbfnfacaa.Q
