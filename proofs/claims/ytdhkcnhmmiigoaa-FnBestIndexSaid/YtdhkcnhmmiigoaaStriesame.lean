/- All reduced rows: both sides find the same; no conditions beyond those written. -/
import Derived.Test.YtdhkcnhmmiigoaaQx0
import Derived.Test.YtdhkcnhmmiigoaaSplaced
import Derived.Test.YtdhkcnhmmiigoaaSred
import Derived.Test.YtdhkcnhmmiigoaaSbidw
namespace Go.Proofs.Ytdhkcnhmmiigoaa.Q
open Go.RowKit Go.Proofs.YtdhkcnhmmiigoaaW.PrintWords Go.Proofs.YtdhkcnhmmiigoaaW.PrintLast Go.Proofs.YtdhkcnhmmiigoaaW.PrintMore
attribute [local go_sem] max2_int min2_int max_two min_two max_three min_three max_four min_four   -- for this text's walks alone
set_option linter.unusedVariables false
set_option linter.unusedSimpArgs false

def GoodR (l : List Nat) : Prop := Redd l ∧ l.Pairwise (· > ·)
theorem good_snoc (l : List Nat) (n : Nat) : GoodR (l ++ [n]) ↔ GoodR l ∧ n ≠ 0 ∧ n < 64 ∧ ∀ o ∈ l, Apart o n ∧ o > n := by
  unfold GoodR Redd
  rw [List.pairwise_append, List.pairwise_append]
  constructor
  · rintro ⟨⟨h1, h2, _, h3⟩, h4, _, h5⟩
    exact ⟨⟨⟨fun o ho => h1 o (List.mem_append_left _ ho), h2⟩, h4⟩, (h1 n (by simp)).1, (h1 n (by simp)).2, fun o ho => ⟨h3 o ho n (by simp), h5 o ho n (by simp)⟩⟩
  · rintro ⟨⟨⟨h1, h2⟩, h4⟩, h0, h64, h3⟩
    refine ⟨⟨fun o ho => ?_, h2, by simp, fun o ho x hx => ?_⟩, h4, by simp, fun o ho x hx => ?_⟩
    · rcases List.mem_append.1 ho with ho | ho
      · exact h1 o ho
      · rw [List.mem_singleton.1 ho]; exact ⟨h0, h64⟩
    · rw [List.mem_singleton.1 hx]; exact (h3 o ho).1
    · rw [List.mem_singleton.1 hx]; exact (h3 o ho).2
theorem getD_get (l : List Nat) (i : Nat) (h : i < l.length) : l.getD i 0 = l[i] := by rw [List.getD_eq_getElem?_getD, List.getElem?_eq_getElem h]; rfl
theorem redB_iff (l : List Nat) (h64 : ∀ r ∈ l, r < 64) : redB l = true ↔ GoodR l := by
  unfold redB GoodR Redd
  rw [List.all_eq_true]
  constructor
  · intro h
    have hI : ∀ i (hi : i < l.length), l[i] ≠ 0 ∧ (0 < i → l[i] < l.getD (i - 1) 0) ∧ ∀ k (hk : k < l.length), k ≠ i → l[k] &&& ldN l[i] = 0 := by
      intro i hi
      have h1 := h i (by rw [List.mem_range'_1]; omega)
      unfold redI at h1
      rw [Bool.and_eq_true, List.all_eq_true, getD_get l i hi] at h1
      obtain ⟨h2, h3⟩ := h1
      simp only [Bool.not_eq_true', Bool.or_eq_false_iff, decide_eq_false_iff_not, Bool.and_eq_false_iff] at h2
      refine ⟨h2.1, fun hp => by rcases h2.2 with h4 | h4 <;> omega, fun k hk hne => ?_⟩
      have h4 := h3 k (by rw [List.mem_range'_1]; omega)
      unfold redK at h4
      rw [getD_get l k hk, getD_get l i hi] at h4
      simpa [hne] using h4
    refine ⟨⟨fun o ho => ?_, ?_⟩, ?_⟩
    · obtain ⟨i, hi, rfl⟩ := List.getElem_of_mem ho
      exact ⟨(hI i hi).1, h64 _ (List.getElem_mem hi)⟩
    · rw [List.pairwise_iff_getElem]
      intro i j hi hj hij
      exact ⟨(hI j hj).2.2 i hi (by omega), (hI i hi).2.2 j hj (by omega)⟩
    · rw [List.pairwise_iff_getElem]
      have key : ∀ d i (hi : i + d + 1 < l.length), l[i + d + 1] < l[i]'(by omega) := by
        intro d
        induction d with
        | zero =>
          intro i hi
          have := (hI (i + 1) hi).2.1 (by omega)
          rw [Nat.add_sub_cancel, getD_get l i (by omega)] at this
          exact this
        | succ d ih =>
          intro i hi
          have h1 := ih i (by omega)
          have h2 := (hI (i + d + 2) (by omega)).2.1 (by omega)
          rw [show i + d + 2 - 1 = i + d + 1 by omega, getD_get l _ (by omega)] at h2
          exact Nat.lt_trans h2 h1
      intro i j hi hj hij
      have := key (j - i - 1) i (by omega)
      simp only [show i + (j - i - 1) + 1 = j by omega] at this
      exact this
  · rintro ⟨⟨h1, h2⟩, h3⟩ i hi
    rw [List.mem_range'_1] at hi
    have hi : i < l.length := by omega
    rw [List.pairwise_iff_getElem] at h2 h3
    unfold redI
    rw [Bool.and_eq_true, List.all_eq_true, getD_get l i hi]
    refine ⟨?_, fun k hk => ?_⟩
    · simp only [Bool.not_eq_true', Bool.or_eq_false_iff, decide_eq_false_iff_not, Bool.and_eq_false_iff]
      refine ⟨(h1 _ (List.getElem_mem hi)).1, ?_⟩
      by_cases hp : 0 < i
      · right
        rw [getD_get l (i - 1) (by omega)]
        have := h3 (i - 1) i (by omega) hi (by omega)
        omega
      · exact .inl hp
    · rw [List.mem_range'_1] at hk
      have hk : k < l.length := by omega
      unfold redK
      rw [getD_get l k hk, getD_get l i hi]
      by_cases e : k = i
      · simp [e]
      · rw [decide_eq_false e, Bool.false_or, decide_eq_true_eq]
        rcases Nat.lt_or_ge k i with h | h
        · exact (h2 k i hk hi h).1
        · exact (h2 i k hi hk (by omega)).2
theorem fitsR_iff (l : List Nat) (n : Nat) (hl : GoodR l) (h0 : n ≠ 0) (h64 : n < 64) : fitsR l n = true ↔ GoodR (l ++ [n]) := by
  rw [good_snoc]
  unfold fitsR fitsTo
  rw [List.all_eq_true]
  constructor
  · intro h
    have hI : ∀ i (hi : i < l.length), (n &&& ldN l[i] = 0 ∧ l[i] &&& ldN n = 0) ∧ (i + 1 < l.length ∨ n < l[i]) := by
      intro i hi
      have := h i (List.mem_range.2 hi)
      unfold fit1 at this
      rw [getD_get l i hi] at this
      simp only [Bool.and_eq_true, decide_eq_true_eq, Bool.or_eq_true] at this
      exact ⟨⟨this.1, this.2.1⟩, this.2.2⟩
    refine ⟨hl, h0, h64, fun o ho => ?_⟩
    obtain ⟨i, hi, rfl⟩ := List.getElem_of_mem ho
    refine ⟨⟨(hI i hi).1.2, (hI i hi).1.1⟩, ?_⟩
    have hlast := (hI (l.length - 1) (by omega)).2
    have hlt : n < l[l.length - 1]'(by omega) := by omega
    rcases Nat.lt_or_ge i (l.length - 1) with h1 | h1
    · have := List.pairwise_iff_getElem.1 hl.2 i (l.length - 1) hi (by omega) h1
      show n < l[i]
      omega
    · have e : i = l.length - 1 := by omega
      subst e
      exact hlt
  · rintro ⟨_, _, _, h⟩ i hi
    have hi := List.mem_range.1 hi
    have := h _ (List.getElem_mem hi)
    unfold fit1
    rw [getD_get l i hi]
    simp only [Bool.and_eq_true, decide_eq_true_eq, Bool.or_eq_true]
    exact ⟨this.1.2, this.1.1, .inr this.2⟩
theorem filter_flat (p : Nat → Bool) (g : Nat → List Nat) (f : List Nat → List (List Nat)) : ∀ L : List Nat, ((L.filter p).map g).flatMap f = L.flatMap fun r => if p r = true then f (g r) else []
  | [] => rfl
  | x :: L => by
    rw [List.flatMap_cons, ← filter_flat p g f L, List.filter_cons]
    by_cases h : p x = true
    · rw [if_pos h, if_pos h, List.map_cons, List.flatMap_cons]
    · rw [if_neg h, if_neg h, List.nil_append]
theorem flat_congr {f g : Nat → List (List Nat)} : ∀ L : List Nat, (∀ x ∈ L, f x = g x) → L.flatMap f = L.flatMap g
  | [], _ => rfl
  | x :: L, h => by rw [List.flatMap_cons, List.flatMap_cons, h x (by simp), flat_congr L (fun y hy => h y (by simp [hy]))]
theorem flat_congr2 {f g : List Nat → List (List Nat)} : ∀ L : List (List Nat), (∀ x ∈ L, f x = g x) → L.flatMap f = L.flatMap g
  | [], _ => rfl
  | x :: L, h => by rw [List.flatMap_cons, List.flatMap_cons, h x (by simp), flat_congr2 L (fun y hy => h y (by simp [hy]))]
theorem rAll_step (d : Nat) (l : List Nat) (hl : GoodR l) : rAll (d + 1) l = (xTo l 63).flatMap (rAll d) := by
  unfold xTo
  rw [filter_flat]
  show (List.range' 1 63).flatMap (fun r => if fitsR l r = true then rAll d (l ++ [r]) else []) = _
  refine flat_congr _ (fun r hr => ?_)
  rw [List.mem_range'_1] at hr
  have h1 := fitsR_iff l r hl (by omega) (by omega)
  have h2 := redB_iff (l ++ [r]) (fun x hx => (List.mem_append.1 hx).elim (fun h => (hl.1.1 x h).2) (fun h => by have := List.mem_singleton.1 h; omega))
  by_cases h : fitsR l r = true
  · rw [if_pos h, if_pos (h2.2 (h1.1 h))]
  · rw [if_neg h, if_neg (fun h3 => h (h1.2 (h2.1 h3)))]
theorem tryT_good (k : Nat) (x : List Nat) (h : x ∈ tryT k) : GoodR x := by
  obtain ⟨_, h1, h2⟩ := tryT_mem k x h
  exact (redB_iff x h1).1 h2
theorem tryT_rAll : ∀ d k, (tryT k).flatMap (rAll d) = tryT (k + d)
  | 0, k => by
    show (tryT k).flatMap (fun x => [x]) = tryT k
    rw [List.flatMap_singleton']
  | d + 1, k => by
    rw [flat_congr2 (tryT k) (fun x hx => rAll_step d x (tryT_good k x hx)), ← List.flatMap_assoc]
    show (tryT (k + 1)).flatMap (rAll d) = _
    rw [tryT_rAll d (k + 1), show k + 1 + d = k + (d + 1) by omega]
theorem rAll_tryT (d : Nat) : rAll d [] = tryT d := by
  have := tryT_rAll d 0
  rw [Nat.zero_add] at this
  rw [← this]
  show _ = [[]].flatMap (rAll d)
  rw [List.flatMap_cons, List.flatMap_nil, List.append_nil]
/-- Every good list is found. -/
theorem good_mem : ∀ (x : List Nat), GoodR x → x ∈ tryT x.length := by
  intro x
  induction x using snoc_ind with
  | h0 => intro _; simp [tryT]
  | hs l n ih =>
    intro h
    obtain ⟨h1, h2, h3, h4⟩ := (good_snoc l n).1 h
    rw [List.length_append, List.length_singleton]
    refine List.mem_flatMap.2 ⟨l, ih h1, ?_⟩
    unfold xTo
    refine List.mem_map.2 ⟨n, List.mem_filter.2 ⟨by rw [List.mem_range'_1]; omega, ?_⟩, rfl⟩
    exact (redB_iff _ (fun x hx => (h.1.1 x hx).2)).2 h
end Go.Proofs.Ytdhkcnhmmiigoaa.Q
