/- All reduced rows, as the reference finds them; no conditions beyond those written. -/
import Derived.Test.YtdhkcnhmmiigoaaQx0
import Derived.Test.YtdhkcnhmmiigoaaQx2
import Derived.Test.YtdhkcnhmmiigoaaSxor
import Derived.Test.YtdhkcnhmmiigoaaSlead
import Derived.Test.YtdhkcnhmmiigoaaSred
namespace Go.Proofs.Ytdhkcnhmmiigoaa.Q
open Go.RowKit Go.Proofs.YtdhkcnhmmiigoaaW.PrintWords Go.Proofs.YtdhkcnhmmiigoaaW.PrintLast Go.Proofs.YtdhkcnhmmiigoaaW.PrintMore
attribute [local go_sem] max2_int min2_int max_two min_two max_three min_three max_four min_four   -- for this text's walks alone
set_option linter.unusedVariables false
set_option linter.unusedSimpArgs false

def redK (l : List Nat) (i k : Nat) : Bool := decide (k = i) || decide (l.getD k 0 &&& ldN (l.getD i 0) = 0)
def redI (l : List Nat) (i : Nat) : Bool := !(decide (l.getD i 0 = 0) || (decide (0 < i) && decide (l.getD (i - 1) 0 ≤ l.getD i 0))) && (List.range' 0 l.length).all (redK l i)
def redB (l : List Nat) : Bool := (List.range' 0 l.length).all (redI l)
theorem rd_nIg (l : List Nat) (i : Nat) (h : i < l.length) : rd (nI l) (i : Int) = ((l.getD i 0 : Nat) : Int) := by
  rw [rd_nI l i h, List.getD_eq_getElem?_getD, List.getElem?_eq_getElem h]; rfl
theorem getD_lt64 (l : List Nat) (h64 : ∀ r ∈ l, r < 64) (i : Nat) (h : i < l.length) : l.getD i 0 < 64 := by
  rw [List.getD_eq_getElem?_getD, List.getElem?_eq_getElem h]; exact h64 _ (List.getElem_mem h)
theorem range'_step (i n : Nat) (h : i < n) : List.range' i (n - i) = i :: List.range' (i + 1) (n - (i + 1)) := by
  rw [show n - i = (n - (i + 1)) + 1 by omega, List.range'_succ]
theorem range'_none (i n : Nat) (h : n ≤ i) : List.range' i (n - i) = [] := by rw [show n - i = 0 by omega]; rfl
theorem ev_reduced_l1 (l : List Nat) (h64 : ∀ r ∈ l, r < 64) (hl : l.length ≤ 1000) (i : Nat) (hi : i < l.length) (h0 : l.getD i 0 ≠ 0) (rest : Bool) (ih : Ev (fun k => spec_l06Reduced.l0 k (nI l) ((i + 1 : Nat) : Int)) rest) :
    Ev (fun k => spec_l06Reduced.l1 k (nI l) (i : Int) 0) ((List.range' 0 l.length).all (redK l i) && rest) := by
  have hnl := nI_length l
  have key := Ev.down (fun j k => spec_l06Reduced.l1 k (nI l) (i : Int) (j : Int)) l.length (fun j => (List.range' j (l.length - j)).all (redK l i) && rest) ?_ ?_ 0 (Nat.zero_le _)
  · exact key
  · apply Ev.succ
    simp only [spec_l06Reduced.l1]
    refine Ev.ite_neg (by omega) ?_
    rw [wrap64_succ (by omega)]
    exact Ev.eq ih (by rw [range'_none _ _ (Nat.le_refl _)]; rfl)
  · intro j hj ihj
    have hti := getD_lt64 l h64 i hi
    have htj := getD_lt64 l h64 j hj
    apply Ev.succ
    simp only [spec_l06Reduced.l1]
    rw [wrap64_succ (by omega), rd_nIg l i hi, rd_nIg l j hj]
    refine Ev.ite_pos (by omega) ?_
    by_cases e : j = i
    · refine Ev.ite_pos (by omega) (Ev.eq ihj ?_)
      rw [range'_step j _ hj, List.all_cons]
      unfold redK
      rw [decide_eq_true e, Bool.true_or, Bool.true_and]
    · refine Ev.ite_neg (by omega) (Ev.ite_pos (by omega) (Ev.ite_pos (by omega) (Ev.ite_pos (by omega) (Ev.bind (Ev.of (spec_l06Top.mono _) (top_small ⟨_, hti⟩ h0)) ?_))))
      have hand := and_nat htj (ldN_lt hti)
      by_cases h1 : l.getD j 0 &&& ldN (l.getD i 0) = 0
      · refine Ev.ite_neg (by rw [hand, h1]; simp) (Ev.eq ihj ?_)
        rw [range'_step j _ hj, List.all_cons]
        unfold redK
        rw [decide_eq_true h1, Bool.or_true, Bool.true_and]
      · refine Ev.ite_pos (by rw [hand]; omega) (Ev.eq (Ev.now _) ?_)
        rw [range'_step j _ hj, List.all_cons]
        unfold redK
        rw [decide_eq_false h1, decide_eq_false e]; simp
theorem ev_reduced_j1 (l : List Nat) (h64 : ∀ r ∈ l, r < 64) (hl : l.length ≤ 1000) (i : Nat) (hi : i < l.length) (h0 : l.getD i 0 ≠ 0) (rest b : Bool) (ih : Ev (fun k => spec_l06Reduced.l0 k (nI l) ((i + 1 : Nat) : Int)) rest) :
    Ev (fun k => spec_l06Reduced.j1 k (nI l) (i : Int) b) (!b && ((List.range' 0 l.length).all (redK l i) && rest)) := by
  apply Ev.succ
  simp only [spec_l06Reduced.j1]
  cases b with
  | true => exact Ev.ite_pos rfl (Ev.now _)
  | false => exact Ev.ite_neg (by simp) (Ev.eq (ev_reduced_l1 l h64 hl i hi h0 rest ih) (by simp))
theorem ev_l06Reduced (l : List Nat) (h64 : ∀ r ∈ l, r < 64) (hl : l.length ≤ 1000) : Ev (fun k => spec_l06Reduced.f k (nI l)) (redB l) := by
  unfold spec_l06Reduced.f
  have hnl := nI_length l
  have key := Ev.down (fun i k => spec_l06Reduced.l0 k (nI l) (i : Int)) l.length (fun i => (List.range' i (l.length - i)).all (redI l)) ?_ ?_ 0 (Nat.zero_le _)
  · exact key
  · apply Ev.succ
    simp only [spec_l06Reduced.l0]
    exact Ev.ite_neg (by omega) (Ev.eq (Ev.now _) (by rw [range'_none _ _ (Nat.le_refl _)]; rfl))
  · intro i hi ih
    have e : ((List.range' i (l.length - i)).all (redI l)) = (redI l i && (List.range' (i + 1) (l.length - (i + 1))).all (redI l)) := by rw [range'_step i _ hi, List.all_cons]
    rw [e]
    apply Ev.succ
    simp only [spec_l06Reduced.l0]
    refine Ev.ite_pos (by omega) (Ev.ite_pos (by omega) ?_)
    rw [rd_nIg l i hi]
    have hri : redI l i = (!(decide (l.getD i 0 = 0) || (decide (0 < i) && decide (l.getD (i - 1) 0 ≤ l.getD i 0))) && (List.range' 0 l.length).all (redK l i)) := rfl
    rw [hri]
    by_cases h0 : l.getD i 0 = 0
    · refine Ev.ite_pos (by omega) ?_
      apply Ev.succ
      simp only [spec_l06Reduced.j1]
      exact Ev.ite_pos (by trivial) (Ev.eq (Ev.now _) (by rw [decide_eq_true h0]; simp))
    · refine Ev.ite_neg (by omega) ?_
      by_cases hp : 0 < i
      · have hw : wrap64 ((i : Int) - 1) = ((i - 1 : Nat) : Int) := by rw [wrap64_id (by omega) (by omega)]; omega
        rw [hw, rd_nIg l (i - 1) (by omega)]
        refine Ev.ite_pos (by omega) (Ev.ite_pos (by omega) (Ev.ite_pos (by omega) (Ev.eq (ev_reduced_j1 l h64 hl i hi h0 _ _ ih) ?_)))
        have hd : decide (((l.getD (i - 1) 0 : Nat) : Int) ≤ ((l.getD i 0 : Nat) : Int)) = decide (l.getD (i - 1) 0 ≤ l.getD i 0) := by
          by_cases h : l.getD (i - 1) 0 ≤ l.getD i 0
          · rw [decide_eq_true h, decide_eq_true (by omega)]
          · rw [decide_eq_false h, decide_eq_false (by omega)]
        rw [hd, decide_eq_false h0, decide_eq_true hp, Bool.true_and, Bool.false_or, Bool.and_assoc]
      · refine Ev.ite_neg (by omega) (Ev.eq (ev_reduced_j1 l h64 hl i hi h0 _ _ ih) ?_)
        rw [decide_eq_false h0, decide_eq_false hp, Bool.false_and, Bool.false_or, Bool.and_assoc]
/-- The reduced rows with one more of the first n numbers. -/
def xTo (rows : List Nat) (n : Nat) : List (List Nat) := ((List.range' 1 n).filter fun r => redB (rows ++ [r])).map fun r => rows ++ [r]
theorem xTo_succ (rows : List Nat) (n : Nat) : xTo rows (n + 1) = xTo rows n ++ (if redB (rows ++ [n + 1]) = true then [rows ++ [n + 1]] else []) := by
  unfold xTo
  rw [List.range'_1_concat, List.filter_append, List.map_append, Nat.add_comm 1 n]
  congr 1
  by_cases h : redB (rows ++ [n + 1]) = true <;> simp [List.filter_cons, h]
theorem xTo_length (rows : List Nat) (n : Nat) : (xTo rows n).length ≤ n := by
  unfold xTo
  rw [List.length_map]
  have := List.length_filter_le (fun r => redB (rows ++ [r])) (List.range' 1 n)
  rwa [List.length_range'] at this
def tryT : Nat → List (List Nat)
  | 0 => [[]]
  | k + 1 => (tryT k).flatMap fun rows => xTo rows 63
theorem flat_len (f : List Nat → List (List Nat)) (hf : ∀ x, (f x).length ≤ 63) : ∀ L : List (List Nat), (L.flatMap f).length ≤ 63 * L.length
  | [] => by simp
  | x :: L => by
    have h1 := hf x
    have h2 := flat_len f hf L
    rw [List.flatMap_cons, List.length_append, List.length_cons]; omega
theorem tryT_length : ∀ k, (tryT k).length ≤ 63 ^ k
  | 0 => by simp [tryT]
  | k + 1 => by
    have h1 := flat_len (fun rows => xTo rows 63) (fun x => xTo_length x 63) (tryT k)
    have h2 := tryT_length k
    unfold tryT
    rw [Nat.pow_succ]; omega
theorem tryT_small {k : Nat} (h : k ≤ 3) : (tryT k).length ≤ 250047 := by
  have h1 := tryT_length k
  have h2 : 63 ^ k ≤ 63 ^ 3 := Nat.pow_le_pow_right (by omega) h
  have h3 : (63 : Nat) ^ 3 = 250047 := by decide
  omega
theorem xTo_mem {rows x : List Nat} {n : Nat} (h : x ∈ xTo rows n) : ∃ r, 1 ≤ r ∧ r ≤ n ∧ x = rows ++ [r] ∧ redB (rows ++ [r]) = true := by
  unfold xTo at h
  obtain ⟨r, hr, rfl⟩ := List.mem_map.1 h
  obtain ⟨h1, h2⟩ := List.mem_filter.1 hr
  rw [List.mem_range'_1] at h1
  exact ⟨r, h1.1, by omega, rfl, h2⟩
theorem tryT_mem : ∀ (k : Nat) (x : List Nat), x ∈ tryT k → x.length = k ∧ (∀ r ∈ x, r < 64) ∧ redB x = true
  | 0, x, h => by
    have := List.mem_singleton.1 h
    subst this
    exact ⟨rfl, by simp, rfl⟩
  | k + 1, x, h => by
    obtain ⟨y, hy, hx⟩ := List.mem_flatMap.1 h
    obtain ⟨r, h1, h2, rfl, h3⟩ := xTo_mem hx
    obtain ⟨g1, g2, _⟩ := tryT_mem k y hy
    refine ⟨by rw [List.length_append, g1]; rfl, fun z hz => ?_, h3⟩
    rcases List.mem_append.1 hz with hz | hz
    · exact g2 z hz
    · have := List.mem_singleton.1 hz; omega
theorem ev_tries_l2 (b : Int) (T : List (List Int)) (c : Int) (acc : List (List Int)) (i : Nat) (hi : i < T.length) (hTl : T.length ≤ 1000000) (rows : List Nat) (hT : rd_L1 T (i : Int) = nI rows) (h64 : ∀ r ∈ rows, r < 64) (hl : rows.length ≤ 3) (hacc : acc.length ≤ 100000000) (r : List (List Int))
    (h : Ev (fun k => spec_l06Tries.l1 k b T c (acc ++ (xTo rows 63).map nI) ((i + 1 : Nat) : Int)) r) : Ev (fun k => spec_l06Tries.l2 k b T c acc (i : Int) 1) r := by
  have hnl := nI_length rows
  have key := Ev.up (fun n k => spec_l06Tries.l2 k b T c (acc ++ (xTo rows n).map nI) (i : Int) ((n + 1 : Nat) : Int)) 63 r ?_ ?_
  · simpa [xTo] using key
  · apply Ev.succ
    simp only [spec_l06Tries.l2]
    refine Ev.ite_neg (by omega) ?_
    rw [wrap64_succ (by omega)]
    exact h
  · intro n hn ih
    have hxl := xTo_length rows n
    have ho : spec_l00Own.f (nI rows) = some (nI rows) := by
      unfold spec_l00Own.f
      simp; omega
    have hap : nI rows ++ [((n + 1 : Nat) : Int)] = nI (rows ++ [n + 1]) := (nI_append rows [n + 1]).symm
    have hred := ev_l06Reduced (rows ++ [n + 1]) (fun x hx => (List.mem_append.1 hx).elim (h64 x) (fun h => by have := List.mem_singleton.1 h; omega)) (by rw [List.length_append, List.length_singleton]; omega)
    rw [xTo_succ] at ih
    apply Ev.succ
    simp only [spec_l06Tries.l2]
    rw [hT, wrap64_succ (by omega)]
    refine Ev.ite_pos (by omega) (Ev.ite_pos (by omega) (Ev.ite_pos (by omega) (Ev.cbind ho (Ev.ite_pos (by omega) (Ev.cbind (a := nI (rows ++ [n + 1])) (by rw [hap]) (Ev.bind hred ?_))))))
    by_cases hr : redB (rows ++ [n + 1]) = true
    · rw [if_pos hr, List.map_append, ← List.append_assoc] at ih
      refine Ev.ite_pos hr (Ev.ite_pos (by rw [List.length_append, List.length_map]; omega) ih)
    · rw [if_neg hr, List.append_nil] at ih
      exact Ev.ite_neg hr ih
theorem ev_l06Tries (b : Nat) (hb : b ≤ 3) : Ev (fun k => spec_l06Tries.f k (b : Int)) ((tryT b).map nI) := by
  unfold spec_l06Tries.f
  refine Ev.up (fun c k => spec_l06Tries.l0 k (b : Int) ((tryT c).map nI) (c : Int)) b _ ?_ ?_
  · apply Ev.succ
    simp only [spec_l06Tries.l0]
    exact Ev.ite_neg (by omega) (Ev.now _)
  · intro c hc ih
    have hts := tryT_small (k := c) (by omega)
    have hml : ((tryT c).map nI).length = (tryT c).length := List.length_map _
    apply Ev.succ
    simp only [spec_l06Tries.l0]
    refine Ev.ite_pos (by omega) ?_
    refine Ev.up (fun i k => spec_l06Tries.l1 k (b : Int) ((tryT c).map nI) (c : Int) ((((tryT c).take i).flatMap fun rows => xTo rows 63).map nI) (i : Int)) (tryT c).length _ ?_ ?_
    · rw [List.take_length]
      apply Ev.succ
      simp only [spec_l06Tries.l1]
      refine Ev.ite_neg (by omega) ?_
      rw [wrap64_succ (by omega)]
      exact ih
    · intro i hi ihi
      obtain ⟨g1, g2, _⟩ := tryT_mem c _ (List.getElem_mem hi)
      have hacc := flat_len (fun rows => xTo rows 63) (fun x => xTo_length x 63) ((tryT c).take i)
      rw [List.length_take] at hacc
      rw [List.take_succ_eq_append_getElem hi, List.flatMap_append, List.flatMap_singleton, List.map_append] at ihi
      apply Ev.succ
      simp only [spec_l06Tries.l1]
      refine Ev.ite_pos (by omega) (ev_tries_l2 _ _ _ _ i (by omega) (by omega) (tryT c)[i] ?_ g2 (by omega) (by rw [List.length_map]; omega) _ ihi)
      show ((tryT c).map nI).getD i [] = _
      rw [List.getD_eq_getElem?_getD, List.getElem?_map, List.getElem?_eq_getElem hi]; rfl
end Go.Proofs.Ytdhkcnhmmiigoaa.Q
