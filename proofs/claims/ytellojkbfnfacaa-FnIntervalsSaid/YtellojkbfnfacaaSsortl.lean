/- Parts of the proof, laid together: contracts and lemmas; no conditions beyond those written. -/
import Derived.Test.YtellojkbfnfacaaQx0
import Derived.Test.YtellojkbfnfacaaQx1
import Derived.Test.YtellojkbfnfacaaSbase
import Derived.Test.YtellojkbfnfacaaSslidx
namespace Go.Proofs.Ytellojkbfnfacaa.Q
open Go.RowKit Go.Proofs.YtellojkbfnfacaaW.PrintWords Go.Proofs.YtellojkbfnfacaaW.PrintLast Go.Proofs.YtellojkbfnfacaaW.PrintMore
attribute [local go_sem] max2_int min2_int max_two min_two max_three min_three max_four min_four   -- for this text's walks alone
set_option linter.unusedVariables false
set_option linter.unusedSimpArgs false
section
def sortL (l : List Int) : List Int := l.mergeSort fun x y => decide (x ≤ y)
end
section
def okAddr (n : Int) : Bool := decide (0 ≤ n) && decide (n ≤ 63)
theorem okAddr_iff (n : Int) : okAddr n = true ↔ 0 ≤ n ∧ n ≤ 63 := by simp [okAddr]
end
section
/-- The next use of a from i on, 60 if there is none. -/
def wt (l : List Int) (i : Nat) (a : Int) : Int := if nx l a i < l.length then (nx l a i : Int) else 60
theorem wt_range (l : List Int) (i : Nat) (a : Int) (h : l.length ≤ 60) : 0 ≤ wt l i a ∧ wt l i a ≤ 60 := by
  unfold wt
  split <;> omega
theorem ev_waits (l : List Int) (a : Int) (i : Nat) (h : l.length ≤ 60) (hi : i ≤ l.length) : Ev (fun k => impl_waits.f k l a (i : Int)) (wt l i a) := by
  unfold impl_waits.f wt
  refine Ev.bind (ev_nextUse l a i (by omega) hi) ?_
  by_cases hlt : nx l a i < l.length
  · rw [if_pos hlt, if_pos hlt]; exact Ev.ite_pos (by omega) (Ev.now _)
  · rw [if_neg hlt, if_neg hlt]; exact Ev.ite_neg (by omega) (Ev.now _)
end
section
def lessB : List Int → List Int → Bool
  | a :: xs, b :: ys => decide (a < b) || (decide (a = b) && lessB xs ys)
  | _, _ => false
theorem lessB_cons (a b : Int) (xs ys : List Int) : lessB (a :: xs) (b :: ys) = (decide (a < b) || (decide (a = b) && lessB xs ys)) := rfl
theorem lessB_cons_iff (a b : Int) (xs ys : List Int) : lessB (a :: xs) (b :: ys) = true ↔ a < b ∨ (a = b ∧ lessB xs ys = true) := by rw [lessB_cons]; simp
theorem lessB_cons_no (a b : Int) (xs ys : List Int) : lessB (a :: xs) (b :: ys) = false ↔ b < a ∨ (a = b ∧ lessB xs ys = false) := by
  rw [lessB_cons]
  by_cases h : a < b
  · simp [h]; omega
  · by_cases e : a = b
    · simp [e]
    · simp [h, e]; omega
theorem less_antisymm : ∀ a b : List Int, a.length = b.length → lessB a b = false → lessB b a = false → a = b
  | [], [], _, _, _ => rfl
  | [], _ :: _, h, _, _ => by simp at h
  | _ :: _, [], h, _, _ => by simp at h
  | a :: xs, b :: ys, h, h1, h2 => by
    rcases (lessB_cons_no _ _ _ _).1 h1 with h3 | ⟨e, h3⟩ <;> rcases (lessB_cons_no _ _ _ _).1 h2 with h4 | ⟨e2, h4⟩
    · omega
    · omega
    · omega
    · rw [e, less_antisymm xs ys (by simpa using h) h3 h4]
/-- 'b is not less than a' in turn. -/
theorem less_trans : ∀ a b c : List Int, a.length = b.length → b.length = c.length → lessB b a = false → lessB c b = false → lessB c a = false
  | [], b, c, _, _, _, _ => by cases c <;> rfl
  | _ :: _, [], _, h, _, _, _ => by simp at h
  | _ :: _, _ :: _, [], _, _, _, _ => rfl
  | a :: xs, b :: ys, c :: cs, h, k, h1, h2 => by
    rw [lessB_cons_no]
    rcases (lessB_cons_no _ _ _ _).1 h1 with h3 | ⟨e, h3⟩ <;> rcases (lessB_cons_no _ _ _ _).1 h2 with h4 | ⟨e2, h4⟩
    · left; omega
    · left; omega
    · left; omega
    · exact .inr ⟨by omega, less_trans xs ys cs (by simpa using h) (by simpa using k) h3 h4⟩
theorem less_asymm : ∀ a b : List Int, lessB a b = true → lessB b a = false
  | [], [], h => by cases h
  | [], _ :: _, h => by cases h
  | _ :: _, [], h => by cases h
  | a :: xs, b :: ys, h => by
    rw [lessB_cons_no]
    rcases (lessB_cons_iff _ _ _ _).1 h with h | ⟨e, h⟩
    · exact .inl h
    · exact .inr ⟨e.symm, less_asymm xs ys h⟩
theorem less_snoc : ∀ (a b : List Int) (x : Int), a.length = b.length → lessB a b = false → lessB (a ++ [x]) (b ++ [x]) = false
  | [], [], x, _, _ => by simp [lessB]
  | [], _ :: _, _, h, _ => by simp at h
  | _ :: _, [], _, h, _ => by simp at h
  | a :: xs, b :: ys, x, h, h1 => by
    rw [List.cons_append, List.cons_append, lessB_cons_no]
    rcases (lessB_cons_no _ _ _ _).1 h1 with h3 | ⟨e, h3⟩
    · exact .inl h3
    · exact .inr ⟨e, less_snoc xs ys x (by simpa using h) h3⟩
end
section
/-- How many intervals lie between two uses. -/
def btI (iv : List (List Int)) (a b : Int) : Nat := iv.countP fun x => decide (a ≤ rd x 0) && decide (rd x 1 ≤ b)
/-- Whether cuts with their bound are better than others. -/
def betC (c d : Int × List Int) : Bool := if c.1 ≠ d.1 then decide (c.1 < d.1) else if c.2.length ≠ d.2.length then decide (c.2.length < d.2.length) else lessB c.2 d.2
theorem betC_le {c d : Int × List Int} : (betC c d = true → c.1 ≤ d.1) ∧ (betC c d = false → d.1 ≤ c.1) := by
  unfold betC
  by_cases h : c.1 = d.1
  · rw [h]; exact ⟨fun _ => Int.le_refl _, fun _ => Int.le_refl _⟩
  · rw [if_pos h]
    constructor
    · intro h2; have := of_decide_eq_true h2; omega
    · intro h2; have := of_decide_eq_false h2; omega
/-- The best of some first cuts behind a place that is told one higher. -/
def cpick (iv : List (List Int)) (ways : Int) (n a : Nat) (K : Nat → Int × List Int) : Nat → Int × List Int
  | 0 => ((btI iv ((a : Int) - 1) (n : Int) : Int), [])
  | k + 1 => if betC ((btI iv ((a : Int) - 1) ((a + k : Nat) : Int) : Int) + (ways - 1) + (K (a + k + 1)).1, ((a + k : Nat) : Int) :: (K (a + k + 1)).2) (cpick iv ways n a K k) = true
      then ((btI iv ((a : Int) - 1) ((a + k : Nat) : Int) : Int) + (ways - 1) + (K (a + k + 1)).1, ((a + k : Nat) : Int) :: (K (a + k + 1)).2) else cpick iv ways n a K k
/-- The table of the best cuts, from the end. -/
def tbC (iv : List (List Int)) (ways : Int) (n : Nat) : Nat → List (Int × List Int)
  | 0 => [cpick iv ways n n (fun _ => (0, [])) 0]
  | d + 1 => tbC iv ways n d ++ [cpick iv ways n (n - (d + 1)) (fun b => (tbC iv ways n d).getD (n - b) (0, [])) (d + 1)]
def bestC (iv : List (List Int)) (ways : Int) (n : Nat) : List Int := ((tbC iv ways n n).getD n (0, [])).2
theorem tbC_length (iv : List (List Int)) (ways : Int) (n : Nat) : ∀ d, (tbC iv ways n d).length = d + 1
  | 0 => rfl
  | d + 1 => by unfold tbC; rw [List.length_append, tbC_length iv ways n d]; rfl
theorem tbC_last (iv : List (List Int)) (ways : Int) (n d : Nat) : (tbC iv ways n (d + 1)).getD (d + 1) (0, []) = cpick iv ways n (n - (d + 1)) (fun b => (tbC iv ways n d).getD (n - b) (0, [])) (d + 1) := by
  have h := tbC_length iv ways n d
  show (tbC iv ways n d ++ [_]).getD (d + 1) (0, []) = _
  rw [List.getD_eq_getElem?_getD, List.getElem?_append_right (by omega), h, Nat.sub_self]; rfl
theorem tbC_keep (iv : List (List Int)) (ways : Int) (n d k : Nat) (h : k ≤ d) : (tbC iv ways n (d + 1)).getD k (0, []) = (tbC iv ways n d).getD k (0, []) := by
  have h1 := tbC_length iv ways n d
  show (tbC iv ways n d ++ [_]).getD k (0, []) = _
  rw [List.getD_eq_getElem?_getD, List.getElem?_append_left (by omega), ← List.getD_eq_getElem?_getD]
theorem btI_succ (iv : List (List Int)) (a b : Int) (i : Nat) (h : i < iv.length) : btI (iv.take (i + 1)) a b = btI (iv.take i) a b + if a ≤ rd (rd_L2 iv (i : Int)) 0 ∧ rd (rd_L2 iv (i : Int)) 1 ≤ b then 1 else 0 := by
  have e : rd_L2 iv (i : Int) = iv[i] := by
    show iv.getD i [] = iv[i]
    rw [List.getD_eq_getElem?_getD, List.getElem?_eq_getElem h]; rfl
  unfold btI
  rw [List.take_succ_eq_append_getElem h, List.countP_append, List.countP_singleton, e]
  congr 1
  by_cases h1 : a ≤ rd iv[i] 0 <;> by_cases h2 : rd iv[i] 1 ≤ b <;> simp [h1, h2]
theorem btI_le (iv : List (List Int)) (a b : Int) : btI iv a b ≤ iv.length := List.countP_le_length
/-- The table as a function of the place, told one higher. -/
def tabK (iv : List (List Int)) (ways : Int) (n b : Nat) : Int × List Int := (tbC iv ways n n).getD (n - b) (0, [])
theorem cpick_congr (iv : List (List Int)) (ways : Int) (n a : Nat) (K K' : Nat → Int × List Int) : ∀ k, (∀ b, a < b → b ≤ a + k → K b = K' b) → cpick iv ways n a K k = cpick iv ways n a K' k
  | 0, _ => rfl
  | k + 1, h => by
    unfold cpick
    rw [cpick_congr iv ways n a K K' k (fun b h1 h2 => h b h1 (by omega)), h (a + k + 1) (by omega) (by omega)]
theorem tbC_stay (iv : List (List Int)) (ways : Int) (n k : Nat) : ∀ e, (tbC iv ways n (k + e)).getD k (0, []) = (tbC iv ways n k).getD k (0, [])
  | 0 => rfl
  | e + 1 => by rw [show k + (e + 1) = (k + e) + 1 from rfl, tbC_keep iv ways n (k + e) k (by omega), tbC_stay iv ways n k e]
theorem tabK_at (iv : List (List Int)) (ways : Int) (n a : Nat) (ha : a ≤ n) : cpick iv ways n a (tabK iv ways n) (n - a) = tabK iv ways n a := by
  unfold tabK
  have h1 := tbC_stay iv ways n (n - a) a
  rw [show n - a + a = n by omega] at h1
  rw [h1]
  cases hd : n - a with
  | zero =>
    have : a = n := by omega
    subst this
    rfl
  | succ d =>
    rw [tbC_last]
    have e : n - (d + 1) = a := by omega
    rw [e]
    apply cpick_congr
    intro b hb1 hb2
    show tabK iv ways n b = _
    unfold tabK
    have h2 := tbC_stay iv ways n (n - b) b
    rw [show n - b + b = n by omega] at h2
    have h3 := tbC_stay iv ways n (n - b) (d - (n - b))
    rw [show n - b + (d - (n - b)) = d by omega] at h3
    rw [h2, h3]
theorem bestC_tab (iv : List (List Int)) (ways : Int) (n : Nat) : bestC iv ways n = (tabK iv ways n 0).2 := by
  unfold bestC tabK
  rw [Nat.sub_zero]
theorem cpick_small (iv : List (List Int)) (ways : Int) (hw : 1 ≤ ways) (n a : Nat) (K : Nat → Int × List Int) (hK : ∀ b, a < b → b ≤ n → 0 ≤ (K b).1 ∧ (K b).1 ≤ (iv.length : Int) ∧ (K b).2.length ≤ n - b) : ∀ k, a + k ≤ n → 0 ≤ (cpick iv ways n a K k).1 ∧ (cpick iv ways n a K k).1 ≤ (iv.length : Int) ∧ (cpick iv ways n a K k).2.length ≤ n - a
  | 0, _ => by
    have := btI_le iv ((a : Int) - 1) (n : Int)
    exact ⟨by show (0 : Int) ≤ (btI iv ((a : Int) - 1) (n : Int) : Int); omega, by show (btI iv ((a : Int) - 1) (n : Int) : Int) ≤ _; omega, Nat.zero_le _⟩
  | k + 1, hk => by
    obtain ⟨h1, h2, h3⟩ := cpick_small iv ways hw n a K hK k (by omega)
    obtain ⟨g1, g2, g3⟩ := hK (a + k + 1) (by omega) (by omega)
    unfold cpick
    split
    · rename_i hh
      have hle := betC_le.1 hh
      have hle2 : (btI iv ((a : Int) - 1) ((a + k : Nat) : Int) : Int) + (ways - 1) + (K (a + k + 1)).1 ≤ (cpick iv ways n a K k).1 := hle
      refine ⟨?_, ?_, ?_⟩
      · show 0 ≤ (btI iv ((a : Int) - 1) ((a + k : Nat) : Int) : Int) + (ways - 1) + (K (a + k + 1)).1
        omega
      · show (btI iv ((a : Int) - 1) ((a + k : Nat) : Int) : Int) + (ways - 1) + (K (a + k + 1)).1 ≤ _
        omega
      · show (((a + k : Nat) : Int) :: (K (a + k + 1)).2).length ≤ _
        rw [List.length_cons]; omega
    · exact ⟨h1, h2, h3⟩
theorem tabK_small (iv : List (List Int)) (ways : Int) (hw : 1 ≤ ways) (n : Nat) : ∀ d a, a + d = n → 0 ≤ (tabK iv ways n a).1 ∧ (tabK iv ways n a).1 ≤ (iv.length : Int) ∧ (tabK iv ways n a).2.length ≤ n - a := by
  intro d
  induction d using Nat.strongRecOn with
  | ind d ih =>
    intro a ha
    rw [← tabK_at iv ways n a (by omega)]
    exact cpick_small iv ways hw n a (tabK iv ways n) (fun b h1 h2 => ih (n - b) (by omega) b (by omega)) (n - a) (by omega)
end
end Go.Proofs.Ytellojkbfnfacaa.Q
