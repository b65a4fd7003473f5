/- Parts of the proof, laid together: contracts and lemmas; no conditions beyond those written. -/
import Derived.Test.YtfiohpbinpbhcaaQx0
namespace Go.Proofs.Ytfiohpbinpbhcaa.Q
open Go.RowKit Go.Proofs.YtfiohpbinpbhcaaW.PrintWords Go.Proofs.YtfiohpbinpbhcaaW.PrintLast Go.Proofs.YtfiohpbinpbhcaaW.PrintMore
attribute [local go_sem] max2_int min2_int max_two min_two max_three min_three max_four min_four   -- for this text's walks alone
set_option linter.unusedVariables false
set_option linter.unusedSimpArgs false
section
def sortL (l : List Int) : List Int := l.mergeSort fun x y => decide (x ≤ y)
end
section
def okAddr (n : Int) : Bool := decide (0 ≤ n) && decide (n ≤ 63)
theorem okAddr_iff (n : Int) : okAddr n = true ↔ 0 ≤ n ∧ n ≤ 63 := by simp [okAddr]
end
section
/-- The place of the first element at which p holds, or -1. -/
def idxF {α : Type} (p : α → Bool) (l : List α) : Int := if l.findIdx p < l.length then (l.findIdx p : Int) else -1
theorem idxF_hit {α : Type} (p : α → Bool) (l : List α) (k : Nat) (hk : k < l.length) (h : p l[k] = true) (hb : ∀ j, (hj : j < k) → p (l[j]'(by omega)) = false) : idxF p l = k := by
  have e : l.findIdx p = k := (List.findIdx_eq hk).2 ⟨h, fun j hj => hb j hj⟩
  unfold idxF
  rw [e, if_pos hk]
theorem idxF_miss {α : Type} (p : α → Bool) (l : List α) (hb : ∀ j, (hj : j < l.length) → p (l[j]) = false) : idxF p l = -1 := by
  unfold idxF
  rw [if_neg]
  intro hlt
  have := hb _ hlt
  rw [List.findIdx_getElem (w := hlt)] at this
  simp at this
theorem idxF_nonneg {α : Type} (p : α → Bool) (l : List α) : decide (idxF p l ≥ 0) = l.any p := by
  rw [Bool.eq_iff_iff, decide_eq_true_iff, List.any_eq_true]
  unfold idxF
  constructor
  · intro h
    by_cases hlt : l.findIdx p < l.length
    · exact ⟨_, List.getElem_mem hlt, List.findIdx_getElem (w := hlt)⟩
    · rw [if_neg hlt] at h; omega
  · rintro ⟨x, hx, hp⟩
    rw [if_pos (List.findIdx_lt_length_of_exists ⟨x, hx, hp⟩)]
    omega
end
section
def lessB : List Int → List Int → Bool
  | a :: xs, b :: ys => decide (a < b) || (decide (a = b) && lessB xs ys)
  | _, _ => false
theorem lessB_cons (a b : Int) (xs ys : List Int) : lessB (a :: xs) (b :: ys) = (decide (a < b) || (decide (a = b) && lessB xs ys)) := rfl
theorem lessB_cons_iff (a b : Int) (xs ys : List Int) : lessB (a :: xs) (b :: ys) = true ↔ a < b ∨ (a = b ∧ lessB xs ys = true) := by rw [lessB_cons]; simp
theorem lessB_cons_no (a b : Int) (xs ys : List Int) : lessB (a :: xs) (b :: ys) = false ↔ b < a ∨ (a = b ∧ lessB xs ys = false) := by
  rw [lessB_cons]
  by_cases h : a < b
  · simp [h]; omega
  · by_cases e : a = b
    · simp [e]
    · simp [h, e]; omega
theorem less_antisymm : ∀ a b : List Int, a.length = b.length → lessB a b = false → lessB b a = false → a = b
  | [], [], _, _, _ => rfl
  | [], _ :: _, h, _, _ => by simp at h
  | _ :: _, [], h, _, _ => by simp at h
  | a :: xs, b :: ys, h, h1, h2 => by
    rcases (lessB_cons_no _ _ _ _).1 h1 with h3 | ⟨e, h3⟩ <;> rcases (lessB_cons_no _ _ _ _).1 h2 with h4 | ⟨e2, h4⟩
    · omega
    · omega
    · omega
    · rw [e, less_antisymm xs ys (by simpa using h) h3 h4]
/-- 'b is not less than a' in turn. -/
theorem less_trans : ∀ a b c : List Int, a.length = b.length → b.length = c.length → lessB b a = false → lessB c b = false → lessB c a = false
  | [], b, c, _, _, _, _ => by cases c <;> rfl
  | _ :: _, [], _, h, _, _, _ => by simp at h
  | _ :: _, _ :: _, [], _, _, _, _ => rfl
  | a :: xs, b :: ys, c :: cs, h, k, h1, h2 => by
    rw [lessB_cons_no]
    rcases (lessB_cons_no _ _ _ _).1 h1 with h3 | ⟨e, h3⟩ <;> rcases (lessB_cons_no _ _ _ _).1 h2 with h4 | ⟨e2, h4⟩
    · left; omega
    · left; omega
    · left; omega
    · exact .inr ⟨by omega, less_trans xs ys cs (by simpa using h) (by simpa using k) h3 h4⟩
theorem less_asymm : ∀ a b : List Int, lessB a b = true → lessB b a = false
  | [], [], h => by cases h
  | [], _ :: _, h => by cases h
  | _ :: _, [], h => by cases h
  | a :: xs, b :: ys, h => by
    rw [lessB_cons_no]
    rcases (lessB_cons_iff _ _ _ _).1 h with h | ⟨e, h⟩
    · exact .inl h
    · exact .inr ⟨e.symm, less_asymm xs ys h⟩
theorem less_snoc : ∀ (a b : List Int) (x : Int), a.length = b.length → lessB a b = false → lessB (a ++ [x]) (b ++ [x]) = false
  | [], [], x, _, _ => by simp [lessB]
  | [], _ :: _, _, h, _ => by simp at h
  | _ :: _, [], _, h, _ => by simp at h
  | a :: xs, b :: ys, x, h, h1 => by
    rw [List.cons_append, List.cons_append, lessB_cons_no]
    rcases (lessB_cons_no _ _ _ _).1 h1 with h3 | ⟨e, h3⟩
    · exact .inl h3
    · exact .inr ⟨e, less_snoc xs ys x (by simpa using h) h3⟩
end
end Go.Proofs.Ytfiohpbinpbhcaa.Q
