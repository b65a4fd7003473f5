/- Lists in lexicographic order; no conditions. -/
import Derived.Test.YteobbgofbedgdaaQx0
namespace Go.Proofs.Yteobbgofbedgdaa.Q
open Go.RowKit Go.Proofs.YteobbgofbedgdaaW.PrintWords Go.Proofs.YteobbgofbedgdaaW.PrintLast Go.Proofs.YteobbgofbedgdaaW.PrintMore
attribute [local go_sem] max2_int min2_int max_two min_two max_three min_three max_four min_four   -- for this text's walks alone
set_option linter.unusedVariables false
set_option linter.unusedSimpArgs false

def lessB : List Int → List Int → Bool
  | a :: xs, b :: ys => decide (a < b) || (decide (a = b) && lessB xs ys)
  | _, _ => false
theorem lessB_cons (a b : Int) (xs ys : List Int) : lessB (a :: xs) (b :: ys) = (decide (a < b) || (decide (a = b) && lessB xs ys)) := rfl
theorem lessB_cons_iff (a b : Int) (xs ys : List Int) : lessB (a :: xs) (b :: ys) = true ↔ a < b ∨ (a = b ∧ lessB xs ys = true) := by rw [lessB_cons]; simp
theorem lessB_cons_no (a b : Int) (xs ys : List Int) : lessB (a :: xs) (b :: ys) = false ↔ b < a ∨ (a = b ∧ lessB xs ys = false) := by
  rw [lessB_cons]
  by_cases h : a < b
  · simp [h]; omega
  · by_cases e : a = b
    · simp [e]
    · simp [h, e]; omega
theorem less_antisymm : ∀ a b : List Int, a.length = b.length → lessB a b = false → lessB b a = false → a = b
  | [], [], _, _, _ => rfl
  | [], _ :: _, h, _, _ => by simp at h
  | _ :: _, [], h, _, _ => by simp at h
  | a :: xs, b :: ys, h, h1, h2 => by
    rcases (lessB_cons_no _ _ _ _).1 h1 with h3 | ⟨e, h3⟩ <;> rcases (lessB_cons_no _ _ _ _).1 h2 with h4 | ⟨e2, h4⟩
    · omega
    · omega
    · omega
    · rw [e, less_antisymm xs ys (by simpa using h) h3 h4]
/-- 'b is not less than a' in turn. -/
theorem less_trans : ∀ a b c : List Int, a.length = b.length → b.length = c.length → lessB b a = false → lessB c b = false → lessB c a = false
  | [], b, c, _, _, _, _ => by cases c <;> rfl
  | _ :: _, [], _, h, _, _, _ => by simp at h
  | _ :: _, _ :: _, [], _, _, _, _ => rfl
  | a :: xs, b :: ys, c :: cs, h, k, h1, h2 => by
    rw [lessB_cons_no]
    rcases (lessB_cons_no _ _ _ _).1 h1 with h3 | ⟨e, h3⟩ <;> rcases (lessB_cons_no _ _ _ _).1 h2 with h4 | ⟨e2, h4⟩
    · left; omega
    · left; omega
    · left; omega
    · exact .inr ⟨by omega, less_trans xs ys cs (by simpa using h) (by simpa using k) h3 h4⟩
theorem less_asymm : ∀ a b : List Int, lessB a b = true → lessB b a = false
  | [], [], h => by cases h
  | [], _ :: _, h => by cases h
  | _ :: _, [], h => by cases h
  | a :: xs, b :: ys, h => by
    rw [lessB_cons_no]
    rcases (lessB_cons_iff _ _ _ _).1 h with h | ⟨e, h⟩
    · exact .inl h
    · exact .inr ⟨e.symm, less_asymm xs ys h⟩
theorem less_snoc : ∀ (a b : List Int) (x : Int), a.length = b.length → lessB a b = false → lessB (a ++ [x]) (b ++ [x]) = false
  | [], [], x, _, _ => by simp [lessB]
  | [], _ :: _, _, h, _ => by simp at h
  | _ :: _, [], _, h, _ => by simp at h
  | a :: xs, b :: ys, x, h, h1 => by
    rw [List.cons_append, List.cons_append, lessB_cons_no]
    rcases (lessB_cons_no _ _ _ _).1 h1 with h3 | ⟨e, h3⟩
    · exact .inl h3
    · exact .inr ⟨e, less_snoc xs ys x (by simpa using h) h3⟩
end Go.Proofs.Yteobbgofbedgdaa.Q
