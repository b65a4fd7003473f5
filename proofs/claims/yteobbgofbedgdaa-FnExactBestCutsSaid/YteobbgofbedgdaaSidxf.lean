/- The place of the first element at which a predicate holds; no conditions. -/
import Derived.Test.YteobbgofbedgdaaQx0
namespace Go.Proofs.Yteobbgofbedgdaa.Q
open Go.RowKit Go.Proofs.YteobbgofbedgdaaW.PrintWords Go.Proofs.YteobbgofbedgdaaW.PrintLast Go.Proofs.YteobbgofbedgdaaW.PrintMore
attribute [local go_sem] max2_int min2_int max_two min_two max_three min_three max_four min_four   -- for this text's walks alone
set_option linter.unusedVariables false
set_option linter.unusedSimpArgs false

/-- The place of the first element at which p holds, or -1. -/
def idxF {α : Type} (p : α → Bool) (l : List α) : Int := if l.findIdx p < l.length then (l.findIdx p : Int) else -1
theorem idxF_hit {α : Type} (p : α → Bool) (l : List α) (k : Nat) (hk : k < l.length) (h : p l[k] = true) (hb : ∀ j, (hj : j < k) → p (l[j]'(by omega)) = false) : idxF p l = k := by
  have e : l.findIdx p = k := (List.findIdx_eq hk).2 ⟨h, fun j hj => hb j hj⟩
  unfold idxF
  rw [e, if_pos hk]
theorem idxF_miss {α : Type} (p : α → Bool) (l : List α) (hb : ∀ j, (hj : j < l.length) → p (l[j]) = false) : idxF p l = -1 := by
  unfold idxF
  rw [if_neg]
  intro hlt
  have := hb _ hlt
  rw [List.findIdx_getElem (w := hlt)] at this
  simp at this
theorem idxF_nonneg {α : Type} (p : α → Bool) (l : List α) : decide (idxF p l ≥ 0) = l.any p := by
  rw [Bool.eq_iff_iff, decide_eq_true_iff, List.any_eq_true]
  unfold idxF
  constructor
  · intro h
    by_cases hlt : l.findIdx p < l.length
    · exact ⟨_, List.getElem_mem hlt, List.findIdx_getElem (w := hlt)⟩
    · rw [if_neg hlt] at h; omega
  · rintro ⟨x, hx, hp⟩
    rw [if_pos (List.findIdx_lt_length_of_exists ⟨x, hx, hp⟩)]
    omega
end Go.Proofs.Yteobbgofbedgdaa.Q
