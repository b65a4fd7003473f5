/- Ranks; no conditions beyond those written. -/
import Derived.Test.YteobbgofbedgdaaQx0
import Derived.Test.YteobbgofbedgdaaHisOrderOf
import Derived.Test.YteobbgofbedgdaaQx2
import Derived.Test.YteobbgofbedgdaaSown
namespace Go.Proofs.Yteobbgofbedgdaa.Q
open Go.RowKit Go.Proofs.YteobbgofbedgdaaW.PrintWords Go.Proofs.YteobbgofbedgdaaW.PrintLast Go.Proofs.YteobbgofbedgdaaW.PrintMore
attribute [local go_sem] max2_int min2_int max_two min_two max_three min_three max_four min_four   -- for this text's walks alone
set_option linter.unusedVariables false
set_option linter.unusedSimpArgs false

def okRanks (l : List Int) : Bool := decide (l.length = 64) && decide (sortL l = upto (fun j => (j : Int)) 64)
theorem impl_ValidRanks_f (l : List Int) : impl_ValidRanks.f l = some (okRanks l) := by
  unfold impl_ValidRanks.f impl_isOrderOf.f okRanks
  by_cases h : l.length = 64
  · rw [if_pos (by omega), if_pos (by omega), h]; simp
  · rw [if_neg (by omega)]; simp [h]
def rk (t : List Int) : List Int → Bool
  | [] => true
  | x :: xs => okAddr x && (!decide (x ∈ t) && rk (t ++ [x]) xs)
theorem rk_iff : ∀ (l t : List Int), rk t l = true ↔ (∀ x ∈ l, 0 ≤ x ∧ x ≤ 63) ∧ l.Nodup ∧ ∀ x ∈ l, x ∉ t
  | [], t => by simp [rk]
  | y :: ys, t => by
    have ih := rk_iff ys (t ++ [y])
    simp only [rk, Bool.and_eq_true, ih, Bool.not_eq_true', decide_eq_false_iff_not, List.nodup_cons, List.mem_cons, List.mem_append, List.not_mem_nil, or_false]
    constructor
    · rintro ⟨h1, h2, h3, h4, h5⟩
      refine ⟨?_, ⟨?_, h4⟩, ?_⟩
      · rintro x (rfl | hx)
        · simpa [okAddr] using h1
        · exact h3 x hx
      · intro hy; exact h5 y hy (.inr rfl)
      · rintro x (rfl | hx)
        · exact h2
        · exact fun hh => h5 x hx (.inl hh)
    · rintro ⟨h1, ⟨h2, h3⟩, h4⟩
      refine ⟨by have := h1 y (.inl rfl); simpa [okAddr] using this, h4 y (.inl rfl), fun x hx => h1 x (.inr hx), h3, ?_⟩
      rintro x hx (hh | rfl)
      · exact h4 x (.inr hx) hh
      · exact h2 hx
theorem sorted_sortL (l : List Int) : (sortL l).Pairwise (· ≤ ·) := by
  have h := List.pairwise_mergeSort (le := fun (x y : Int) => decide (x ≤ y)) (fun a b c h1 h2 => by simp at *; omega) (fun a b => by simp; omega) l
  exact h.imp (fun h => by simpa using h)
theorem perm_sortL (l : List Int) : (sortL l).Perm l := List.mergeSort_perm _ _
theorem rise_at {s : List Int} (h : s.Pairwise (· < ·)) : ∀ (d i : Nat) (hj : i + d < s.length), s[i] + (d : Int) ≤ s[i + d]
  | 0, i, hj => by simp
  | d + 1, i, hj => by
    have h1 := rise_at h d i (by omega)
    have h2 : s[i + d] < s[i + (d + 1)] := List.pairwise_iff_getElem.1 h (i + d) (i + (d + 1)) (by omega) hj (by omega)
    omega
theorem upto_getElem (n i : Nat) (h : i < (upto (fun j => (j : Int)) n).length) : (upto (fun j => (j : Int)) n)[i] = (i : Int) := by
  simp [upto]
theorem okRanks_iff (l : List Int) : okRanks l = true ↔ (rk [] l = true ∧ l.length = 64) := by
  unfold okRanks
  rw [Bool.and_eq_true, decide_eq_true_iff, decide_eq_true_iff, rk_iff]
  have hp := perm_sortL l
  constructor
  · rintro ⟨h1, h2⟩
    rw [h2] at hp
    refine ⟨⟨?_, ?_, by simp⟩, h1⟩
    · intro x hx
      have := hp.mem_iff.2 hx
      unfold upto at this
      obtain ⟨j, hj, rfl⟩ := List.mem_map.1 this
      have := List.mem_range.1 hj
      omega
    · refine hp.nodup_iff.1 ?_
      rw [List.nodup_iff_pairwise_ne]
      rw [List.pairwise_iff_getElem]
      intro i j hi hj hij
      rw [upto_getElem, upto_getElem]; omega
  · rintro ⟨⟨h1, h2, _⟩, h3⟩
    refine ⟨h3, ?_⟩
    have hlen : (sortL l).length = 64 := by rw [hp.length_eq]; exact h3
    have hnd : (sortL l).Nodup := hp.nodup_iff.2 h2
    have hs : (sortL l).Pairwise (· < ·) := by
      rw [List.pairwise_iff_getElem]
      intro i j hi hj hij
      have a := List.pairwise_iff_getElem.1 (sorted_sortL l) i j hi hj hij
      have b := List.pairwise_iff_getElem.1 (List.nodup_iff_pairwise_ne.1 hnd) i j hi hj hij
      omega
    apply List.ext_getElem
    · rw [hlen, upto_length]
    · intro i hi hj
      rw [upto_getElem]
      have a := rise_at hs i 0 (by omega)
      have b := rise_at hs (63 - i) i (by omega)
      have e1 : 0 + i = i := by omega
      have e2 : i + (63 - i) = 63 := by omega
      simp only [e1] at a
      simp only [e2] at b
      have c := h1 _ (hp.mem_iff.1 (List.getElem_mem (l := sortL l) (n := 0) (by omega)))
      have d := h1 _ (hp.mem_iff.1 (List.getElem_mem (l := sortL l) (n := 63) (by omega)))
      omega
theorem okRanks_length {l : List Int} (h : okRanks l = true) : l.length = 64 := ((okRanks_iff l).1 h).2
end Go.Proofs.Yteobbgofbedgdaa.Q
