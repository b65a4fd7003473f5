/- Sorted numbers; no conditions beyond those written. -/
import Derived.Test.YthaipkhgemachaaQx0
import Derived.Test.YthaipkhgemachaaSsortl
import Derived.Test.YthaipkhgemachaaSupto
namespace Go.Proofs.Ythaipkhgemachaa.Q
open Go.RowKit Go.Proofs.YthaipkhgemachaaW.PrintWords Go.Proofs.YthaipkhgemachaaW.PrintLast Go.Proofs.YthaipkhgemachaaW.PrintMore
attribute [local go_sem] max2_int min2_int max_two min_two max_three min_three max_four min_four   -- for this text's walks alone
set_option linter.unusedVariables false
set_option linter.unusedSimpArgs false

theorem sorted_sortL (l : List Int) : (sortL l).Pairwise (· ≤ ·) := by
  have h := List.pairwise_mergeSort (le := fun (x y : Int) => decide (x ≤ y)) (fun a b c h1 h2 => by simp at *; omega) (fun a b => by simp; omega) l
  exact h.imp (fun h => by simpa using h)
theorem perm_sortL (l : List Int) : (sortL l).Perm l := List.mergeSort_perm _ _
theorem rise_at {s : List Int} (h : s.Pairwise (· < ·)) : ∀ (d i : Nat) (hj : i + d < s.length), s[i] + (d : Int) ≤ s[i + d]
  | 0, i, hj => by simp
  | d + 1, i, hj => by
    have h1 := rise_at h d i (by omega)
    have h2 : s[i + d] < s[i + (d + 1)] := List.pairwise_iff_getElem.1 h (i + d) (i + (d + 1)) (by omega) hj (by omega)
    omega
theorem upto_getElem (n i : Nat) (h : i < (upto (fun j => (j : Int)) n).length) : (upto (fun j => (j : Int)) n)[i] = (i : Int) := by
  simp [upto]
end Go.Proofs.Ythaipkhgemachaa.Q
