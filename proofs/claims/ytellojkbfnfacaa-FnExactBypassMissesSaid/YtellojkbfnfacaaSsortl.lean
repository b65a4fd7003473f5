/- Parts of the proof, laid together: contracts and lemmas; no conditions beyond those written. -/
import Derived.Test.YtellojkbfnfacaaQx0
import Derived.Test.YtellojkbfnfacaaQx1
import Derived.Test.YtellojkbfnfacaaSbase
import Derived.Test.YtellojkbfnfacaaSslidx
namespace Go.Proofs.Ytellojkbfnfacaa.Q
open Go.RowKit Go.Proofs.YtellojkbfnfacaaW.PrintWords Go.Proofs.YtellojkbfnfacaaW.PrintLast Go.Proofs.YtellojkbfnfacaaW.PrintMore
attribute [local go_sem] max2_int min2_int max_two min_two max_three min_three max_four min_four   -- for this text's walks alone
set_option linter.unusedVariables false
set_option linter.unusedSimpArgs false
section
def sortL (l : List Int) : List Int := l.mergeSort fun x y => decide (x ≤ y)
end
section
def okAddr (n : Int) : Bool := decide (0 ≤ n) && decide (n ≤ 63)
theorem okAddr_iff (n : Int) : okAddr n = true ↔ 0 ≤ n ∧ n ≤ 63 := by simp [okAddr]
end
section
theorem ev_slices_Contains (l : List Int) (a : Int) (h : l.length ≤ 35184372088832) : Ev (fun k => slices_Contains_int64_int64.f k l a) (decide (a ∈ l)) := by
  unfold slices_Contains_int64_int64.f
  refine Ev.bind (ev_slices_Index l a h) (Ev.eq (Ev.now _) ?_)
  by_cases hm : a ∈ l
  · have := List.findIdx_lt_length_of_exists (p := fun x => x == a) ⟨a, hm, by simp⟩
    rw [if_pos this]
    simp [hm]
  · have : ¬ (l.findIdx (fun x => x == a) < l.length) := by
      intro hlt
      have := List.findIdx_getElem (w := hlt)
      simp only [beq_iff_eq] at this
      exact hm (this ▸ List.getElem_mem hlt)
    rw [if_neg this]
    simp [hm]
end
end Go.Proofs.Ytellojkbfnfacaa.Q
