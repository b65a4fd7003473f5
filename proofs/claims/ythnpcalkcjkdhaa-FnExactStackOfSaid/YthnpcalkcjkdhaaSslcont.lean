/- slices.Contains over int64; no conditions beyond those written. -/
import Derived.Test.YthnpcalkcjkdhaaQx0
import Derived.Test.YthnpcalkcjkdhaaQx1
import Derived.Test.YthnpcalkcjkdhaaSbase
import Derived.Test.YthnpcalkcjkdhaaSslidx
namespace Go.Proofs.Ythnpcalkcjkdhaa.Q
open Go.RowKit Go.Proofs.YthnpcalkcjkdhaaW.PrintWords Go.Proofs.YthnpcalkcjkdhaaW.PrintLast Go.Proofs.YthnpcalkcjkdhaaW.PrintMore
attribute [local go_sem] max2_int min2_int max_two min_two max_three min_three max_four min_four   -- for this text's walks alone
set_option linter.unusedVariables false
set_option linter.unusedSimpArgs false

theorem ev_slices_Contains (l : List Int) (a : Int) (h : l.length ≤ 35184372088832) : Ev (fun k => slices_Contains_int64_int64.f k l a) (decide (a ∈ l)) := by
  unfold slices_Contains_int64_int64.f
  refine Ev.bind (ev_slices_Index l a h) (Ev.eq (Ev.now _) ?_)
  by_cases hm : a ∈ l
  · have := List.findIdx_lt_length_of_exists (p := fun x => x == a) ⟨a, hm, by simp⟩
    rw [if_pos this]
    simp [hm]
  · have : ¬ (l.findIdx (fun x => x == a) < l.length) := by
      intro hlt
      have := List.findIdx_getElem (w := hlt)
      simp only [beq_iff_eq] at this
      exact hm (this ▸ List.getElem_mem hlt)
    rw [if_neg this]
    simp [hm]
end Go.Proofs.Ythnpcalkcjkdhaa.Q
