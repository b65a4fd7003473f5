/- Parts of the proof, laid together: contracts and lemmas; no conditions beyond those written. -/
import Derived.Test.YtdhkcnhmmiigoaaQx0
import Derived.Test.YtdhkcnhmmiigoaaQx1
import Derived.Test.YtdhkcnhmmiigoaaQx6
namespace Go.Proofs.Ytdhkcnhmmiigoaa.Q
open Go.RowKit Go.Proofs.YtdhkcnhmmiigoaaW.PrintWords Go.Proofs.YtdhkcnhmmiigoaaW.PrintLast Go.Proofs.YtdhkcnhmmiigoaaW.PrintMore
attribute [local go_sem] max2_int min2_int max_two min_two max_three min_three max_four min_four   -- for this text's walks alone
set_option linter.unusedVariables false
set_option linter.unusedSimpArgs false
section
def isIn (lo hi : Int) (n : Int) : Bool := decide (lo ≤ n) && decide (n ≤ hi)
theorem spec_l00In_f (n lo hi : Int) : spec_l00In.f n lo hi = some (isIn lo hi n) := by
  unfold spec_l00In.f isIn
  by_cases h : n ≥ lo
  · rw [if_pos h]; simp [show lo ≤ n from h]
  · rw [if_neg h]; simp; omega
theorem impl_inRange_f (n lo hi : Int) : impl_inRange.f n lo hi = some (isIn lo hi n) := by
  unfold impl_inRange.f isIn
  by_cases h : lo ≤ n
  · rw [if_pos h]; simp [h]
  · rw [if_neg h]; simp [h]
end
section
def sortL (l : List Int) : List Int := l.mergeSort fun x y => decide (x ≤ y)
end
section
theorem spec_l06Places_f (n : Int) : spec_l06Places.f n = some (isIn 1 4 n) := by
  unfold spec_l06Places.f
  rw [spec_l00In_f]; rfl
end
end Go.Proofs.Ytdhkcnhmmiigoaa.Q
