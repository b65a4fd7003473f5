/- Parts of the proof, laid together: contracts and lemmas; no conditions beyond those written. -/
import Derived.Test.YtdhkcnhmmiigoaaQx0
import Derived.Test.YtdhkcnhmmiigoaaSlast
import Derived.Test.YtdhkcnhmmiigoaaSsets
import Derived.Test.YtdhkcnhmmiigoaaHsetOf
import Derived.Test.YtdhkcnhmmiigoaaSsetldef
import Derived.Test.YtdhkcnhmmiigoaaQx6
namespace Go.Proofs.Ytdhkcnhmmiigoaa.Q
open Go.RowKit Go.Proofs.YtdhkcnhmmiigoaaW.PrintWords Go.Proofs.YtdhkcnhmmiigoaaW.PrintLast Go.Proofs.YtdhkcnhmmiigoaaW.PrintMore
attribute [local go_sem] max2_int min2_int max_two min_two max_three min_three max_four min_four   -- for this text's walks alone
set_option linter.unusedVariables false
set_option linter.unusedSimpArgs false
section
/-- The other addresses of the set of a use since the last use of its address. -/
def othersOf (R U : List Int) (i : Nat) : List Int := (between U i).filter fun x => !(!decide (setVal R (rd U (i : Int)) = setVal R x))
def missAt (R : List Int) (p : Int) (U : List Int) (i : Nat) : Bool := !decide (0 ≤ lu U (rd U (i : Int)) i) || decide (p ≤ ((othersOf R U i).length : Int))
def misN (R : List Int) (p : Int) (U : List Int) : Nat → Nat
  | 0 => 0
  | i + 1 => misN R p U i + if missAt R p U i = true then 1 else 0
theorem misN_le (R : List Int) (p : Int) (U : List Int) (i : Nat) : misN R p U i ≤ i := by
  induction i with
  | zero => simp [misN]
  | succ i ih => unfold misN; split <;> omega
end
section
theorem impl_setOf_f (l : List Int) (h : l.length ≤ 17592186044416) : impl_setOf.f l = some (setL l) := by unfold impl_setOf.f; rw [if_pos h]
end
section
def okAddr (n : Int) : Bool := decide (0 ≤ n) && decide (n ≤ 63)
theorem spec_l02Address_f (n : Int) : spec_l02Address.f n = some (okAddr n) := by
  unfold spec_l02Address.f spec_l00In.f okAddr
  by_cases h : n ≥ 0 <;> simp [h]
theorem okAddr_iff (n : Int) : okAddr n = true ↔ 0 ≤ n ∧ n ≤ 63 := by simp [okAddr]
end
end Go.Proofs.Ytdhkcnhmmiigoaa.Q
