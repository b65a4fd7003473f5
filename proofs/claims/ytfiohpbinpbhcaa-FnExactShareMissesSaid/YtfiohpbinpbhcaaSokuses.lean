/- Parts of the proof, laid together: contracts and lemmas; no conditions beyond those written. -/
import Derived.Test.YtfiohpbinpbhcaaQx0
import Derived.Test.YtfiohpbinpbhcaaSsortl
import Derived.Test.YtfiohpbinpbhcaaScurve
import Derived.Test.YtfiohpbinpbhcaaSdist
import Derived.Test.YtfiohpbinpbhcaaHallIn
import Derived.Test.YtfiohpbinpbhcaaQx7
namespace Go.Proofs.Ytfiohpbinpbhcaa.Q
open Go.RowKit Go.Proofs.YtfiohpbinpbhcaaW.PrintWords Go.Proofs.YtfiohpbinpbhcaaW.PrintLast Go.Proofs.YtfiohpbinpbhcaaW.PrintMore
attribute [local go_sem] max2_int min2_int max_two min_two max_three min_three max_four min_four   -- for this text's walks alone
set_option linter.unusedVariables false
set_option linter.unusedSimpArgs false
section
def okUses (l : List Int) : Bool := (l.all okAddr) && decide (l.length ≤ 60)
theorem okUses_iff (l : List Int) : okUses l = true ↔ (∀ x ∈ l, 0 ≤ x ∧ x ≤ 63) ∧ l.length ≤ 60 := by
  simp [okUses, okAddr]
end
section
def okShare (s : Int) : Bool := decide (0 ≤ s) && decide (s ≤ 60)
def shareTo (P : List (List Int)) (S : List Int) : Nat → Int
  | 0 => 0
  | i + 1 => wrap64 (shareTo P S i + rd (crv (dists (rd_L1 P (i : Int))) ((rd S (i : Int)).toNat + 1)) (rd S (i : Int)))
end
section
theorem impl_ValidUses_f (l : List Int) : impl_ValidUses.f l = some (okUses l) := by
  unfold impl_ValidUses.f impl_allIn.f okUses
  by_cases h : l.length ≤ 60
  · rw [if_pos (by omega)]
    show some (l.all okAddr) = some (l.all okAddr && decide (l.length ≤ 60))
    simp [h]
  · rw [if_neg (by omega)]
    simp [h]
end
end Go.Proofs.Ytfiohpbinpbhcaa.Q
