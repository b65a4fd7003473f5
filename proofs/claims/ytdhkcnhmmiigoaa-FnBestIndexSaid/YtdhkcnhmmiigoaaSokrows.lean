/- Parts of the proof, laid together: contracts and lemmas; no conditions beyond those written. -/
import Derived.Test.YtdhkcnhmmiigoaaQx0
import Derived.Test.YtdhkcnhmmiigoaaSlu
import Derived.Test.YtdhkcnhmmiigoaaSred
import Derived.Test.YtdhkcnhmmiigoaaSidxf
import Derived.Test.YtdhkcnhmmiigoaaHallIn
import Derived.Test.YtdhkcnhmmiigoaaQx2
import Derived.Test.YtdhkcnhmmiigoaaQx1
import Derived.Test.YtdhkcnhmmiigoaaSsetval
namespace Go.Proofs.Ytdhkcnhmmiigoaa.Q
open Go.RowKit Go.Proofs.YtdhkcnhmmiigoaaW.PrintWords Go.Proofs.YtdhkcnhmmiigoaaW.PrintLast Go.Proofs.YtdhkcnhmmiigoaaW.PrintMore
attribute [local go_sem] max2_int min2_int max_two min_two max_three min_three max_four min_four   -- for this text's walks alone
set_option linter.unusedVariables false
set_option linter.unusedSimpArgs false
section
def okRows (l : List Int) : Bool := (l.all fun n => decide (0 ≤ n) && decide (n ≤ 63)) && decide (l.length ≤ 3)
theorem okRows_iff (l : List Int) : okRows l = true ↔ (∀ x ∈ l, 0 ≤ x ∧ x ≤ 63) ∧ l.length ≤ 3 := by
  simp [okRows]
end
section
def okUses (l : List Int) : Bool := (l.all okAddr) && decide (l.length ≤ 60)
theorem okUses_iff (l : List Int) : okUses l = true ↔ (∀ x ∈ l, 0 ≤ x ∧ x ≤ 63) ∧ l.length ≤ 60 := by
  simp [okUses, okAddr]
end
section
def rankN (R : List Int) : Nat := (redN (R.map Int.toNat)).length
def aloneN (R : List Int) (p : Int) (U : List Int) : Nat := misN [] (p * 2 ^ rankN R) U U.length
def kindsOf (R : List Int) (p : Int) (U : List Int) : List Int := [((setL U).length : Int), wrap64 ((aloneN R p U : Int) - ((setL U).length : Int)), wrap64 ((misN R p U U.length : Int) - (aloneN R p U : Int))]
theorem okRows_nil : okRows [] = true := by decide
theorem rankN_le (R : List Int) (h : R.length ≤ 3) : rankN R ≤ 3 := by
  have := redN_len (R.map Int.toNat)
  rw [List.length_map] at this
  unfold rankN; omega
theorem shl_rank : ∀ (p : Fin 5) (r : Fin 4), wrap64 ((p.val : Int) * 2 ^ r.val) = (p.val : Int) * 2 ^ r.val := by decide +kernel
theorem shl_rank' {p : Int} {r : Nat} (h0 : 0 ≤ p) (h1 : p ≤ 4) (hr : r ≤ 3) : wrap64 (p * 2 ^ r) = p * 2 ^ r := by
  obtain ⟨n, rfl⟩ : ∃ n : Nat, p = (n : Int) := ⟨p.toNat, by omega⟩
  exact shl_rank ⟨n, by omega⟩ ⟨r, by omega⟩
end
section
theorem impl_ValidIndex_f (l : List Int) : impl_ValidIndex.f l = some (okRows l) := by
  unfold impl_ValidIndex.f impl_allIn.f okRows
  by_cases h : l.length ≤ 3
  · rw [if_pos (by omega)]; simp [h]
  · rw [if_neg (by omega)]; simp [h]
end
section
def isIn (lo hi : Int) (n : Int) : Bool := decide (lo ≤ n) && decide (n ≤ hi)
theorem impl_inRange_f (n lo hi : Int) : impl_inRange.f n lo hi = some (isIn lo hi n) := by
  unfold impl_inRange.f isIn
  by_cases h : lo ≤ n
  · rw [if_pos h]; simp [h]
  · rw [if_neg h]; simp [h]
end
section
theorem one_ok (l : List Int) (hb : Bytes l) (a : Nat) (sd : Int) (n : Nat) (hn : 1 ≤ n) (h2 : n ≤ 200) (ha : a ≤ 1000000000000) :
    ∃ (b : Bool) (a' : Nat) (s : Int), spec_l00Src_one.f l (a : Int) sd (n : Int) = some (b, (a' : Int), s) ∧ a' ≤ a + 1 := by
  unfold spec_l00Src_one.f
  obtain ⟨x, a', s, e, hx, ha'⟩ := pick_ok l hb a sd n hn h2 ha
  rw [e]
  exact ⟨_, a', s, rfl, ha'⟩
end
section
theorem impl_ValidUses_f (l : List Int) : impl_ValidUses.f l = some (okUses l) := by
  unfold impl_ValidUses.f impl_allIn.f okUses
  by_cases h : l.length ≤ 60
  · rw [if_pos (by omega)]
    show some (l.all okAddr) = some (l.all okAddr && decide (l.length ≤ 60))
    simp [h]
  · rw [if_neg (by omega)]
    simp [h]
end
end Go.Proofs.Ytdhkcnhmmiigoaa.Q
