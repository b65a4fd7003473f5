/- Parts of the proof, laid together: contracts and lemmas; no conditions beyond those written. -/
import Derived.Test.YtdhkcnhmmiigoaaQx0
import Derived.Test.YtdhkcnhmmiigoaaQx2
import Derived.Test.YtdhkcnhmmiigoaaSxor
import Derived.Test.YtdhkcnhmmiigoaaHsetOf
import Derived.Test.YtdhkcnhmmiigoaaSheldindex
import Derived.Test.YtdhkcnhmmiigoaaSvalidindex
import Derived.Test.YtdhkcnhmmiigoaaSbidw
import Derived.Test.YtdhkcnhmmiigoaaSred
namespace Go.Proofs.Ytdhkcnhmmiigoaa.Q
open Go.RowKit Go.Proofs.YtdhkcnhmmiigoaaW.PrintWords Go.Proofs.YtdhkcnhmmiigoaaW.PrintLast Go.Proofs.YtdhkcnhmmiigoaaW.PrintMore
attribute [local go_sem] max2_int min2_int max_two min_two max_three min_three max_four min_four   -- for this text's walks alone
set_option linter.unusedVariables false
set_option linter.unusedSimpArgs false
section
theorem spec_l02Address_f (n : Int) : spec_l02Address.f n = some (okAddr n) := by
  unfold spec_l02Address.f spec_l00In.f okAddr
  by_cases h : n ≥ 0 <;> simp [h]
end
section
theorem impl_setOf_f (l : List Int) (h : l.length ≤ 17592186044416) : impl_setOf.f l = some (setL l) := by unfold impl_setOf.f; rw [if_pos h]
end
section
theorem spec_l00In_f (n lo hi : Int) : spec_l00In.f n lo hi = some (isIn lo hi n) := by
  unfold spec_l00In.f isIn
  by_cases h : n ≥ lo
  · rw [if_pos h]; simp [show lo ≤ n from h]
  · rw [if_neg h]; simp; omega
end
section
theorem spec_l06Places_f (n : Int) : spec_l06Places.f n = some (isIn 1 4 n) := by
  unfold spec_l06Places.f
  rw [spec_l00In_f]; rfl
end
section
theorem ev_l02Uses (l : List Int) (h : l.length ≤ 9223372036854775807) : Ev (fun k => spec_l02Uses.f k l) (okUses l) := by
  unfold spec_l02Uses.f
  have key := Ev.down (fun i k => spec_l02Uses.l0 k l (i : Int)) l.length (fun i => (l.drop i).all okAddr && decide (l.length ≤ 60)) ?_ ?_ 0 (Nat.zero_le _)
  · exact Ev.eq key (by simp [okUses])
  · apply Ev.succ
    simp only [spec_l02Uses.l0]
    refine Ev.ite_neg (by omega) (Ev.eq (Ev.now _) ?_)
    simp; omega
  · intro i hi ih
    apply Ev.succ
    simp only [spec_l02Uses.l0]
    refine Ev.ite_pos (by omega) (Ev.ite_pos (by omega) (Ev.cbind (spec_l02Address_f _) ?_))
    rw [drop_rd l i hi, List.all_cons]
    cases ha : okAddr (rd l (i : Int)) with
    | true =>
      refine Ev.ite_pos rfl ?_
      rw [wrap64_succ (by omega)]
      exact Ev.eq ih (by simp)
    | false => exact Ev.ite_neg (by simp) (Ev.eq (Ev.now _) (by simp))
end
section
def rankN (R : List Int) : Nat := (redN (R.map Int.toNat)).length
def aloneN (R : List Int) (p : Int) (U : List Int) : Nat := misN [] (p * 2 ^ rankN R) U U.length
def kindsOf (R : List Int) (p : Int) (U : List Int) : List Int := [((setL U).length : Int), wrap64 ((aloneN R p U : Int) - ((setL U).length : Int)), wrap64 ((misN R p U U.length : Int) - (aloneN R p U : Int))]
theorem okRows_nil : okRows [] = true := by decide
theorem rankN_le (R : List Int) (h : R.length ≤ 3) : rankN R ≤ 3 := by
  have := redN_len (R.map Int.toNat)
  rw [List.length_map] at this
  unfold rankN; omega
theorem shl_rank : ∀ (p : Fin 5) (r : Fin 4), wrap64 ((p.val : Int) * 2 ^ r.val) = (p.val : Int) * 2 ^ r.val := by decide +kernel
theorem shl_rank' {p : Int} {r : Nat} (h0 : 0 ≤ p) (h1 : p ≤ 4) (hr : r ≤ 3) : wrap64 (p * 2 ^ r) = p * 2 ^ r := by
  obtain ⟨n, rfl⟩ : ∃ n : Nat, p = (n : Int) := ⟨p.toNat, by omega⟩
  exact shl_rank ⟨n, by omega⟩ ⟨r, by omega⟩
end
end Go.Proofs.Ytdhkcnhmmiigoaa.Q
