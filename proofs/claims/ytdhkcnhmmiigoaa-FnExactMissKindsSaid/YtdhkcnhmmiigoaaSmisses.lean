/- Parts of the proof, laid together: contracts and lemmas; no conditions beyond those written. -/
import Derived.Test.YtdhkcnhmmiigoaaQx0
import Derived.Test.YtdhkcnhmmiigoaaSlast
import Derived.Test.YtdhkcnhmmiigoaaSl00put
import Derived.Test.YtdhkcnhmmiigoaaQx6
import Derived.Test.YtdhkcnhmmiigoaaSbase
import Derived.Test.YtdhkcnhmmiigoaaSred
import Derived.Test.YtdhkcnhmmiigoaaSspans
import Derived.Test.YtdhkcnhmmiigoaaQx7
import Derived.Test.YtdhkcnhmmiigoaaSxor
import Derived.Test.YtdhkcnhmmiigoaaSaddr
import Derived.Test.YtdhkcnhmmiigoaaSvalidindex
namespace Go.Proofs.Ytdhkcnhmmiigoaa.Q
open Go.RowKit Go.Proofs.YtdhkcnhmmiigoaaW.PrintWords Go.Proofs.YtdhkcnhmmiigoaaW.PrintLast Go.Proofs.YtdhkcnhmmiigoaaW.PrintMore
attribute [local go_sem] max2_int min2_int max_two min_two max_three min_three max_four min_four   -- for this text's walks alone
set_option linter.unusedVariables false
set_option linter.unusedSimpArgs false
section
/-- The other addresses of the set of a use since the last use of its address. -/
def othersOf (R U : List Int) (i : Nat) : List Int := (between U i).filter fun x => !(!decide (setVal R (rd U (i : Int)) = setVal R x))
def missAt (R : List Int) (p : Int) (U : List Int) (i : Nat) : Bool := !decide (0 ≤ lu U (rd U (i : Int)) i) || decide (p ≤ ((othersOf R U i).length : Int))
def misN (R : List Int) (p : Int) (U : List Int) : Nat → Nat
  | 0 => 0
  | i + 1 => misN R p U i + if missAt R p U i = true then 1 else 0
theorem misN_le (R : List Int) (p : Int) (U : List Int) (i : Nat) : misN R p U i ≤ i := by
  induction i with
  | zero => simp [misN]
  | succ i ih => unfold misN; split <;> omega
end
section
theorem rank_small : ∀ n : Fin 4, spec_l06Rank.l0 8 0 ((2 ^ n.val : Nat) : Int) = some (n.val : Int) := by decide +kernel
theorem ev_l06Rank (rows : List Int) (hl : rows.length ≤ 3) (hr : ∀ x ∈ rows, 0 ≤ x ∧ x ≤ 63) : Ev (fun k => spec_l06Rank.f k rows) ((redN (rows.map Int.toNat)).length : Int) := by
  unfold spec_l06Rank.f
  have hlen := redN_len (rows.map Int.toNat)
  rw [List.length_map] at hlen
  refine Ev.bind (Ev.eq (ev_spec_span rows hl hr) (setL_congr (fun x => (sp_mem rows rows.length x).symm))) ?_
  rw [(red_all rows hl hr).2]
  exact Ev.of (g := fun k => spec_l06Rank.l0 k 0 _) (fun k => spec_l06Rank.mono_l k _ _) (rank_small ⟨(redN (rows.map Int.toNat)).length, by omega⟩)
end
section
def again (l : List Int) (i : Nat) : Bool := decide (0 ≤ lu l (rd l (i : Int)) i)
theorem ev_l06Since (l : List Int) (i : Nat) (hi : i < l.length) (h : l.length ≤ 1000000000) : Ev (fun k => spec_l06Since.f k l (i : Int)) (if again l i = true then (between l i, true) else ([], false)) := by
  unfold spec_l06Since.f again
  have hr := lu_range l (rd l (i : Int)) i
  refine Ev.ite_pos (by omega) (Ev.ite_pos (by omega) (Ev.bind (ev_l02Last l _ i (by omega) (by omega)) ?_))
  by_cases h0 : 0 ≤ lu l (rd l (i : Int)) i
  · rw [if_pos (by simpa using h0), wrap64_id (by omega) (by omega)]
    refine Ev.ite_neg (by omega) (Ev.ite_pos (by omega) (Ev.ite_pos (by omega) (Ev.ite_pos (by omega) (Ev.bind (ev_l02Set _ ?_) (Ev.eq (Ev.now _) ?_)))))
    · rw [List.length_drop, List.length_take]; omega
    · rw [Int.toNat_natCast]; rfl
  · rw [if_neg (by simpa using h0)]
    exact Ev.ite_pos (by omega) (Ev.now _)
end
section
def rankN (R : List Int) : Nat := (redN (R.map Int.toNat)).length
def aloneN (R : List Int) (p : Int) (U : List Int) : Nat := misN [] (p * 2 ^ rankN R) U U.length
def kindsOf (R : List Int) (p : Int) (U : List Int) : List Int := [((setL U).length : Int), wrap64 ((aloneN R p U : Int) - ((setL U).length : Int)), wrap64 ((misN R p U U.length : Int) - (aloneN R p U : Int))]
theorem okRows_nil : okRows [] = true := by decide
theorem rankN_le (R : List Int) (h : R.length ≤ 3) : rankN R ≤ 3 := by
  have := redN_len (R.map Int.toNat)
  rw [List.length_map] at this
  unfold rankN; omega
theorem shl_rank : ∀ (p : Fin 5) (r : Fin 4), wrap64 ((p.val : Int) * 2 ^ r.val) = (p.val : Int) * 2 ^ r.val := by decide +kernel
theorem shl_rank' {p : Int} {r : Nat} (h0 : 0 ≤ p) (h1 : p ≤ 4) (hr : r ≤ 3) : wrap64 (p * 2 ^ r) = p * 2 ^ r := by
  obtain ⟨n, rfl⟩ : ∃ n : Nat, p = (n : Int) := ⟨p.toNat, by omega⟩
  exact shl_rank ⟨n, by omega⟩ ⟨r, by omega⟩
end
end Go.Proofs.Ytdhkcnhmmiigoaa.Q
