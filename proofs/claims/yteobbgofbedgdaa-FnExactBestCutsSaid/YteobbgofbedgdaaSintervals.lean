/- The next use of an address, and the intervals; no conditions beyond those written. -/
import Derived.Test.YteobbgofbedgdaaQx0
import Derived.Test.YteobbgofbedgdaaQx2
import Derived.Test.YteobbgofbedgdaaSbase
import Derived.Test.YteobbgofbedgdaaSslidx
namespace Go.Proofs.Yteobbgofbedgdaa.Q
open Go.RowKit Go.Proofs.YteobbgofbedgdaaW.PrintWords Go.Proofs.YteobbgofbedgdaaW.PrintLast Go.Proofs.YteobbgofbedgdaaW.PrintMore
attribute [local go_sem] max2_int min2_int max_two min_two max_three min_three max_four min_four   -- for this text's walks alone
set_option linter.unusedVariables false
set_option linter.unusedSimpArgs false

/-- The first use of a from an index on; the length if there is none. -/
def nx (l : List Int) (a : Int) (i : Nat) : Nat := i + (l.drop i).findIdx (fun x => x == a)
theorem nx_le (l : List Int) (a : Int) (i : Nat) (h : i ≤ l.length) : nx l a i ≤ l.length := by
  have := List.findIdx_le_length (p := fun x => x == a) (xs := l.drop i)
  rw [List.length_drop] at this
  unfold nx; omega
theorem nx_lt_iff (l : List Int) (a : Int) (i : Nat) (h : i ≤ l.length) : nx l a i < l.length ↔ (l.drop i).findIdx (fun x => x == a) < (l.drop i).length := by
  unfold nx
  rw [List.length_drop]; omega
theorem ev_nextUse (l : List Int) (a : Int) (i : Nat) (h : l.length ≤ 35184372088832) (hi : i ≤ l.length) : Ev (fun k => impl_nextUse.f k l a (i : Int)) (if nx l a i < l.length then (nx l a i : Int) else -1) := by
  unfold impl_nextUse.f
  refine Ev.ite_pos (by omega) (Ev.ite_pos (by omega) ?_)
  rw [Int.toNat_natCast]
  refine Ev.bind (ev_slices_Index (l.drop i) a (by rw [List.length_drop]; omega)) ?_
  have e := nx_lt_iff l a i hi
  have hle := nx_le l a i hi
  by_cases hlt : nx l a i < l.length
  · rw [if_pos (e.1 hlt), if_pos hlt]
    refine Ev.ite_neg (by omega) (Ev.eq (Ev.now _) ?_)
    rw [wrap64_id (by omega) (by unfold nx at hle; omega)]
    unfold nx; omega
  · rw [if_neg (fun q => hlt (e.2 q)), if_neg hlt]
    exact Ev.ite_pos (by omega) (Ev.now _)
/-- The intervals that begin before a use. -/
def ivsTo (l : List Int) (n : Nat) : List (List Int) := (List.range n).filterMap fun (i : Nat) => if nx l (rd l (i : Int)) (i + 1) < l.length then some [(i : Int), (nx l (rd l (i : Int)) (i + 1) : Int)] else none
def ivs (l : List Int) : List (List Int) := ivsTo l l.length
theorem ivsTo_length (l : List Int) (n : Nat) : (ivsTo l n).length ≤ n := by
  have := List.length_filterMap_le (fun (i : Nat) => if nx l (rd l (i : Int)) (i + 1) < l.length then some [(i : Int), (nx l (rd l (i : Int)) (i + 1) : Int)] else none) (List.range n)
  simpa [ivsTo] using this
theorem ivsTo_succ (l : List Int) (n : Nat) : ivsTo l (n + 1) = ivsTo l n ++ (if nx l (rd l (n : Int)) (n + 1) < l.length then [[(n : Int), (nx l (rd l (n : Int)) (n + 1) : Int)]] else []) := by
  unfold ivsTo
  rw [List.range_succ, List.filterMap_append]
  congr 1
  by_cases h : nx l (rd l (n : Int)) (n + 1) < l.length <;> simp [h]
theorem ivs_mem {l : List Int} {x : List Int} (h : x ∈ ivs l) : ∃ i j : Nat, x = [(i : Int), (j : Int)] ∧ i < j ∧ j < l.length := by
  unfold ivs ivsTo at h
  obtain ⟨i, hi, hx⟩ := List.mem_filterMap.1 h
  by_cases hlt : nx l (rd l (i : Int)) (i + 1) < l.length
  · rw [if_pos hlt] at hx
    exact ⟨i, _, (Option.some.inj hx).symm, by unfold nx; omega, hlt⟩
  · rw [if_neg hlt] at hx; cases hx
end Go.Proofs.Yteobbgofbedgdaa.Q
