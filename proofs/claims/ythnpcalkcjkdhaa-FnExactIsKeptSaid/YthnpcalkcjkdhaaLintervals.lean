/- The next use of an address, and the intervals; no conditions beyond those written. -/
import Derived.Test.YthnpcalkcjkdhaaQx0
import Derived.Test.YthnpcalkcjkdhaaLuses
import Derived.Test.YthnpcalkcjkdhaaQx7
import Derived.Test.YthnpcalkcjkdhaaQx8
import Derived.Test.YthnpcalkcjkdhaaSbase
namespace Go.Proofs.Ythnpcalkcjkdhaa.Q
open Go.RowKit Go.Proofs.YthnpcalkcjkdhaaW.PrintWords Go.Proofs.YthnpcalkcjkdhaaW.PrintLast Go.Proofs.YthnpcalkcjkdhaaW.PrintMore
attribute [local go_sem] max2_int min2_int max_two min_two max_three min_three max_four min_four   -- for this text's walks alone
set_option linter.unusedVariables false
set_option linter.unusedSimpArgs false

/-- The first use of a from an index on; the length if there is none. -/
def nx (l : List Int) (a : Int) (i : Nat) : Nat := i + (l.drop i).findIdx (fun x => x == a)
theorem nx_le (l : List Int) (a : Int) (i : Nat) (h : i ≤ l.length) : nx l a i ≤ l.length := by
  have := List.findIdx_le_length (p := fun x => x == a) (xs := l.drop i)
  rw [List.length_drop] at this
  unfold nx; omega
theorem nx_lt_iff (l : List Int) (a : Int) (i : Nat) (h : i ≤ l.length) : nx l a i < l.length ↔ (l.drop i).findIdx (fun x => x == a) < (l.drop i).length := by
  unfold nx
  rw [List.length_drop]; omega
theorem ev_nextUse (l : List Int) (a : Int) (i : Nat) (h : l.length ≤ 35184372088832) (hi : i ≤ l.length) : Ev (fun k => impl_nextUse.f k l a (i : Int)) (if nx l a i < l.length then (nx l a i : Int) else -1) := by
  unfold impl_nextUse.f
  refine Ev.ite_pos (by omega) (Ev.ite_pos (by omega) ?_)
  rw [Int.toNat_natCast]
  refine Ev.bind (ev_slices_Index (l.drop i) a (by rw [List.length_drop]; omega)) ?_
  have e := nx_lt_iff l a i hi
  have hle := nx_le l a i hi
  by_cases hlt : nx l a i < l.length
  · rw [if_pos (e.1 hlt), if_pos hlt]
    refine Ev.ite_neg (by omega) (Ev.eq (Ev.now _) ?_)
    rw [wrap64_id (by omega) (by unfold nx at hle; omega)]
    unfold nx; omega
  · rw [if_neg (fun q => hlt (e.2 q)), if_neg hlt]
    exact Ev.ite_pos (by omega) (Ev.now _)
/-- The intervals that begin before a use. -/
def ivsTo (l : List Int) (n : Nat) : List (List Int) := (List.range n).filterMap fun (i : Nat) => if nx l (rd l (i : Int)) (i + 1) < l.length then some [(i : Int), (nx l (rd l (i : Int)) (i + 1) : Int)] else none
def ivs (l : List Int) : List (List Int) := ivsTo l l.length
theorem ivsTo_length (l : List Int) (n : Nat) : (ivsTo l n).length ≤ n := by
  have := List.length_filterMap_le (fun (i : Nat) => if nx l (rd l (i : Int)) (i + 1) < l.length then some [(i : Int), (nx l (rd l (i : Int)) (i + 1) : Int)] else none) (List.range n)
  simpa [ivsTo] using this
theorem ivsTo_succ (l : List Int) (n : Nat) : ivsTo l (n + 1) = ivsTo l n ++ (if nx l (rd l (n : Int)) (n + 1) < l.length then [[(n : Int), (nx l (rd l (n : Int)) (n + 1) : Int)]] else []) := by
  unfold ivsTo
  rw [List.range_succ, List.filterMap_append]
  congr 1
  by_cases h : nx l (rd l (n : Int)) (n + 1) < l.length <;> simp [h]
theorem ivs_mem {l : List Int} {x : List Int} (h : x ∈ ivs l) : ∃ i j : Nat, x = [(i : Int), (j : Int)] ∧ i < j ∧ j < l.length := by
  unfold ivs ivsTo at h
  obtain ⟨i, hi, hx⟩ := List.mem_filterMap.1 h
  by_cases hlt : nx l (rd l (i : Int)) (i + 1) < l.length
  · rw [if_pos hlt] at hx
    exact ⟨i, _, (Option.some.inj hx).symm, by unfold nx; omega, hlt⟩
  · rw [if_neg hlt] at hx; cases hx
theorem ev_intervalsOf (l : List Int) (h : l.length ≤ 5864062014804) : Ev (fun k => impl_intervalsOf.f k l) (ivs l) := by
  unfold impl_intervalsOf.f
  refine Ev.up (fun i k => impl_intervalsOf.l0 k l (ivsTo l i) l (l.length : Int) (i : Int)) l.length (ivs l) ?_ ?_
  · apply Ev.succ
    simp only [impl_intervalsOf.l0]
    exact Ev.ite_neg (by omega) (Ev.now _)
  · intro i hi ih
    apply Ev.succ
    simp only [impl_intervalsOf.l0]
    have hlen := ivsTo_length l i
    refine Ev.ite_pos (by omega) (Ev.ite_pos (by omega) (Ev.ite_pos (by omega) ?_))
    rw [wrap64_succ (by omega)]
    refine Ev.bind (ev_nextUse l _ (i + 1) (by omega) (by omega)) ?_
    have e := ivsTo_succ l i
    by_cases hlt : nx l (rd l (i : Int)) (i + 1) < l.length
    · rw [if_pos hlt] at e ⊢
      refine Ev.ite_pos (by omega) (Ev.ite_pos (by omega) ?_)
      rw [← e]; exact ih
    · rw [if_neg hlt] at e ⊢
      refine Ev.ite_neg (by omega) ?_
      rw [List.append_nil] at e
      rw [← e]; exact ih
theorem ev_l05Next (l : List Int) (a : Int) (i : Nat) (h : l.length ≤ 35184372088832) (hi : i + 1 ≤ l.length) : Ev (fun k => spec_l05Next.f k l (i : Int) a) (if nx l a (i + 1) < l.length then (nx l a (i + 1) : Int) else 60) := by
  unfold spec_l05Next.f
  rw [wrap64_succ (by omega)]
  refine Ev.down (fun i k => spec_l05Next.l0 k l a (i : Int)) l.length (fun i => if nx l a i < l.length then (nx l a i : Int) else 60) ?_ ?_ (i + 1) hi
  · apply Ev.succ
    simp only [spec_l05Next.l0]
    refine Ev.ite_neg (by omega) (Ev.eq (Ev.now _) ?_)
    rw [if_neg (by unfold nx; omega)]
  · intro i hi ih
    apply Ev.succ
    simp only [spec_l05Next.l0]
    refine Ev.ite_pos (by omega) (Ev.ite_pos (by omega) ?_)
    by_cases hx : rd l (i : Int) = a
    · refine Ev.ite_pos hx (Ev.eq (Ev.now _) ?_)
      have : nx l a i = i := by unfold nx; rw [drop_rd l i hi, List.findIdx_cons]; simp [hx]
      rw [this, if_pos hi]
    · refine Ev.ite_neg hx ?_
      rw [wrap64_succ (by omega)]
      have : nx l a i = nx l a (i + 1) := by
        have hb : (rd l (i : Int) == a) = false := by simpa using hx
        unfold nx
        rw [drop_rd l i hi, List.findIdx_cons, hb, cond_false]; omega
      rw [this]
      exact ih
theorem ev_l05Intervals (l : List Int) (h : l.length ≤ 60) : Ev (fun k => spec_l05Intervals.f k l) (ivs l) := by
  unfold spec_l05Intervals.f
  refine Ev.up (fun i k => spec_l05Intervals.l0 k l (ivsTo l i) (i : Int)) l.length (ivs l) ?_ ?_
  · apply Ev.succ
    simp only [spec_l05Intervals.l0]
    exact Ev.ite_neg (by omega) (Ev.now _)
  · intro i hi ih
    apply Ev.succ
    simp only [spec_l05Intervals.l0]
    have hlen := ivsTo_length l i
    refine Ev.ite_pos (by omega) (Ev.ite_pos (by omega) (Ev.bind (ev_l05Next l _ i (by omega) (by omega)) ?_))
    rw [wrap64_succ (by omega)]
    have e := ivsTo_succ l i
    by_cases hlt : nx l (rd l (i : Int)) (i + 1) < l.length
    · rw [if_pos hlt] at e ⊢
      refine Ev.ite_pos (by omega) (Ev.ite_pos (by omega) ?_)
      rw [← e]; exact ih
    · rw [if_neg hlt] at e ⊢
      refine Ev.ite_neg (by omega) ?_
      rw [List.append_nil] at e
      rw [← e]; exact ih
end Go.Proofs.Ythnpcalkcjkdhaa.Q
