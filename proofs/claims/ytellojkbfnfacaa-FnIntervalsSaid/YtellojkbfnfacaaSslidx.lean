/- Parts of the proof, laid together: contracts and lemmas; no conditions beyond those written. -/
import Derived.Test.YtellojkbfnfacaaQx0
import Derived.Test.YtellojkbfnfacaaQx1
import Derived.Test.YtellojkbfnfacaaSbase
namespace Go.Proofs.Ytellojkbfnfacaa.Q
open Go.RowKit Go.Proofs.YtellojkbfnfacaaW.PrintWords Go.Proofs.YtellojkbfnfacaaW.PrintLast Go.Proofs.YtellojkbfnfacaaW.PrintMore
attribute [local go_sem] max2_int min2_int max_two min_two max_three min_three max_four min_four   -- for this text's walks alone
set_option linter.unusedVariables false
set_option linter.unusedSimpArgs false
section
theorem ev_slices_Index (l : List Int) (a : Int) (h : l.length ≤ 35184372088832) : Ev (fun k => slices_Index_int64_int64.f k l a) (if l.findIdx (fun x => x == a) < l.length then (l.findIdx (fun x => x == a) : Int) else -1) := by
  unfold slices_Index_int64_int64.f
  have key := Ev.down (fun i k => slices_Index_int64_int64.l0 k l a (l.length : Int) (i : Int)) l.length (fun i => if (l.drop i).findIdx (fun x => x == a) < (l.drop i).length then (((i + (l.drop i).findIdx (fun x => x == a) : Nat)) : Int) else -1) ?_ ?_ 0 (Nat.zero_le _)
  · exact Ev.eq key (by simp)
  · apply Ev.succ
    simp only [slices_Index_int64_int64.l0]
    exact Ev.ite_neg (by omega) (Ev.eq (Ev.now _) (by simp))
  · intro i hi ih
    apply Ev.succ
    simp only [slices_Index_int64_int64.l0]
    refine Ev.ite_pos (by omega) (Ev.ite_pos (by omega) (Ev.ite_pos (by omega) ?_))
    rw [drop_rd l i hi, List.findIdx_cons, List.length_cons]
    by_cases hx : a = rd l (i : Int)
    · refine Ev.ite_pos hx (Ev.eq (Ev.now _) ?_)
      simp [← hx]
    · refine Ev.ite_neg hx ?_
      rw [wrap64_succ (by omega)]
      have hne : (rd l (i : Int) == a) = false := by simp; exact fun e => hx e.symm
      refine Ev.eq ih ?_
      simp only [hne, cond_false]
      by_cases hlt : (l.drop (i + 1)).findIdx (fun x => x == a) < (l.drop (i + 1)).length
      · rw [if_pos hlt, if_pos (by omega)]; omega
      · rw [if_neg hlt, if_neg (by omega)]
end
section
theorem R_of_own {w : World} {base : Nat} {e : TypeId} {v : Value} {xs : List Int} (h : w.ownsRow base e 1 v xs.length (xs.map (Value.int .i64))) : Kd.R (Kd.int .i64) e w base (fun _ => True) v xs := by
  refine ⟨fun _ _ => trivial, xs.map (Value.int .i64), h, by show _ = xs.length * 1; simp, fun j p hj => ?_⟩
  show ((xs.map (Value.int .i64)).drop (j * 1)).take 1 = [Value.int .i64 p]
  rw [Nat.mul_one]
  have hl : j < xs.length := (List.getElem?_eq_some_iff.1 hj).1
  have hp : xs[j] = p := (List.getElem?_eq_some_iff.1 hj).2
  rw [List.drop_eq_getElem_cons (by simpa using hl)]
  simp [hp]
theorem own_of_R {w : World} {base : Nat} {e : TypeId} {ok : Nat → Prop} {v : Value} {xs : List Int} (h : Kd.R (Kd.int .i64) e w base ok v xs) : w.ownsRow base e 1 v xs.length (xs.map (Value.int .i64)) := by
  obtain ⟨_, inner, ho, hr⟩ := h
  have : inner = xs.map (Value.int .i64) := by
    apply List.ext_getElem
    · have h0 : inner.length = xs.length * 1 := hr.1
      simpa using h0
    · intro j h1 h2
      have hj : j < xs.length := by simpa using h2
      have hq := hr.2 j xs[j] (List.getElem?_eq_getElem hj)
      replace hq : (inner.drop (j * 1)).take 1 = [Value.int .i64 xs[j]] := hq
      rw [Nat.mul_one, List.drop_eq_getElem_cons h1, List.take_succ_cons, List.take_zero] at hq
      rw [List.getElem_map]
      exact (List.cons.inj hq).1
  rw [← this]
  exact ho
theorem C_of_own {w : World} {base n : Nat} {e : TypeId} {v : Value} {xs : List Int} (h : w.ownsRow base e 1 v xs.length (xs.map (Value.int .i64))) : ∃ A c, v = .slice A xs.length c ∧ xs.length ≤ c ∧ Kd.C (Kd.int .i64) w A xs.length xs := Kd.R_reads (R_of_own h)
end
section
/-- The first use of a from an index on; the length if there is none. -/
def nx (l : List Int) (a : Int) (i : Nat) : Nat := i + (l.drop i).findIdx (fun x => x == a)
theorem nx_le (l : List Int) (a : Int) (i : Nat) (h : i ≤ l.length) : nx l a i ≤ l.length := by
  have := List.findIdx_le_length (p := fun x => x == a) (xs := l.drop i)
  rw [List.length_drop] at this
  unfold nx; omega
theorem nx_lt_iff (l : List Int) (a : Int) (i : Nat) (h : i ≤ l.length) : nx l a i < l.length ↔ (l.drop i).findIdx (fun x => x == a) < (l.drop i).length := by
  unfold nx
  rw [List.length_drop]; omega
theorem ev_nextUse (l : List Int) (a : Int) (i : Nat) (h : l.length ≤ 35184372088832) (hi : i ≤ l.length) : Ev (fun k => impl_nextUse.f k l a (i : Int)) (if nx l a i < l.length then (nx l a i : Int) else -1) := by
  unfold impl_nextUse.f
  refine Ev.ite_pos (by omega) (Ev.ite_pos (by omega) ?_)
  rw [Int.toNat_natCast]
  refine Ev.bind (ev_slices_Index (l.drop i) a (by rw [List.length_drop]; omega)) ?_
  have e := nx_lt_iff l a i hi
  have hle := nx_le l a i hi
  by_cases hlt : nx l a i < l.length
  · rw [if_pos (e.1 hlt), if_pos hlt]
    refine Ev.ite_neg (by omega) (Ev.eq (Ev.now _) ?_)
    rw [wrap64_id (by omega) (by unfold nx at hle; omega)]
    unfold nx; omega
  · rw [if_neg (fun q => hlt (e.2 q)), if_neg hlt]
    exact Ev.ite_pos (by omega) (Ev.now _)
/-- The intervals that begin before a use. -/
def ivsTo (l : List Int) (n : Nat) : List (List Int) := (List.range n).filterMap fun (i : Nat) => if nx l (rd l (i : Int)) (i + 1) < l.length then some [(i : Int), (nx l (rd l (i : Int)) (i + 1) : Int)] else none
def ivs (l : List Int) : List (List Int) := ivsTo l l.length
theorem ivsTo_length (l : List Int) (n : Nat) : (ivsTo l n).length ≤ n := by
  have := List.length_filterMap_le (fun (i : Nat) => if nx l (rd l (i : Int)) (i + 1) < l.length then some [(i : Int), (nx l (rd l (i : Int)) (i + 1) : Int)] else none) (List.range n)
  simpa [ivsTo] using this
theorem ivsTo_succ (l : List Int) (n : Nat) : ivsTo l (n + 1) = ivsTo l n ++ (if nx l (rd l (n : Int)) (n + 1) < l.length then [[(n : Int), (nx l (rd l (n : Int)) (n + 1) : Int)]] else []) := by
  unfold ivsTo
  rw [List.range_succ, List.filterMap_append]
  congr 1
  by_cases h : nx l (rd l (n : Int)) (n + 1) < l.length <;> simp [h]
theorem ivs_mem {l : List Int} {x : List Int} (h : x ∈ ivs l) : ∃ i j : Nat, x = [(i : Int), (j : Int)] ∧ i < j ∧ j < l.length := by
  unfold ivs ivsTo at h
  obtain ⟨i, hi, hx⟩ := List.mem_filterMap.1 h
  by_cases hlt : nx l (rd l (i : Int)) (i + 1) < l.length
  · rw [if_pos hlt] at hx
    exact ⟨i, _, (Option.some.inj hx).symm, by unfold nx; omega, hlt⟩
  · rw [if_neg hlt] at hx; cases hx
end
end Go.Proofs.Ytellojkbfnfacaa.Q
