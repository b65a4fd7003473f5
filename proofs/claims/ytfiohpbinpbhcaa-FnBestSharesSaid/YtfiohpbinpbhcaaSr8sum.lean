/- Parts of the proof, laid together: contracts and lemmas; no conditions beyond those written. -/
import Derived.Test.YtfiohpbinpbhcaaQx0
import Derived.Test.YtfiohpbinpbhcaaQx1
import Derived.Test.YtfiohpbinpbhcaaSbase
import Derived.Test.YtfiohpbinpbhcaaScrv
import Derived.Test.YtfiohpbinpbhcaaHsetOf
import Derived.Test.YtfiohpbinpbhcaaSidxf
import Derived.Test.YtfiohpbinpbhcaaQx2
namespace Go.Proofs.Ytfiohpbinpbhcaa.Q
open Go.RowKit Go.Proofs.YtfiohpbinpbhcaaW.PrintWords Go.Proofs.YtfiohpbinpbhcaaW.PrintLast Go.Proofs.YtfiohpbinpbhcaaW.PrintMore
attribute [local go_sem] max2_int min2_int max_two min_two max_three min_three max_four min_four   -- for this text's walks alone
set_option linter.unusedVariables false
set_option linter.unusedSimpArgs false
section
def wsumOf (l : List Int) : Int := l.foldl (fun s x => wrap64 (s + x)) 0
theorem ev_r8Sum (l : List Int) (h : l.length ≤ 1000000000) : Ev (fun k => laws_r8Sum.f k l) (wsumOf l) := by
  unfold laws_r8Sum.f
  refine Ev.up (fun i k => laws_r8Sum.l0 k l (wsumOf (l.take i)) (i : Int)) l.length _ ?_ ?_
  · apply Ev.succ
    simp only [laws_r8Sum.l0]
    rw [List.take_length]
    exact Ev.ite_neg (by omega) (Ev.now _)
  · intro i hi ih
    have e : wsumOf (l.take (i + 1)) = wrap64 (wsumOf (l.take i) + rd l (i : Int)) := by unfold wsumOf; rw [take_succ_rd l i hi, List.foldl_append]; rfl
    rw [e] at ih
    apply Ev.succ
    simp only [laws_r8Sum.l0]
    refine Ev.ite_pos (by omega) (Ev.ite_pos (by omega) ?_)
    rw [wrap64_succ (by omega)]
    exact ih
end
section
def again (l : List Int) (i : Nat) : Bool := decide (0 ≤ lu l (rd l (i : Int)) i)
end
section
theorem impl_setOf_f (l : List Int) (h : l.length ≤ 17592186044416) : impl_setOf.f l = some (setL l) := by unfold impl_setOf.f; rw [if_pos h]
end
section
def distAt (l : List Int) (i : Nat) : Int := if again l i = true then ((between l i).length : Int) else -1
def distsTo (l : List Int) (n : Nat) : List Int := (List.range n).map (distAt l)
def dists (l : List Int) : List Int := distsTo l l.length
theorem distsTo_succ (l : List Int) (n : Nat) : distsTo l (n + 1) = distsTo l n ++ [distAt l n] := by unfold distsTo; rw [List.range_succ, List.map_append]; rfl
theorem distsTo_length (l : List Int) (n : Nat) : (distsTo l n).length = n := by simp [distsTo]
theorem distAt_range (l : List Int) (i : Nat) : -1 ≤ distAt l i ∧ distAt l i ≤ (i : Int) := by
  unfold distAt
  have := between_length l i
  split <;> omega
theorem dists_mem {l : List Int} {d : Int} (h : d ∈ dists l) : -1 ≤ d ∧ d ≤ (l.length : Int) := by
  unfold dists distsTo at h
  obtain ⟨i, hi, rfl⟩ := List.mem_map.1 h
  have := distAt_range l i
  have := List.mem_range.1 hi
  omega
theorem ev_distancesOf (l : List Int) (h : l.length ≤ 1000000000) : Ev (fun k => impl_distancesOf.f k l) (dists l) := by
  unfold impl_distancesOf.f
  refine Ev.up (fun i k => impl_distancesOf.l0 k l (distsTo l i) l (l.length : Int) (i : Int)) l.length (dists l) ?_ ?_
  · apply Ev.succ
    simp only [impl_distancesOf.l0]
    exact Ev.ite_neg (by omega) (Ev.now _)
  · intro i hi ih
    apply Ev.succ
    simp only [impl_distancesOf.l0]
    have hr := lu_range l (rd l (i : Int)) i
    have hlen := distsTo_length l i
    rw [distsTo_succ] at ih
    unfold distAt again at ih
    refine Ev.ite_pos (by omega) (Ev.ite_pos (by omega) (Ev.ite_pos (by omega) (Ev.ite_pos (by omega) ?_)))
    rw [Int.toNat_natCast]
    refine Ev.bind (ev_lastUse_take l _ i (by omega) (by omega)) ?_
    rw [wrap64_succ (by omega)]
    by_cases h0 : 0 ≤ lu l (rd l (i : Int)) i
    · rw [if_pos (by simpa using h0)] at ih
      rw [wrap64_id (by omega) (by omega)]
      refine Ev.ite_pos (by omega) (Ev.ite_pos (by omega) (Ev.ite_pos (by omega) (Ev.cbind (impl_setOf_f _ ?_) (Ev.cbind (a := ((between l i).length : Int)) rfl (Ev.ite_pos (by omega) ih)))))
      rw [List.length_drop, List.length_take]; omega
    · rw [if_neg (by simpa using h0)] at ih
      exact Ev.ite_neg (by omega) (Ev.ite_pos (by omega) ih)
end
end Go.Proofs.Ytfiohpbinpbhcaa.Q
