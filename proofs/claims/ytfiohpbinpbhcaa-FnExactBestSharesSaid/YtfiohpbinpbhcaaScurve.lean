/- Parts of the proof, laid together: contracts and lemmas; no conditions beyond those written. -/
import Derived.Test.YtfiohpbinpbhcaaQx0
import Derived.Test.YtfiohpbinpbhcaaQx2
import Derived.Test.YtfiohpbinpbhcaaSsetldef
import Derived.Test.YtfiohpbinpbhcaaScrv
import Derived.Test.YtfiohpbinpbhcaaSlu
import Derived.Test.YtfiohpbinpbhcaaSsortl
import Derived.Test.YtfiohpbinpbhcaaHsetOf
import Derived.Test.YtfiohpbinpbhcaaSsetl
namespace Go.Proofs.Ytfiohpbinpbhcaa.Q
open Go.RowKit Go.Proofs.YtfiohpbinpbhcaaW.PrintWords Go.Proofs.YtfiohpbinpbhcaaW.PrintLast Go.Proofs.YtfiohpbinpbhcaaW.PrintMore
attribute [local go_sem] max2_int min2_int max_two min_two max_three min_three max_four min_four   -- for this text's walks alone
set_option linter.unusedVariables false
set_option linter.unusedSimpArgs false
section
theorem ev_spec_row (p x5 : List Int) (m : Int) (n : Nat) (hl : p.length ≤ 1000000000) (hx : x5.length ≤ 1000000000) (hn : n ≤ 1000000000) (r : List Int)
    (h : Ev (fun k => spec_l04Curve.l0 k p m (x5 ++ [((p.countP (isMiss n) : Nat) : Int)]) ((n + 1 : Nat) : Int)) r) : Ev (fun k => spec_l04Curve.l1 k p m x5 (n : Int) 0 0) r := by
  refine Ev.up (fun i k => spec_l04Curve.l1 k p m x5 (n : Int) (((p.take i).countP (isMiss n) : Nat) : Int) (i : Int)) p.length r ?_ ?_
  · apply Ev.succ
    simp only [spec_l04Curve.l1]
    refine Ev.ite_neg (by omega) (Ev.ite_pos (by omega) ?_)
    rw [List.take_length, wrap64_succ (by omega)]; exact h
  · intro i hi ih
    have hc : (p.take i).countP (isMiss n) ≤ i := by have := List.countP_le_length (p := isMiss n) (l := p.take i); rw [List.length_take] at this; omega
    rw [countP_take_succ p (isMiss n) i hi] at ih
    apply Ev.succ
    simp only [spec_l04Curve.l1]
    refine Ev.ite_pos (by omega) (Ev.ite_pos (by omega) ?_)
    rw [wrap64_succ (i := i) (by omega), wrap64_succ (by omega)]
    by_cases h1 : rd p (i : Int) < 0
    · rw [if_pos (isMiss_lt h1)] at ih; exact Ev.ite_pos h1 ih
    · by_cases h2 : rd p (i : Int) ≥ (n : Int)
      · rw [if_pos (isMiss_ge h2)] at ih; exact Ev.ite_neg h1 (Ev.ite_pos h2 ih)
      · rw [if_neg (by rw [isMiss_no h1 h2]; simp)] at ih; exact Ev.ite_neg h1 (Ev.ite_neg h2 ih)
theorem ev_spec_curve (p : List Int) (m : Nat) (hl : p.length ≤ 1000000000) (hm : m ≤ 1000000) : Ev (fun k => spec_l04Curve.f k p (m : Int)) (crv p (m + 1)) := by
  unfold spec_l04Curve.f
  refine Ev.up (fun n k => spec_l04Curve.l0 k p (m : Int) (crv p n) (n : Int)) (m + 1) _ ?_ ?_
  · apply Ev.succ
    simp only [spec_l04Curve.l0]
    exact Ev.ite_neg (by omega) (Ev.now _)
  · intro n hn ih
    apply Ev.succ
    simp only [spec_l04Curve.l0]
    refine Ev.ite_pos (by omega) (ev_spec_row p _ _ n hl (by rw [crv_length]; omega) (by omega) _ ?_)
    rw [crv_succ] at ih; exact ih
end
section
def again (l : List Int) (i : Nat) : Bool := decide (0 ≤ lu l (rd l (i : Int)) i)
end
section
theorem spec_l02Address_f (n : Int) : spec_l02Address.f n = some (okAddr n) := by
  unfold spec_l02Address.f spec_l00In.f okAddr
  by_cases h : n ≥ 0 <;> simp [h]
end
section
theorem ev_l02Last (l : List Int) (a : Int) (i : Nat) (hi : i ≤ l.length) (h : l.length ≤ 35184372088832) : Ev (fun k => spec_l02Last.f k l a (i : Int)) (lu l a i) := by
  unfold spec_l02Last.f
  rw [wrap64_id (by omega) (by omega)]
  induction i with
  | zero =>
    apply Ev.succ
    simp only [spec_l02Last.l0]
    exact Ev.ite_neg (by omega) (Ev.now _)
  | succ i ih =>
    apply Ev.succ
    simp only [spec_l02Last.l0]
    rw [show ((i + 1 : Nat) : Int) - 1 = (i : Int) by omega]
    refine Ev.ite_pos (by omega) (Ev.ite_pos (by omega) (Ev.ite_pos (by omega) ?_))
    unfold lu
    by_cases e : rd l (i : Int) = a
    · rw [if_pos e]; exact Ev.ite_pos e (Ev.now _)
    · rw [if_neg e, wrap64_id (by omega) (by omega)]
      exact Ev.ite_neg e (ih (by omega))
end
section
theorem impl_setOf_f (l : List Int) (h : l.length ≤ 17592186044416) : impl_setOf.f l = some (setL l) := by unfold impl_setOf.f; rw [if_pos h]
end
section
def okUses (l : List Int) : Bool := (l.all okAddr) && decide (l.length ≤ 60)
theorem okUses_iff (l : List Int) : okUses l = true ↔ (∀ x ∈ l, 0 ≤ x ∧ x ≤ 63) ∧ l.length ≤ 60 := by
  simp [okUses, okAddr]
end
section
theorem ev_l02Set (l : List Int) (h : l.length ≤ 1000000000) : Ev (fun k => spec_l02Set.f k l) (setL l) := by
  unfold spec_l02Set.f
  rw [← putAll_eq]
  refine Ev.up (fun i k => spec_l02Set.l0 k l (putAll (l.take i)) (i : Int)) l.length (putAll l) ?_ ?_
  · apply Ev.succ
    simp only [spec_l02Set.l0, List.take_length]
    exact Ev.ite_neg (by omega) (Ev.now _)
  · intro i hi ih
    apply Ev.succ
    simp only [spec_l02Set.l0]
    have hl := (putAll_facts (l.take i) [] (by simp [Inc])).2.2
    refine Ev.ite_pos (by omega) (Ev.ite_pos (by omega) (Ev.bind (ev_l00Put _ _ (by unfold putAll; simp at hl; omega)) ?_))
    rw [wrap64_succ (by omega)]
    have e : putL (putAll (l.take i)) (rd l (i : Int)) = putAll (l.take (i + 1)) := by
      rw [take_succ_rd l i hi]; unfold putAll; rw [List.foldl_append]; rfl
    rw [e]
    exact ih
end
section
def distAt (l : List Int) (i : Nat) : Int := if again l i = true then ((between l i).length : Int) else -1
def distsTo (l : List Int) (n : Nat) : List Int := (List.range n).map (distAt l)
def dists (l : List Int) : List Int := distsTo l l.length
theorem distsTo_succ (l : List Int) (n : Nat) : distsTo l (n + 1) = distsTo l n ++ [distAt l n] := by unfold distsTo; rw [List.range_succ, List.map_append]; rfl
theorem distsTo_length (l : List Int) (n : Nat) : (distsTo l n).length = n := by simp [distsTo]
theorem distAt_range (l : List Int) (i : Nat) : -1 ≤ distAt l i ∧ distAt l i ≤ (i : Int) := by
  unfold distAt
  have := between_length l i
  split <;> omega
theorem dists_mem {l : List Int} {d : Int} (h : d ∈ dists l) : -1 ≤ d ∧ d ≤ (l.length : Int) := by
  unfold dists distsTo at h
  obtain ⟨i, hi, rfl⟩ := List.mem_map.1 h
  have := distAt_range l i
  have := List.mem_range.1 hi
  omega
theorem ev_distancesOf (l : List Int) (h : l.length ≤ 1000000000) : Ev (fun k => impl_distancesOf.f k l) (dists l) := by
  unfold impl_distancesOf.f
  refine Ev.up (fun i k => impl_distancesOf.l0 k l (distsTo l i) l (l.length : Int) (i : Int)) l.length (dists l) ?_ ?_
  · apply Ev.succ
    simp only [impl_distancesOf.l0]
    exact Ev.ite_neg (by omega) (Ev.now _)
  · intro i hi ih
    apply Ev.succ
    simp only [impl_distancesOf.l0]
    have hr := lu_range l (rd l (i : Int)) i
    have hlen := distsTo_length l i
    rw [distsTo_succ] at ih
    unfold distAt again at ih
    refine Ev.ite_pos (by omega) (Ev.ite_pos (by omega) (Ev.ite_pos (by omega) (Ev.ite_pos (by omega) ?_)))
    rw [Int.toNat_natCast]
    refine Ev.bind (ev_lastUse_take l _ i (by omega) (by omega)) ?_
    rw [wrap64_succ (by omega)]
    by_cases h0 : 0 ≤ lu l (rd l (i : Int)) i
    · rw [if_pos (by simpa using h0)] at ih
      rw [wrap64_id (by omega) (by omega)]
      refine Ev.ite_pos (by omega) (Ev.ite_pos (by omega) (Ev.ite_pos (by omega) (Ev.cbind (impl_setOf_f _ ?_) (Ev.cbind (a := ((between l i).length : Int)) rfl (Ev.ite_pos (by omega) ih)))))
      rw [List.length_drop, List.length_take]; omega
    · rw [if_neg (by simpa using h0)] at ih
      exact Ev.ite_neg (by omega) (Ev.ite_pos (by omega) ih)
end
end Go.Proofs.Ytfiohpbinpbhcaa.Q
