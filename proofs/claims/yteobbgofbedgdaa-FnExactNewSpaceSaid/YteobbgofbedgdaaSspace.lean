/- The new space as both sides make it; no conditions. -/
import Derived.Test.YteobbgofbedgdaaQx0
import Derived.Test.YteobbgofbedgdaaQx1
import Derived.Test.YteobbgofbedgdaaSbase
import Derived.Test.YteobbgofbedgdaaSisin
import Derived.Test.YteobbgofbedgdaaSisin5
namespace Go.Proofs.Yteobbgofbedgdaa.Q
open Go.RowKit Go.Proofs.YteobbgofbedgdaaW.PrintWords Go.Proofs.YteobbgofbedgdaaW.PrintLast Go.Proofs.YteobbgofbedgdaaW.PrintMore
attribute [local go_sem] max2_int min2_int max_two min_two max_three min_three max_four min_four   -- for this text's walks alone
set_option linter.unusedVariables false
set_option linter.unusedSimpArgs false

def emptyE : S104 := ⟨-1, false, false, false⟩
def rootTo (n : Int) (i : Nat) : List Int := (List.range i).map fun (j : Nat) => if (j : Int) < n then (j : Int) else -1
theorem rootTo_succ (n : Int) (i : Nat) : rootTo n (i + 1) = rootTo n i ++ [if (i : Int) < n then (i : Int) else -1] := by unfold rootTo; rw [List.range_succ, List.map_append]; rfl
theorem rootTo_length (n : Int) (i : Nat) : (rootTo n i).length = i := by simp [rootTo]
theorem ev_l08Table : Ev (fun k => spec_l08Table.f k) (List.replicate 8 emptyE) := by
  unfold spec_l08Table.f
  refine Ev.up (fun i k => spec_l08Table.l0 k (List.replicate i emptyE) (i : Int)) 8 _ ?_ ?_
  · apply Ev.succ
    simp only [spec_l08Table.l0]
    exact Ev.ite_neg (by omega) (Ev.now _)
  · intro i hi ih
    apply Ev.succ
    simp only [spec_l08Table.l0]
    rw [wrap64_succ (i := i) (by omega)]
    rw [List.replicate_succ'] at ih
    exact Ev.ite_pos (by omega) (Ev.cbind rfl (Ev.ite_pos (by rw [List.length_replicate]; omega) ih))
theorem ev_l08New : Ev (fun k => spec_l08New.f k) (List.replicate 8 (-1), [], []) := by
  unfold spec_l08New.f
  refine Ev.up (fun i k => spec_l08New.l0 k (i : Int) (List.replicate i (-1)) [] []) 8 _ ?_ ?_
  · apply Ev.succ
    simp only [spec_l08New.l0]
    exact Ev.ite_neg (by omega) (Ev.now _)
  · intro i hi ih
    apply Ev.succ
    simp only [spec_l08New.l0]
    rw [wrap64_succ (i := i) (by omega)]
    rw [List.replicate_succ'] at ih
    exact Ev.ite_pos (by omega) (Ev.ite_pos (by rw [List.length_replicate]; omega) ih)
def spaceOf (n : Int) : List Int × List (List S104) × List S110 × Bool := if isIn 0 8 n = true then (rootTo n 8, List.replicate n.toNat (List.replicate 8 emptyE), [], true) else ([], [], [], false)
theorem ev_impl_NewSpace (n : Int) : Ev (fun k => impl_NewSpace.f k n) (spaceOf n) := by
  unfold impl_NewSpace.f spaceOf
  refine Ev.cbind (impl_inRange_f n 0 8) ?_
  cases h : isIn 0 8 n with
  | false => exact Ev.ite_neg (by simp) (Ev.now _)
  | true =>
    have hb : 0 ≤ n ∧ n ≤ 8 := by simpa [isIn] using h
    refine Ev.ite_pos rfl ?_
    refine Ev.up (fun i k => impl_NewSpace.l0 k n (i : Int) (rootTo n i) (List.replicate (min i n.toNat) (List.replicate 8 emptyE))) 8 _ ?_ ?_
    · apply Ev.succ
      simp only [impl_NewSpace.l0]
      refine Ev.ite_neg (by omega) (Ev.eq (Ev.now _) ?_)
      rw [if_pos trivial, show min 8 n.toNat = n.toNat by omega]
    · intro i hi ih
      have hr := rootTo_length n i
      rw [rootTo_succ] at ih
      apply Ev.succ
      simp only [impl_NewSpace.l0]
      rw [wrap64_succ (i := i) (by omega)]
      refine Ev.ite_pos (by omega) ?_
      by_cases hlt : (i : Int) < n
      · rw [if_pos hlt, show min (i + 1) n.toNat = min i n.toNat + 1 by omega, List.replicate_succ'] at ih
        exact Ev.ite_pos hlt (Ev.ite_pos (by omega) (Ev.cbind rfl (Ev.ite_pos (by rw [List.length_replicate]; omega) ih)))
      · rw [if_neg hlt, show min (i + 1) n.toNat = min i n.toNat by omega] at ih
        exact Ev.ite_neg hlt (Ev.ite_pos (by omega) ih)
theorem ev_spec_NewSpace (n : Int) : Ev (fun k => spec_NewSpace.f k n) (spaceOf n) := by
  unfold spec_NewSpace.f spaceOf
  refine Ev.cbind (spec_l00In_f n 0 8) ?_
  cases h : isIn 0 8 n with
  | false => exact Ev.ite_neg (by simp) (Ev.now _)
  | true =>
    have hb : 0 ≤ n ∧ n ≤ 8 := by simpa [isIn] using h
    refine Ev.ite_pos rfl (Ev.bind ev_l08New ?_)
    refine Ev.up (fun i k => spec_NewSpace.l0 k n (i : Int) (rootTo n i ++ List.replicate (8 - i) (-1)) (List.replicate i (List.replicate 8 emptyE)) []) n.toNat _ ?_ ?_
    · apply Ev.succ
      simp only [spec_NewSpace.l0]
      refine Ev.ite_neg (by omega) (Ev.eq (Ev.now _) ?_)
      rw [if_pos trivial]
      congr 1
      have key : ∀ d, rootTo n n.toNat ++ List.replicate d (-1) = rootTo n (n.toNat + d) := by
        intro d
        induction d with
        | zero => simp
        | succ d ih => rw [List.replicate_succ', ← List.append_assoc, ih, ← Nat.add_assoc, rootTo_succ, if_neg (by omega)]
      rw [key, show n.toNat + (8 - n.toNat) = 8 by omega]
    · intro i hi ih
      have hr := rootTo_length n i
      have hll : (rootTo n i ++ List.replicate (8 - i) (-1)).length = 8 := by rw [List.length_append, hr, List.length_replicate]; omega
      have e : (rootTo n i ++ List.replicate (8 - i) (-1)).set i (i : Int) = rootTo n (i + 1) ++ List.replicate (8 - (i + 1)) (-1) := by
        rw [List.set_append_right (h := by omega), hr, Nat.sub_self, show 8 - i = (8 - (i + 1)) + 1 by omega, List.replicate_succ, List.set_cons_zero, rootTo_succ, if_pos (by omega), List.append_assoc]; rfl
      rw [← e, List.replicate_succ'] at ih
      apply Ev.succ
      simp only [spec_NewSpace.l0]
      rw [wrap64_succ (i := i) (by omega), Int.toNat_natCast]
      exact Ev.ite_pos (by omega) (Ev.ite_pos (by omega) (Ev.ite_pos (by omega) (Ev.bind ev_l08Table (Ev.ite_pos (by rw [List.length_replicate]; omega) ih))))
end Go.Proofs.Yteobbgofbedgdaa.Q
