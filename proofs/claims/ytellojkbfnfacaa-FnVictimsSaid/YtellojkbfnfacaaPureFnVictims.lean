/- The plain law of FnVictims: what it computes answers true; no conditions. -/
import Derived.Test.YtellojkbfnfacaaQx0
import Derived.Test.YtellojkbfnfacaaQx1
import Derived.Test.YtellojkbfnfacaaQx6
import Derived.Test.YtellojkbfnfacaaSb10
import Derived.Test.YtellojkbfnfacaaSbase
import Derived.Test.YtellojkbfnfacaaSbest
import Derived.Test.YtellojkbfnfacaaSbestmiss
import Derived.Test.YtellojkbfnfacaaSdraw
import Derived.Test.YtellojkbfnfacaaSisin
import Derived.Test.YtellojkbfnfacaaSsetlimpl
import Derived.Test.YtellojkbfnfacaaSoptimal
import Derived.Test.YtellojkbfnfacaaSsetldef
namespace Go.Proofs.Ytellojkbfnfacaa.Q
open Go.RowKit Go.Proofs.YtellojkbfnfacaaW.PrintWords Go.Proofs.YtellojkbfnfacaaW.PrintLast Go.Proofs.YtellojkbfnfacaaW.PrintMore
attribute [local go_sem] max2_int min2_int max_two min_two max_three min_three max_four min_four   -- for this text's walks alone
set_option linter.unusedVariables false
set_option linter.unusedSimpArgs false

def laws_FnVictims.PureQ : Prop := ∀ (l0 : List Int) (l1 : List Int), l0.length ≤ 9223372036854775807 → (∀ y ∈ l0, (Lit.int .u8 y).wf = true) → l1.length ≤ 9223372036854775807 → (∀ y ∈ l1, (Lit.int .u8 y).wf = true) → ∃ k, laws_FnVictims.f k l0 l1 = some true
end Go.Proofs.Ytellojkbfnfacaa.Q
namespace Go.Proofs.Ytellojkbfnfacaa.Pure
open Go.RowKit Go.Proofs.Ytellojkbfnfacaa.Q Go.Proofs.YtellojkbfnfacaaW.PrintWords
theorem rd_bVics (U : List Int) (n : Int) (m i : Nat) (h : i < m) : rd (bVics U n m) (i : Int) = bOld U n (bIn U n i) i := by
  rw [rd_lt _ i (by rw [bVics_length]; exact h)]
  unfold bVics
  rw [List.getElem_map, List.getElem_range]
section
variable (U : List Int) (n : Int) (hn : 1 ≤ n) (hn6 : n ≤ 6) (hU : ∀ x ∈ U, 0 ≤ x ∧ x ≤ 63) (hl : U.length ≤ 60)
include hn hn6 hU hl
theorem ev_vict_l1 (q m : Int) (i : Nat) (hi : i < U.length) (hm : rd U (i : Int) ∉ bIn U n i) (hf : ¬ ((bIn U n i).length : Int) < n) (r : Bool)
    (h : Ev (fun k => laws_FnVictims.l0 k U n (bVics U n U.length) q ((bIn U n i).set (bIdx (bIn U n i) (bVic U (bIn U n i) i)) (rd U (i : Int))) m ((i + 1 : Nat) : Int)) r) : Ev (fun k => laws_FnVictims.l1 k U n (bVics U n U.length) q (bIn U n i) m (i : Int) false 0) r := by
  obtain ⟨h1, h2, h3, h4⟩ := bIn_facts U n hn hU i (by omega)
  have hpos : 0 < (setL (bIn U n i)).length := by rw [setL_nodup_length h1]; omega
  have hvm := bVic_mem U (bIn U n i) i hpos
  have hlt := bIdx_lt hvm
  have hg := bIdx_get hvm
  have hv : rd (bVics U n U.length) (i : Int) = bVic U (bIn U n i) i := by rw [rd_bVics U n _ i hi]; unfold bOld; rw [if_neg hm, if_neg hf]
  have hvl := bVics_length U n U.length
  refine Ev.up (fun t k => laws_FnVictims.l1 k U n (bVics U n U.length) q (bIn U n i) m (i : Int) false (t : Int)) (bIdx (bIn U n i) (bVic U (bIn U n i) i)) r ?_ ?_
  · apply Ev.succ
    simp only [laws_FnVictims.l1]
    rw [Int.toNat_natCast, wrap64_succ (i := i) (by omega), hv]
    refine Ev.ite_pos (by omega) (Ev.ite_pos (by omega) (Ev.ite_pos (by omega) (Ev.ite_pos (by omega) (Ev.ite_pos ?_ (Ev.ite_pos (by omega) h)))))
    rw [rd_lt _ _ hlt]; exact hg
  · intro t ht ih
    have hne : rd (bIn U n i) (t : Int) ≠ bVic U (bIn U n i) i := by
      rw [rd_lt _ t (by omega)]
      have := List.not_of_lt_findIdx (p := fun x => x == bVic U (bIn U n i) i) ht
      simpa using this
    apply Ev.succ
    simp only [laws_FnVictims.l1]
    rw [wrap64_succ (i := t) (by omega), hv]
    exact Ev.ite_pos (by omega) (Ev.ite_pos (by omega) (Ev.ite_pos (by omega) (Ev.ite_pos (by omega) (Ev.ite_neg hne ih))))
theorem ev_vict_l0 : Ev (fun k => laws_FnVictims.l0 k U n (bVics U n U.length) (leastMiss U n) [] 0 0) true := by
  have hvl := bVics_length U n U.length
  have key := Ev.up (fun i k => laws_FnVictims.l0 k U n (bVics U n U.length) (leastMiss U n) (bIn U n i) ((i : Int) - (hitTo U n i : Int)) (i : Int)) U.length true ?_ ?_
  · simpa [hitTo, bIn] using key
  · apply Ev.succ
    simp only [laws_FnVictims.l0]
    exact Ev.ite_neg (by omega) (Ev.eq (Ev.now _) (by unfold leastMiss; simp))
  · intro i hi ih
    obtain ⟨h1, h2, h3, h4⟩ := bIn_facts U n hn hU i (by omega)
    have h0 := hitTo_le U n i
    have hv := rd_bVics U n U.length i hi
    have e1 : bIn U n (i + 1) = bNext U n (bIn U n i) i := rfl
    have e2 : hitTo U n (i + 1) = hitTo U n i + if bHit U n i = true then 1 else 0 := rfl
    rw [e1, e2] at ih
    apply Ev.succ
    simp only [laws_FnVictims.l0]
    refine Ev.ite_pos (by omega) (Ev.ite_pos (by omega) (Ev.bind (ev_b10Has _ _ (by omega)) ?_))
    by_cases hm : rd U (i : Int) ∈ bIn U n i
    · have eh : bHit U n i = true := decide_eq_true hm
      rw [eh, if_pos rfl, show ((i + 1 : Nat) : Int) - ((hitTo U n i + 1 : Nat) : Int) = (i : Int) - (hitTo U n i : Int) by omega] at ih
      unfold bNext at ih
      rw [if_pos hm] at ih
      unfold bOld at hv
      rw [if_pos hm] at hv
      rw [wrap64_succ (i := i) (by omega)]
      exact Ev.ite_pos (decide_eq_true hm) (Ev.ite_pos (by omega) (Ev.ite_pos hv ih))
    · have eh : bHit U n i = false := decide_eq_false hm
      rw [eh, if_neg (by simp), show ((i + 1 : Nat) : Int) - ((hitTo U n i + 0 : Nat) : Int) = (i : Int) - (hitTo U n i : Int) + 1 by omega] at ih
      unfold bNext at ih
      rw [if_neg hm] at ih
      unfold bOld at hv
      rw [if_neg hm] at hv
      have hw : wrap64 ((i : Int) - (hitTo U n i : Int) + 1) = (i : Int) - (hitTo U n i : Int) + 1 := wrap64_id (by omega) (by omega)
      refine Ev.ite_neg (by simpa using hm) ?_
      rw [hw]
      by_cases hf : ((bIn U n i).length : Int) < n
      · rw [if_pos hf] at ih hv
        rw [wrap64_succ (i := i) (by omega)]
        exact Ev.ite_pos hf (Ev.ite_pos (by omega) (Ev.ite_pos hv (Ev.ite_pos (by omega) ih)))
      · rw [if_neg hf] at ih
        exact Ev.ite_neg hf (ev_vict_l1 U n hn hn6 hU hl _ _ i hi hm hf true ih)
end
theorem FnVictims : laws_FnVictims.PureQ := by
  intro l0 l1 h0 b0 h1 b1
  have B0 := Bytes.of b0
  have B1 := Bytes.of b1
  refine Ev.rounds (g := fun k => laws_FnVictims.f k l0 l1) ?_
  unfold laws_FnVictims.f
  cases hlong : laws_b10Long.f l0 l1 with
  | none =>
    unfold laws_b10Long.f at hlong
    by_cases h : (l0.length : Int) > 1048576 <;> simp [h] at hlong
  | some b =>
    cases b with
    | true => exact Ev.cbind rfl (Ev.ite_pos rfl (Ev.now _))
    | false =>
      obtain ⟨u, eu, hul, hu⟩ := ev_B10Uses l0 B0
      obtain ⟨x, ex, hx⟩ := b10At_06 l1 B1
      have hw : wrap64 (1 + (x : Int)) = 1 + (x : Int) := wrap64_id (by omega) (by omega)
      have ho : (okUses u && isIn 1 6 (1 + (x : Int))) = true := by
        rw [(okUses_iff u).2 ⟨hu, by omega⟩, Bool.true_and]
        unfold isIn
        rw [decide_eq_true (by omega), decide_eq_true (by omega)]; rfl
      have hopt : impl_isOptimal.f u (1 + (x : Int)) = some true := by rw [impl_isOptimal_f, ho]
      refine Ev.cbind rfl (Ev.ite_neg (by simp) (Ev.bind eu (Ev.cbind ex ?_)))
      rw [hw]
      have ev : Ev (fun k => impl_BestVictims.f k u (1 + (x : Int))) (bVics u (1 + (x : Int)) u.length, true) := by
        unfold impl_BestVictims.f
        exact Ev.cbind hopt (Ev.ite_pos rfl (Ev.bind (ev_bestRun u _ (by omega) (by omega) hu (by omega)) (Ev.now _)))
      have em : Ev (fun k => impl_BestMisses.f k u (1 + (x : Int))) (leastMiss u (1 + (x : Int)), true) := by
        unfold impl_BestMisses.f
        exact Ev.cbind hopt (Ev.ite_pos rfl (Ev.bind (ev_bestMisses u _ (by omega) (by omega) hu (by omega)) (Ev.now _)))
      refine Ev.bind ev (Ev.bind em (Ev.ite_pos rfl (Ev.ite_pos rfl ?_)))
      apply Ev.succ
      simp only [laws_FnVictims.j0]
      refine Ev.ite_neg ?_ (ev_vict_l0 u _ (by omega) (by omega) hu (by omega))
      rw [bVics_length]; simp
end Go.Proofs.Ytellojkbfnfacaa.Pure
