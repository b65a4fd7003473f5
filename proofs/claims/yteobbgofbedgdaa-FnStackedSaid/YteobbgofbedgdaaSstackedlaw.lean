/- The parts of the law of memories with ranks, at valid inputs; no conditions beyond those written. -/
import Derived.Test.YteobbgofbedgdaaQx0
import Derived.Test.YteobbgofbedgdaaHrankcontents
import Derived.Test.YteobbgofbedgdaaHstackOf
import Derived.Test.YteobbgofbedgdaaQx2
import Derived.Test.YteobbgofbedgdaaSbase
import Derived.Test.YteobbgofbedgdaaSr8ranks
import Derived.Test.YteobbgofbedgdaaSsetlimpl
import Derived.Test.YteobbgofbedgdaaSpushi
import Derived.Test.YteobbgofbedgdaaSrankdefs
import Derived.Test.YteobbgofbedgdaaSsetl
import Derived.Test.YteobbgofbedgdaaSsetldef
import Derived.Test.YteobbgofbedgdaaSstacked
import Derived.Test.YteobbgofbedgdaaSascend
import Derived.Test.YteobbgofbedgdaaSusesimpl
namespace Go.Proofs.Yteobbgofbedgdaa.Q
open Go.RowKit Go.Proofs.YteobbgofbedgdaaW.PrintWords Go.Proofs.YteobbgofbedgdaaW.PrintLast Go.Proofs.YteobbgofbedgdaaW.PrintMore
attribute [local go_sem] max2_int min2_int max_two min_two max_three min_three max_four min_four   -- for this text's walks alone
set_option linter.unusedVariables false
set_option linter.unusedSimpArgs false

theorem ev_RankStack_ok (R U : List Int) (hR : okRanks R = true) (hU : okUses U = true) : Ev (fun k => impl_RankStack.f k R U) (stk R U U.length, true) := by
  obtain ⟨hm, hl⟩ := (okUses_iff U).1 hU
  unfold impl_RankStack.f
  refine Ev.cbind (impl_ValidRanks_f R) ?_
  rw [hR]
  refine Ev.ite_pos rfl (Ev.cbind (impl_ValidUses_f U) ?_)
  rw [hU]
  exact Ev.ite_pos rfl (Ev.bind (ev_rankRun R U (okRanks_length hR) hm (by omega)) (Ev.now _))
theorem ev_RankCurve_ok (R U : List Int) (n : Nat) (hn : n ≤ 60) (hR : okRanks R = true) (hU : okUses U = true) : Ev (fun k => impl_RankCurve.f k R U (n : Int)) (crv (plc R U U.length) (n + 1), true) := by
  obtain ⟨hm, hl⟩ := (okUses_iff U).1 hU
  have hi : impl_isMost.f (n : Int) = some true := by
    unfold impl_isMost.f impl_inRange.f
    rw [if_pos (by omega)]
    simp; omega
  unfold impl_RankCurve.f
  refine Ev.cbind (impl_ValidRanks_f R) ?_
  rw [hR]
  refine Ev.ite_pos rfl (Ev.cbind (impl_ValidUses_f U) ?_)
  rw [hU]
  refine Ev.ite_pos rfl (Ev.cbind hi (Ev.succ ?_))
  simp only [impl_RankCurve.j0]
  exact Ev.ite_neg (by simp) (Ev.bind (ev_rankRun R U (okRanks_length hR) hm (by omega)) (Ev.bind (ev_impl_curve _ n (by rw [plc_length]; omega) (by omega)) (Ev.now _)))
theorem RankContents_ok (R U : List Int) (n : Int) (hn : 1 ≤ n ∧ n ≤ 60) (hR : okRanks R = true) (hU : okUses U = true) : impl_RankContents.f R U n = some (setL (memTo R U n U.length), true) := by
  unfold impl_RankContents.f
  rw [if_pos hR, if_pos hU, if_pos (decide_eq_true hn)]
theorem StackOf_ok (U : List Int) (hU : okUses U = true) : impl_StackOf.f U = some (stackL U, true) := by
  unfold impl_StackOf.f; rw [if_pos hU]
theorem r8Least_ok (a b : Nat) : laws_r8Least.f (a : Int) (b : Int) = some ((min a b : Nat) : Int) := by
  unfold laws_r8Least.f
  by_cases h : a < b
  · rw [if_pos (by omega), Nat.min_eq_left (by omega)]
  · rw [if_neg (by omega), Nat.min_eq_right (by omega)]
theorem uses_take {U : List Int} (h : okUses U = true) (i : Nat) : okUses (U.take i) = true := by
  obtain ⟨h1, h2⟩ := (okUses_iff U).1 h
  exact (okUses_iff _).2 ⟨fun x hx => h1 x (List.mem_of_mem_take hx), by rw [List.length_take]; omega⟩
theorem last_length (R U : List Int) : (stackL U).length = (stk R U U.length).length := by
  refine List.Perm.length_eq ((List.perm_ext_iff_of_nodup (stackL_facts U).1 (stk_nodup R U U.length)).2 fun x => ?_)
  rw [(stackL_facts U).2.1, stk_mem R U U.length (Nat.le_refl _), List.take_length]
theorem nodup_setL {l : List Int} (h : l.Nodup) : (setL l).length = l.length :=
  List.Perm.length_eq ((List.perm_ext_iff_of_nodup ((setL_facts l).1.imp (fun h => by omega)) h).2 fun x => (setL_facts l).2 x)
section
variable (R U : List Int) (hR : okRanks R = true) (hU : okUses U = true) (n : Nat) (hn : 1 ≤ n)
include hR hU hn
theorem contents_length : (setL (memTo R U (n : Int) U.length)).length = min n (stk R U U.length).length := by
  have hf := fits_all R U n hn (Tells.of hR) ((okUses_iff U).1 hU).1 U.length (Nat.le_refl _)
  rw [nodup_setL hf.1, hf.length]
theorem contents_has (i : Nat) (hi : i < min n (stk R U U.length).length) : rd (stk R U U.length) (i : Int) ∈ setL (memTo R U (n : Int) U.length) := by
  have hf := fits_all R U n hn (Tells.of hR) ((okUses_iff U).1 hU).1 U.length (Nat.le_refl _)
  rw [(setL_facts _).2, hf.2.2, rd_lt _ i (by omega)]
  exact List.mem_take_iff_getElem.2 ⟨i, by omega, rfl⟩
/-- What stands in the memory ahead of use i. -/
theorem before_has (i : Nat) (hi : i < U.length) : decide (rd U (i : Int) ∈ setL (memTo R (U.take i) (n : Int) (U.take i).length)) = !(isMiss n (at_ (stk R U i) (rd U (i : Int)))) := by
  have hl : (U.take i).length = i := by rw [List.length_take]; omega
  have h := hit_iff R U n hn (Tells.of hR) ((okUses_iff U).1 hU).1 i (by omega) (rd U (i : Int))
  rw [hl, memTo_take R U (n : Int) i i (Nat.le_refl _), Bool.eq_iff_iff, decide_eq_true_iff, (setL_facts _).2, h]
  simp
end
theorem none_has (R U : List Int) (n : Nat) : isMiss n (at_ (stk R U 0) (rd U 0)) = true := by
  have : at_ (stk R U 0) (rd U 0) = -1 := by unfold at_; rw [if_neg (by simp [stk])]
  rw [this]; exact isMiss_lt (by decide)
theorem misses_succ (R U : List Int) (n i : Nat) : (plc R U (i + 1)).countP (isMiss n) = (plc R U i).countP (isMiss n) + if isMiss n (at_ (stk R U i) (rd U (i : Int))) = true then 1 else 0 := by
  rw [show plc R U (i + 1) = plc R U i ++ [at_ (stk R U i) (rd U (i : Int))] from rfl, List.countP_append, List.countP_singleton]
theorem rd_crv_at (d : List Int) (m p : Nat) (h : p < m) : rd (crv d m) (p : Int) = ((d.countP (isMiss p) : Nat) : Int) := by
  unfold crv
  rw [rd_lt _ p (by simpa using h)]
  simp
theorem last_has (U : List Int) (i : Nat) (hi : i < (stackL U).length) : rd (stackL U) (i : Int) ∈ U ∧ ¬ rd (stackL U) (i : Int) ∈ (stackL U).take i := by
  have hf := stackL_facts U
  rw [rd_lt _ i hi]
  refine ⟨(hf.2.1 _).1 (List.getElem_mem hi), fun h => ?_⟩
  obtain ⟨j, hj, e⟩ := List.getElem_of_mem h
  rw [List.length_take] at hj
  rw [List.getElem_take] at e
  have := nodup_inj hf.1 (by omega) hi e
  omega
theorem last_ends (R U : List Int) (h : 0 < U.length) : 0 < (stackL U).length ∧ rd (stackL U) 0 = rd U ((U.length : Int) - 1) ∧ rd (stk R U U.length) 0 = rd U ((U.length : Int) - 1) := by
  obtain ⟨V, a, e⟩ : ∃ V a, U = V ++ [a] := ⟨U.take (U.length - 1), rd U ((U.length - 1 : Nat) : Int), by have := take_succ_rd U (U.length - 1) (by omega); rw [show U.length - 1 + 1 = U.length by omega, List.take_length] at this; exact this⟩
  have hlen : U.length = V.length + 1 := by rw [e, List.length_append, List.length_singleton]
  have hcast : (U.length : Int) - 1 = (V.length : Int) := by omega
  have hlast : rd U (V.length : Int) = a := by
    rw [rd_lt U V.length (by omega)]
    simp [e]
  rw [hcast, hlast]
  have hs : stackL U = frontL (stackL V) a := by rw [e, stackL_snoc]
  refine ⟨by rw [hs]; simp [frontL], by rw [hs]; rfl, ?_⟩
  rw [hlen, stk_head, hlast]
end Go.Proofs.Yteobbgofbedgdaa.Q
