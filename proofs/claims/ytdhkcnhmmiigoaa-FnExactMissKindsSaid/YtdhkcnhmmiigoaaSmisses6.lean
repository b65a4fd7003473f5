/- The reference's misses of sets with places; no conditions beyond those written. -/
import Derived.Test.YtdhkcnhmmiigoaaQx0
import Derived.Test.YtdhkcnhmmiigoaaQx7
import Derived.Test.YtdhkcnhmmiigoaaSbase
import Derived.Test.YtdhkcnhmmiigoaaSlast
import Derived.Test.YtdhkcnhmmiigoaaSmisses
import Derived.Test.YtdhkcnhmmiigoaaSsetl
import Derived.Test.YtdhkcnhmmiigoaaSl00put
import Derived.Test.YtdhkcnhmmiigoaaSxor
namespace Go.Proofs.Ytdhkcnhmmiigoaa.Q
open Go.RowKit Go.Proofs.YtdhkcnhmmiigoaaW.PrintWords Go.Proofs.YtdhkcnhmmiigoaaW.PrintLast Go.Proofs.YtdhkcnhmmiigoaaW.PrintMore
attribute [local go_sem] max2_int min2_int max_two min_two max_three min_three max_four min_four   -- for this text's walks alone
set_option linter.unusedVariables false
set_option linter.unusedSimpArgs false

theorem others_snoc (R s : List Int) (a : Int) (j : Nat) (h : j < s.length) : ((s.take (j + 1)).filter fun x => !(!decide (setVal R a = setVal R x))).length = ((s.take j).filter fun x => !(!decide (setVal R a = setVal R x))).length + if setVal R a = setVal R (rd s (j : Int)) then 1 else 0 := by
  rw [take_succ_rd s j h, List.filter_append, List.length_append]
  congr 1
  by_cases hc : setVal R a = setVal R (rd s (j : Int)) <;> simp [List.filter_cons, hc]
theorem ev_misses_l1 (R : List Int) (p : Int) (U : List Int) (out : Int) (i : Nat) (s : List Int) (ag : Bool) (hi : i < U.length) (hl : U.length ≤ 60) (hr : R.length ≤ 3) (hR : ∀ x ∈ R, 0 ≤ x ∧ x ≤ 63) (hU : ∀ x ∈ U, 0 ≤ x ∧ x ≤ 63) (hs : ∀ x ∈ s, 0 ≤ x ∧ x ≤ 63) (hsl : s.length ≤ 1000) (r : Int)
    (h : Ev (fun k => spec_l06Misses.l0 k R p U (if (!ag || decide (p ≤ ((s.filter fun x => !(!decide (setVal R (rd U (i : Int)) = setVal R x))).length : Int))) = true then wrap64 (out + 1) else out) ((i + 1 : Nat) : Int)) r) : Ev (fun k => spec_l06Misses.l1 k R p U out (i : Int) s ag 0 0) r := by
  have ha : 0 ≤ rd U (i : Int) ∧ rd U (i : Int) ≤ 63 := by rw [rd_lt U i hi]; exact hU _ (List.getElem_mem hi)
  have key := Ev.up (fun j k => spec_l06Misses.l1 k R p U out (i : Int) s ag (((s.take j).filter fun x => !(!decide (setVal R (rd U (i : Int)) = setVal R x))).length : Int) (j : Int)) s.length r ?_ ?_
  · simpa using key
  · rw [List.take_length]
    apply Ev.succ
    simp only [spec_l06Misses.l1]
    refine Ev.ite_neg (by omega) ?_
    rw [wrap64_succ (by omega)]
    cases ag with
    | false =>
      rw [if_pos (by simp)] at h
      exact Ev.ite_neg (by simp) h
    | true =>
      by_cases hc : p ≤ ((s.filter fun x => !(!decide (setVal R (rd U (i : Int)) = setVal R x))).length : Int)
      · rw [if_pos (by rw [decide_eq_true hc]; rfl)] at h
        exact Ev.ite_pos rfl (Ev.ite_pos hc h)
      · rw [if_neg (by rw [decide_eq_false hc]; simp)] at h
        exact Ev.ite_pos rfl (Ev.ite_neg hc h)
  · intro j hj ih
    have hx := hs _ (List.getElem_mem hj)
    rw [← rd_lt s j hj] at hx
    have hxo := xor_xo hx ha
    have hle := List.length_filter_le (fun x => !(!decide (setVal R (rd U (i : Int)) = setVal R x))) (s.take j)
    rw [List.length_take] at hle
    rw [others_snoc R s _ j hj] at ih
    have hss := set_same R (rd s (j : Int)) (rd U (i : Int)) hr hR hx ha
    apply Ev.succ
    simp only [spec_l06Misses.l1]
    refine Ev.ite_pos (by omega) (Ev.ite_pos (by omega) (Ev.ite_pos (by omega) (Ev.ite_pos (by omega) ?_)))
    rw [hxo.1]
    refine Ev.bind (ev_l06Set R _ hr hR hxo.2.1 hxo.2.2) ?_
    by_cases hc : setVal R (rd U (i : Int)) = setVal R (rd s (j : Int))
    · rw [if_pos hc] at ih
      refine Ev.ite_pos (hss.2 hc.symm) ?_
      rw [wrap64_succ (by omega), wrap64_succ (by omega)]
      exact ih
    · rw [if_neg hc, Nat.add_zero] at ih
      refine Ev.ite_neg (fun e => hc (hss.1 e).symm) ?_
      rw [wrap64_succ (by omega)]
      exact ih
theorem ev_l06Misses (R : List Int) (p : Int) (U : List Int) (hl : U.length ≤ 60) (hr : R.length ≤ 3) (hR : ∀ x ∈ R, 0 ≤ x ∧ x ≤ 63) (hU : ∀ x ∈ U, 0 ≤ x ∧ x ≤ 63) : Ev (fun k => spec_l06Misses.f k R p U) (misN R p U U.length : Int) := by
  unfold spec_l06Misses.f
  refine Ev.up (fun i k => spec_l06Misses.l0 k R p U (misN R p U i : Int) (i : Int)) U.length _ ?_ ?_
  · apply Ev.succ
    simp only [spec_l06Misses.l0]
    exact Ev.ite_neg (by omega) (Ev.now _)
  · intro i hi ih
    have hn := misN_le R p U i
    have hst : (misN R p U (i + 1) : Int) = if missAt R p U i = true then wrap64 ((misN R p U i : Int) + 1) else (misN R p U i : Int) := by
      show ((misN R p U i + if missAt R p U i = true then 1 else 0 : Nat) : Int) = _
      rw [wrap64_succ (by omega)]
      split <;> rfl
    rw [hst] at ih
    apply Ev.succ
    simp only [spec_l06Misses.l0]
    refine Ev.ite_pos (by omega) (Ev.bind (ev_l06Since U i hi (by omega)) ?_)
    have hma : missAt R p U i = (!decide (0 ≤ lu U (rd U (i : Int)) i) || decide (p ≤ ((othersOf R U i).length : Int))) := rfl
    have hbl := between_length U i
    cases hag : again U i with
    | false =>
      rw [if_neg (by simp)]
      have h0 : decide (0 ≤ lu U (rd U (i : Int)) i) = false := hag
      have hm : missAt R p U i = true := by rw [hma, h0]; rfl
      rw [hm, if_pos rfl] at ih
      refine ev_misses_l1 R p U _ i [] false hi hl hr hR hU (by simp) (by simp) _ ?_
      rw [if_pos (by simp)]
      exact ih
    | true =>
      rw [if_pos rfl]
      have h0 : decide (0 ≤ lu U (rd U (i : Int)) i) = true := hag
      have hbm : ∀ x ∈ between U i, 0 ≤ x ∧ x ≤ 63 := fun x hx => hU x (List.mem_of_mem_take (List.mem_of_mem_drop (((setL_facts _).2 x).1 hx)))
      refine ev_misses_l1 R p U _ i (between U i) true hi hl hr hR hU hbm (by omega) _ ?_
      rw [hma, h0] at ih
      exact ih
end Go.Proofs.Ytdhkcnhmmiigoaa.Q
