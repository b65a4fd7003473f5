/- Curves: both sides' are the same; no conditions beyond those written. -/
import Derived.Test.YtfiohpbinpbhcaaQx0
import Derived.Test.YtfiohpbinpbhcaaQx5
import Derived.Test.YtfiohpbinpbhcaaQx7
import Derived.Test.YtfiohpbinpbhcaaSbase
namespace Go.Proofs.Ytfiohpbinpbhcaa.Q
open Go.RowKit Go.Proofs.YtfiohpbinpbhcaaW.PrintWords Go.Proofs.YtfiohpbinpbhcaaW.PrintLast Go.Proofs.YtfiohpbinpbhcaaW.PrintMore
attribute [local go_sem] max2_int min2_int max_two min_two max_three min_three max_four min_four   -- for this text's walks alone
set_option linter.unusedVariables false
set_option linter.unusedSimpArgs false

def isMiss (n : Nat) (d : Int) : Bool := decide (d < 0) || decide ((n : Int) ≤ d)
def crv (p : List Int) (m : Nat) : List Int := (List.range m).map (fun n => ((p.countP (isMiss n) : Nat) : Int))
theorem crv_succ (p : List Int) (m : Nat) : crv p (m + 1) = crv p m ++ [((p.countP (isMiss m) : Nat) : Int)] := by unfold crv; rw [List.range_succ, List.map_append]; rfl
theorem crv_length (p : List Int) (m : Nat) : (crv p m).length = m := by simp [crv]
theorem isMiss_lt {n : Nat} {d : Int} (h : d < 0) : isMiss n d = true := by simp [isMiss, h]
theorem isMiss_ge {n : Nat} {d : Int} (h : (n : Int) ≤ d) : isMiss n d = true := by simp [isMiss, h]
theorem isMiss_no {n : Nat} {d : Int} (h : ¬ d < 0) (h2 : ¬ d ≥ (n : Int)) : isMiss n d = false := by simp [isMiss]; omega
theorem countP_take_succ (p : List Int) (q : Int → Bool) (i : Nat) (hi : i < p.length) : (p.take (i + 1)).countP q = (p.take i).countP q + (if q (rd p (i : Int)) = true then 1 else 0) := by
  rw [take_succ_rd p i hi, List.countP_append, List.countP_singleton]
theorem ev_spec_row (p x5 : List Int) (m : Int) (n : Nat) (hl : p.length ≤ 1000000000) (hx : x5.length ≤ 1000000000) (hn : n ≤ 1000000000) (r : List Int)
    (h : Ev (fun k => spec_l04Curve.l0 k p m (x5 ++ [((p.countP (isMiss n) : Nat) : Int)]) ((n + 1 : Nat) : Int)) r) : Ev (fun k => spec_l04Curve.l1 k p m x5 (n : Int) 0 0) r := by
  refine Ev.up (fun i k => spec_l04Curve.l1 k p m x5 (n : Int) (((p.take i).countP (isMiss n) : Nat) : Int) (i : Int)) p.length r ?_ ?_
  · apply Ev.succ
    simp only [spec_l04Curve.l1]
    refine Ev.ite_neg (by omega) (Ev.ite_pos (by omega) ?_)
    rw [List.take_length, wrap64_succ (by omega)]; exact h
  · intro i hi ih
    have hc : (p.take i).countP (isMiss n) ≤ i := by have := List.countP_le_length (p := isMiss n) (l := p.take i); rw [List.length_take] at this; omega
    rw [countP_take_succ p (isMiss n) i hi] at ih
    apply Ev.succ
    simp only [spec_l04Curve.l1]
    refine Ev.ite_pos (by omega) (Ev.ite_pos (by omega) ?_)
    rw [wrap64_succ (i := i) (by omega), wrap64_succ (by omega)]
    by_cases h1 : rd p (i : Int) < 0
    · rw [if_pos (isMiss_lt h1)] at ih; exact Ev.ite_pos h1 ih
    · by_cases h2 : rd p (i : Int) ≥ (n : Int)
      · rw [if_pos (isMiss_ge h2)] at ih; exact Ev.ite_neg h1 (Ev.ite_pos h2 ih)
      · rw [if_neg (by rw [isMiss_no h1 h2]; simp)] at ih; exact Ev.ite_neg h1 (Ev.ite_neg h2 ih)
theorem ev_spec_curve (p : List Int) (m : Nat) (hl : p.length ≤ 1000000000) (hm : m ≤ 1000000) : Ev (fun k => spec_l04Curve.f k p (m : Int)) (crv p (m + 1)) := by
  unfold spec_l04Curve.f
  refine Ev.up (fun n k => spec_l04Curve.l0 k p (m : Int) (crv p n) (n : Int)) (m + 1) _ ?_ ?_
  · apply Ev.succ
    simp only [spec_l04Curve.l0]
    exact Ev.ite_neg (by omega) (Ev.now _)
  · intro n hn ih
    apply Ev.succ
    simp only [spec_l04Curve.l0]
    refine Ev.ite_pos (by omega) (ev_spec_row p _ _ n hl (by rw [crv_length]; omega) (by omega) _ ?_)
    rw [crv_succ] at ih; exact ih
theorem ev_impl_row (p x5 : List Int) (m : Int) (n : Nat) (hl : p.length ≤ 1000000000) (hx : x5.length ≤ 1000000000) (hn : n ≤ 1000000000) (r : List Int)
    (h : Ev (fun k => impl_curve.l0 k p (x5 ++ [((p.countP (isMiss n) : Nat) : Int)]) m ((n + 1 : Nat) : Int)) r) : Ev (fun k => impl_curve.l1 k p x5 (n : Int) 0 m (n : Int) p (p.length : Int) 0) r := by
  refine Ev.up (fun i k => impl_curve.l1 k p x5 (n : Int) (((p.take i).countP (isMiss n) : Nat) : Int) m (n : Int) p (p.length : Int) (i : Int)) p.length r ?_ ?_
  · apply Ev.succ
    simp only [impl_curve.l1]
    refine Ev.ite_neg (by omega) (Ev.ite_pos (by omega) ?_)
    rw [List.take_length, wrap64_succ (by omega)]; exact h
  · intro i hi ih
    have hc : (p.take i).countP (isMiss n) ≤ i := by have := List.countP_le_length (p := isMiss n) (l := p.take i); rw [List.length_take] at this; omega
    rw [countP_take_succ p (isMiss n) i hi] at ih
    apply Ev.succ
    simp only [impl_curve.l1]
    refine Ev.ite_pos (by omega) (Ev.ite_pos (by omega) (Ev.ite_pos (by omega) ?_))
    rw [wrap64_succ (i := i) (by omega), wrap64_succ (by omega)]
    by_cases h1 : rd p (i : Int) < 0
    · rw [if_pos (isMiss_lt h1)] at ih; exact Ev.ite_pos h1 ih
    · by_cases h2 : rd p (i : Int) ≥ (n : Int)
      · rw [if_pos (isMiss_ge h2)] at ih; exact Ev.ite_neg h1 (Ev.ite_pos h2 ih)
      · rw [if_neg (by rw [isMiss_no h1 h2]; simp)] at ih; exact Ev.ite_neg h1 (Ev.ite_neg h2 ih)
theorem ev_impl_curve (p : List Int) (m : Nat) (hl : p.length ≤ 1000000000) (hm : m ≤ 1000000) : Ev (fun k => impl_curve.f k p (m : Int)) (crv p (m + 1)) := by
  unfold impl_curve.f
  rw [wrap64_succ (by omega)]
  refine Ev.up (fun n k => impl_curve.l0 k p (crv p n) ((m + 1 : Nat) : Int) (n : Int)) (m + 1) _ ?_ ?_
  · apply Ev.succ
    simp only [impl_curve.l0]
    exact Ev.ite_neg (by omega) (Ev.now _)
  · intro n hn ih
    apply Ev.succ
    simp only [impl_curve.l0]
    refine Ev.ite_pos (by omega) (ev_impl_row p _ _ n hl (by rw [crv_length]; omega) (by omega) _ ?_)
    rw [crv_succ] at ih; exact ih
end Go.Proofs.Ytfiohpbinpbhcaa.Q
