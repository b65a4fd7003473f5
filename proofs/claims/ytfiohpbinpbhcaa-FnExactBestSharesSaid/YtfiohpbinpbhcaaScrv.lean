/- Parts of the proof, laid together: contracts and lemmas; no conditions beyond those written. -/
import Derived.Test.YtfiohpbinpbhcaaQx0
import Derived.Test.YtfiohpbinpbhcaaQx2
import Derived.Test.YtfiohpbinpbhcaaSsetldef
import Derived.Test.YtfiohpbinpbhcaaSsetl
namespace Go.Proofs.Ytfiohpbinpbhcaa.Q
open Go.RowKit Go.Proofs.YtfiohpbinpbhcaaW.PrintWords Go.Proofs.YtfiohpbinpbhcaaW.PrintLast Go.Proofs.YtfiohpbinpbhcaaW.PrintMore
attribute [local go_sem] max2_int min2_int max_two min_two max_three min_three max_four min_four   -- for this text's walks alone
set_option linter.unusedVariables false
set_option linter.unusedSimpArgs false
section
def isMiss (n : Nat) (d : Int) : Bool := decide (d < 0) || decide ((n : Int) ≤ d)
def crv (p : List Int) (m : Nat) : List Int := (List.range m).map (fun n => ((p.countP (isMiss n) : Nat) : Int))
theorem crv_succ (p : List Int) (m : Nat) : crv p (m + 1) = crv p m ++ [((p.countP (isMiss m) : Nat) : Int)] := by unfold crv; rw [List.range_succ, List.map_append]; rfl
theorem crv_length (p : List Int) (m : Nat) : (crv p m).length = m := by simp [crv]
theorem isMiss_lt {n : Nat} {d : Int} (h : d < 0) : isMiss n d = true := by simp [isMiss, h]
theorem isMiss_ge {n : Nat} {d : Int} (h : (n : Int) ≤ d) : isMiss n d = true := by simp [isMiss, h]
theorem isMiss_no {n : Nat} {d : Int} (h : ¬ d < 0) (h2 : ¬ d ≥ (n : Int)) : isMiss n d = false := by simp [isMiss]; omega
theorem countP_take_succ (p : List Int) (q : Int → Bool) (i : Nat) (hi : i < p.length) : (p.take (i + 1)).countP q = (p.take i).countP q + (if q (rd p (i : Int)) = true then 1 else 0) := by
  rw [take_succ_rd p i hi, List.countP_append, List.countP_singleton]
theorem ev_impl_row (p x5 : List Int) (m : Int) (n : Nat) (hl : p.length ≤ 1000000000) (hx : x5.length ≤ 1000000000) (hn : n ≤ 1000000000) (r : List Int)
    (h : Ev (fun k => impl_curve.l0 k p (x5 ++ [((p.countP (isMiss n) : Nat) : Int)]) m ((n + 1 : Nat) : Int)) r) : Ev (fun k => impl_curve.l1 k p x5 (n : Int) 0 m (n : Int) p (p.length : Int) 0) r := by
  refine Ev.up (fun i k => impl_curve.l1 k p x5 (n : Int) (((p.take i).countP (isMiss n) : Nat) : Int) m (n : Int) p (p.length : Int) (i : Int)) p.length r ?_ ?_
  · apply Ev.succ
    simp only [impl_curve.l1]
    refine Ev.ite_neg (by omega) (Ev.ite_pos (by omega) ?_)
    rw [List.take_length, wrap64_succ (by omega)]; exact h
  · intro i hi ih
    have hc : (p.take i).countP (isMiss n) ≤ i := by have := List.countP_le_length (p := isMiss n) (l := p.take i); rw [List.length_take] at this; omega
    rw [countP_take_succ p (isMiss n) i hi] at ih
    apply Ev.succ
    simp only [impl_curve.l1]
    refine Ev.ite_pos (by omega) (Ev.ite_pos (by omega) (Ev.ite_pos (by omega) ?_))
    rw [wrap64_succ (i := i) (by omega), wrap64_succ (by omega)]
    by_cases h1 : rd p (i : Int) < 0
    · rw [if_pos (isMiss_lt h1)] at ih; exact Ev.ite_pos h1 ih
    · by_cases h2 : rd p (i : Int) ≥ (n : Int)
      · rw [if_pos (isMiss_ge h2)] at ih; exact Ev.ite_neg h1 (Ev.ite_pos h2 ih)
      · rw [if_neg (by rw [isMiss_no h1 h2]; simp)] at ih; exact Ev.ite_neg h1 (Ev.ite_neg h2 ih)
theorem ev_impl_curve (p : List Int) (m : Nat) (hl : p.length ≤ 1000000000) (hm : m ≤ 1000000) : Ev (fun k => impl_curve.f k p (m : Int)) (crv p (m + 1)) := by
  unfold impl_curve.f
  rw [wrap64_succ (by omega)]
  refine Ev.up (fun n k => impl_curve.l0 k p (crv p n) ((m + 1 : Nat) : Int) (n : Int)) (m + 1) _ ?_ ?_
  · apply Ev.succ
    simp only [impl_curve.l0]
    exact Ev.ite_neg (by omega) (Ev.now _)
  · intro n hn ih
    apply Ev.succ
    simp only [impl_curve.l0]
    refine Ev.ite_pos (by omega) (ev_impl_row p _ _ n hl (by rw [crv_length]; omega) (by omega) _ ?_)
    rw [crv_succ] at ih; exact ih
end
section
theorem ev_l00Put_done (l : List Int) (n : Int) (hl : l.length ≤ 1000000000) : ∀ (d i : Nat) (out : List Int), i + d = l.length → out.length + d < 17592186044416 → Ev (fun k => spec_l00Put.l0 k l n out true (i : Int)) (out ++ l.drop i) := by
  intro d
  induction d with
  | zero =>
    intro i out hi hb
    apply Ev.succ
    simp only [spec_l00Put.l0]
    refine Ev.ite_neg (by omega) (Ev.ite_pos (by simp) (Ev.eq (Ev.now _) ?_))
    rw [List.drop_eq_nil_of_le (by omega), List.append_nil]
  | succ d ih =>
    intro i out hi hb
    apply Ev.succ
    simp only [spec_l00Put.l0]
    refine Ev.ite_pos (by omega) (Ev.ite_pos (by simp) ?_)
    apply Ev.succ
    simp only [spec_l00Put.j1]
    refine Ev.ite_neg (by simp) (Ev.ite_pos (by omega) (Ev.ite_pos (by omega) (Ev.ite_pos (by omega) ?_)))
    rw [wrap64_succ (by omega)]
    refine Ev.eq (ih (i + 1) _ (by omega) (by simp; omega)) ?_
    rw [drop_rd l i (by omega), List.append_assoc]; rfl
theorem ev_l00Put_open (l : List Int) (n : Int) (hl : l.length ≤ 1000000000) : ∀ (d i : Nat) (out : List Int), i + d = l.length → out.length + d + 1 < 17592186044416 → Ev (fun k => spec_l00Put.l0 k l n out false (i : Int)) (out ++ putL (l.drop i) n) := by
  intro d
  induction d with
  | zero =>
    intro i out hi hb
    apply Ev.succ
    simp only [spec_l00Put.l0]
    refine Ev.ite_neg (by omega) (Ev.ite_neg (by simp) (Ev.ite_pos (by omega) (Ev.eq (Ev.now _) ?_)))
    rw [List.drop_eq_nil_of_le (by omega)]; rfl
  | succ d ih =>
    intro i out hi hb
    apply Ev.succ
    simp only [spec_l00Put.l0]
    refine Ev.ite_pos (by omega) (Ev.ite_neg (by simp) (Ev.ite_pos (by omega) ?_))
    apply Ev.succ
    simp only [spec_l00Put.j1]
    rw [drop_rd l i (by omega)]
    by_cases h1 : rd l (i : Int) ≥ n
    · refine Ev.ite_pos (by simpa using h1) (Ev.ite_pos (by omega) (Ev.ite_pos (by omega) ?_))
      by_cases h2 : rd l (i : Int) > n
      · refine Ev.ite_pos h2 (Ev.ite_pos (by omega) ?_)
        simp only [Option.bind_some]
        refine Ev.ite_pos (by simp; omega) ?_
        rw [wrap64_succ (by omega)]
        refine Ev.eq (ev_l00Put_done l n hl d (i + 1) _ (by omega) (by simp; omega)) ?_
        unfold putL
        rw [if_pos h1, if_pos h2]
        simp
      · refine Ev.ite_neg h2 (Ev.ite_pos (by omega) ?_)
        rw [wrap64_succ (by omega)]
        refine Ev.eq (ev_l00Put_done l n hl d (i + 1) _ (by omega) (by simp; omega)) ?_
        unfold putL
        rw [if_pos h1, if_neg h2]
        simp
    · refine Ev.ite_neg (by simpa using h1) (Ev.ite_pos (by omega) (Ev.ite_pos (by omega) (Ev.ite_pos (by omega) ?_)))
      rw [wrap64_succ (by omega)]
      refine Ev.eq (ih (i + 1) _ (by omega) (by simp; omega)) ?_
      rw [show putL (rd l (i : Int) :: l.drop (i + 1)) n = rd l (i : Int) :: putL (l.drop (i + 1)) n from by
        conv => lhs; unfold putL
        rw [if_neg h1]]
      simp
theorem ev_l00Put (l : List Int) (n : Int) (h : l.length ≤ 1000000000) : Ev (fun k => spec_l00Put.f k l n) (putL l n) := by
  unfold spec_l00Put.f
  exact Ev.eq (ev_l00Put_open l n h l.length 0 [] (by omega) (by simp; omega)) (by simp)
end
end Go.Proofs.Ytfiohpbinpbhcaa.Q
