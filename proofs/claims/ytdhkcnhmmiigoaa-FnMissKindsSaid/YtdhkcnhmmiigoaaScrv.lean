/- Parts of the proof, laid together: contracts and lemmas; no conditions beyond those written. -/
import Derived.Test.YtdhkcnhmmiigoaaQx0
import Derived.Test.YtdhkcnhmmiigoaaQx4
import Derived.Test.YtdhkcnhmmiigoaaSbase
import Derived.Test.YtdhkcnhmmiigoaaQx3
import Derived.Test.YtdhkcnhmmiigoaaSamong
import Derived.Test.YtdhkcnhmmiigoaaSdraw
import Derived.Test.YtdhkcnhmmiigoaaSsetl
namespace Go.Proofs.Ytdhkcnhmmiigoaa.Q
open Go.RowKit Go.Proofs.YtdhkcnhmmiigoaaW.PrintWords Go.Proofs.YtdhkcnhmmiigoaaW.PrintLast Go.Proofs.YtdhkcnhmmiigoaaW.PrintMore
attribute [local go_sem] max2_int min2_int max_two min_two max_three min_three max_four min_four   -- for this text's walks alone
set_option linter.unusedVariables false
set_option linter.unusedSimpArgs false
section
def isMiss (n : Nat) (d : Int) : Bool := decide (d < 0) || decide ((n : Int) ≤ d)
def crv (p : List Int) (m : Nat) : List Int := (List.range m).map (fun n => ((p.countP (isMiss n) : Nat) : Int))
theorem crv_succ (p : List Int) (m : Nat) : crv p (m + 1) = crv p m ++ [((p.countP (isMiss m) : Nat) : Int)] := by unfold crv; rw [List.range_succ, List.map_append]; rfl
theorem crv_length (p : List Int) (m : Nat) : (crv p m).length = m := by simp [crv]
theorem isMiss_lt {n : Nat} {d : Int} (h : d < 0) : isMiss n d = true := by simp [isMiss, h]
theorem isMiss_ge {n : Nat} {d : Int} (h : (n : Int) ≤ d) : isMiss n d = true := by simp [isMiss, h]
theorem isMiss_no {n : Nat} {d : Int} (h : ¬ d < 0) (h2 : ¬ d ≥ (n : Int)) : isMiss n d = false := by simp [isMiss]; omega
theorem countP_take_succ (p : List Int) (q : Int → Bool) (i : Nat) (hi : i < p.length) : (p.take (i + 1)).countP q = (p.take i).countP q + (if q (rd p (i : Int)) = true then 1 else 0) := by
  rw [take_succ_rd p i hi, List.countP_append, List.countP_singleton]
theorem ev_impl_row (p x5 : List Int) (m : Int) (n : Nat) (hl : p.length ≤ 1000000000) (hx : x5.length ≤ 1000000000) (hn : n ≤ 1000000000) (r : List Int)
    (h : Ev (fun k => impl_curve.l0 k p (x5 ++ [((p.countP (isMiss n) : Nat) : Int)]) m ((n + 1 : Nat) : Int)) r) : Ev (fun k => impl_curve.l1 k p x5 (n : Int) 0 m (n : Int) p (p.length : Int) 0) r := by
  refine Ev.up (fun i k => impl_curve.l1 k p x5 (n : Int) (((p.take i).countP (isMiss n) : Nat) : Int) m (n : Int) p (p.length : Int) (i : Int)) p.length r ?_ ?_
  · apply Ev.succ
    simp only [impl_curve.l1]
    refine Ev.ite_neg (by omega) (Ev.ite_pos (by omega) ?_)
    rw [List.take_length, wrap64_succ (by omega)]; exact h
  · intro i hi ih
    have hc : (p.take i).countP (isMiss n) ≤ i := by have := List.countP_le_length (p := isMiss n) (l := p.take i); rw [List.length_take] at this; omega
    rw [countP_take_succ p (isMiss n) i hi] at ih
    apply Ev.succ
    simp only [impl_curve.l1]
    refine Ev.ite_pos (by omega) (Ev.ite_pos (by omega) (Ev.ite_pos (by omega) ?_))
    rw [wrap64_succ (i := i) (by omega), wrap64_succ (by omega)]
    by_cases h1 : rd p (i : Int) < 0
    · rw [if_pos (isMiss_lt h1)] at ih; exact Ev.ite_pos h1 ih
    · by_cases h2 : rd p (i : Int) ≥ (n : Int)
      · rw [if_pos (isMiss_ge h2)] at ih; exact Ev.ite_neg h1 (Ev.ite_pos h2 ih)
      · rw [if_neg (by rw [isMiss_no h1 h2]; simp)] at ih; exact Ev.ite_neg h1 (Ev.ite_neg h2 ih)
theorem ev_impl_curve (p : List Int) (m : Nat) (hl : p.length ≤ 1000000000) (hm : m ≤ 1000000) : Ev (fun k => impl_curve.f k p (m : Int)) (crv p (m + 1)) := by
  unfold impl_curve.f
  rw [wrap64_succ (by omega)]
  refine Ev.up (fun n k => impl_curve.l0 k p (crv p n) ((m + 1 : Nat) : Int) (n : Int)) (m + 1) _ ?_ ?_
  · apply Ev.succ
    simp only [impl_curve.l0]
    exact Ev.ite_neg (by omega) (Ev.now _)
  · intro n hn ih
    apply Ev.succ
    simp only [impl_curve.l0]
    refine Ev.ite_pos (by omega) (ev_impl_row p _ _ n hl (by rw [crv_length]; omega) (by omega) _ ?_)
    rw [crv_succ] at ih; exact ih
end
section
def dstep (a : Int) (out : List Int) (b : Int) : List Int := out.set (xo a b).toNat (wrap64 (rd out (xo a b) + 1))
def dif (l : List Int) : Nat → List Int
  | 0 => List.replicate 64 0
  | i + 1 => if again l i = true then (between l i).foldl (dstep (rd l (i : Int))) (dif l i) else dif l i
theorem dif_succ (l : List Int) (i : Nat) : dif l (i + 1) = if again l i = true then (between l i).foldl (dstep (rd l (i : Int))) (dif l i) else dif l i := rfl
theorem dstep_length (a b : Int) (out : List Int) : (dstep a out b).length = out.length := by unfold dstep; rw [List.length_set]
theorem dfold_length (a : Int) (s : List Int) : ∀ out : List Int, (s.foldl (dstep a) out).length = out.length := by
  induction s with
  | nil => intro out; rfl
  | cons b s ih => intro out; rw [List.foldl_cons, ih, dstep_length]
theorem dif_length (l : List Int) (i : Nat) : (dif l i).length = 64 := by
  induction i with
  | zero => simp [dif]
  | succ i ih =>
    rw [dif_succ]
    split
    · rw [dfold_length, ih]
    · exact ih
theorem between_mem (l : List Int) (i : Nat) (hm : ∀ x ∈ l, 0 ≤ x ∧ x ≤ 63) : ∀ x ∈ between l i, 0 ≤ x ∧ x ≤ 63 := by
  intro x hx
  have := ((setL_facts _).2 x).1 hx
  exact hm x (List.mem_of_mem_take (List.mem_of_mem_drop this))
theorem ev_impl_diffs (l : List Int) (hl : l.length ≤ 1000) (hm : ∀ x ∈ l, 0 ≤ x ∧ x ≤ 63) : Ev (fun k => impl_differencesOf.f k l) (dif l l.length) := by
  unfold impl_differencesOf.f
  refine Ev.ite_pos (by omega) (Ev.up (fun i k => impl_differencesOf.l0 k l (dif l i) l (l.length : Int) (i : Int)) l.length _ ?_ ?_)
  · apply Ev.succ
    simp only [impl_differencesOf.l0]
    exact Ev.ite_neg (by omega) (Ev.now _)
  · intro i hi ih
    have ha := hm _ (List.getElem_mem hi)
    rw [← rd_lt l i hi] at ha
    have key : ∀ s : List Int, (∀ x ∈ s, 0 ≤ x ∧ x ≤ 63) → s.length ≤ 1000000 → Ev (fun k => impl_differencesOf.l0 k l (s.foldl (dstep (rd l (i : Int))) (dif l i)) l (l.length : Int) ((i + 1 : Nat) : Int)) (dif l l.length) → Ev (fun k => impl_differencesOf.l1 k l (dif l i) (rd l (i : Int)) l (l.length : Int) (i : Int) s (s.length : Int) 0) (dif l l.length) := by
      intro s hs hsl hend
      refine Ev.up (fun j k => impl_differencesOf.l1 k l ((s.take j).foldl (dstep (rd l (i : Int))) (dif l i)) (rd l (i : Int)) l (l.length : Int) (i : Int) s (s.length : Int) (j : Int)) s.length _ ?_ ?_
      · apply Ev.succ
        simp only [impl_differencesOf.l1]
        refine Ev.ite_neg (by omega) ?_
        rw [List.take_length, wrap64_succ (by omega)]; exact hend
      · intro j hj ihj
        have hb := hs _ (List.getElem_mem hj)
        rw [← rd_lt s j hj] at hb
        have hx := xor_xo ha hb
        have hlen : ((s.take j).foldl (dstep (rd l (i : Int))) (dif l i)).length = 64 := by rw [dfold_length, dif_length]
        rw [take_succ_rd s j hj, List.foldl_append, List.foldl_cons, List.foldl_nil] at ihj
        unfold dstep at ihj
        apply Ev.succ
        simp only [impl_differencesOf.l1]
        refine Ev.ite_pos (by omega) (Ev.ite_pos (by omega) (Ev.ite_pos (by omega) ?_))
        rw [hx.1]
        refine Ev.ite_pos (by omega) (Ev.ite_pos (by omega) ?_)
        rw [wrap64_succ (by omega)]
        exact ihj
    have hr := lu_range l (rd l (i : Int)) i
    apply Ev.succ
    simp only [impl_differencesOf.l0]
    refine Ev.ite_pos (by omega) (Ev.ite_pos (by omega) (Ev.ite_pos (by omega) (Ev.ite_pos (by omega) ?_)))
    rw [Int.toNat_natCast]
    refine Ev.bind (ev_lastUse_take l _ i (by omega) (by omega)) ?_
    have hbl := between_length l i
    rw [dif_succ] at ih
    unfold again at ih
    rw [wrap64_succ (by omega)]
    by_cases h0 : 0 ≤ lu l (rd l (i : Int)) i
    · rw [if_pos (by simpa using h0)] at ih
      rw [wrap64_id (by omega) (by omega)]
      refine Ev.ite_pos (by omega) (Ev.ite_pos (by omega) (Ev.ite_pos (by omega) (Ev.cbind (impl_setOf_f _ ?_) ?_)))
      · rw [List.length_drop, List.length_take]; omega
      · exact key (between l i) (between_mem l i hm) (by omega) ih
    · rw [if_neg (by simpa using h0)] at ih
      exact Ev.ite_neg (by omega) ih
end
end Go.Proofs.Ytdhkcnhmmiigoaa.Q
