/- Parts of the proof, laid together: contracts and lemmas; no conditions beyond those written. -/
import Derived.Test.YteobbgofbedgdaaQx0
import Derived.Test.YteobbgofbedgdaaQx2
import Derived.Test.YteobbgofbedgdaaSusesimpl
import Derived.Test.YteobbgofbedgdaaSbase
import Derived.Test.YteobbgofbedgdaaSsetldef
import Derived.Test.YteobbgofbedgdaaSrankdefs
namespace Go.Proofs.Yteobbgofbedgdaa.Q
open Go.RowKit Go.Proofs.YteobbgofbedgdaaW.PrintWords Go.Proofs.YteobbgofbedgdaaW.PrintLast Go.Proofs.YteobbgofbedgdaaW.PrintMore
attribute [local go_sem] max2_int min2_int max_two min_two max_three min_three max_four min_four   -- for this text's walks alone
set_option linter.unusedVariables false
set_option linter.unusedSimpArgs false
section
def stepsOf (s f : Nat) (n : Nat) : List Int := (List.range n).map fun k => (((f + s * k) % 64 : Nat) : Int)
theorem stepsOf_succ (s f n : Nat) : stepsOf s f (n + 1) = stepsOf s f n ++ [(((f + s * n) % 64 : Nat) : Int)] := by unfold stepsOf; rw [List.range_succ, List.map_append]; rfl
theorem stepsOf_length (s f n : Nat) : (stepsOf s f n).length = n := by simp [stepsOf]
theorem steps_ok (s f : Nat) (hs : s = 1 ∨ s = 3 ∨ s = 5 ∨ s = 7 ∨ s = 11 ∨ s = 63) : okRanks (stepsOf s f 64) = true := by
  refine (okRanks_iff _).2 ⟨(rk_iff _ []).2 ⟨fun x hx => ?_, ?_, fun x _ => by simp⟩, stepsOf_length s f 64⟩
  · obtain ⟨k, _, rfl⟩ := List.mem_map.1 hx
    omega
  · unfold stepsOf List.Nodup
    rw [List.pairwise_map]
    refine List.Pairwise.imp_of_mem ?_ List.nodup_range
    intro a b ha hb hab
    have ha' := List.mem_range.1 ha
    have hb' := List.mem_range.1 hb
    rcases hs with rfl | rfl | rfl | rfl | rfl | rfl <;> omega
theorem ev_R8Ranks (l : List Int) (hb : Bytes l) : ∃ r, Ev (fun k => spec_R8Ranks.f k l) r ∧ okRanks r = true := by
  unfold spec_R8Ranks.f
  obtain ⟨s, a1, s1, e1, hs, h1⟩ := among_ok l hb 0 0 [1, 3, 5, 7, 11, 63] (by simp) (by simp) (by omega)
  obtain ⟨f, a2, s2, e2, hf, h2⟩ := pick_ok l hb a1 s1 64 (by omega) (by omega) (by omega)
  obtain ⟨n, rfl, hn⟩ : ∃ n : Nat, s = (n : Int) ∧ (n = 1 ∨ n = 3 ∨ n = 5 ∨ n = 7 ∨ n = 11 ∨ n = 63) := ⟨s.toNat, by simp at hs; omega, by simp at hs; omega⟩
  refine ⟨stepsOf n f 64, Ev.cbind (a := (l, 0, 0)) rfl (Ev.cbind e1 (Ev.cbind e2 ?_)), steps_ok n f hn⟩
  refine Ev.up (fun i k => spec_R8Ranks.l0 k (stepsOf n f i) (n : Int) (f : Int) (i : Int)) 64 _ ?_ ?_
  · apply Ev.succ
    simp only [spec_R8Ranks.l0]
    exact Ev.ite_neg (by omega) (Ev.now _)
  · intro i hi ih
    have hl := stepsOf_length n f i
    have hm : (n : Int) * (i : Int) = ((n * i : Nat) : Int) := by omega
    have hle : n * i ≤ 63 * 64 := Nat.mul_le_mul (by omega) (by omega)
    have e : Int.tmod (wrap64 ((f : Int) + wrap64 ((n : Int) * (i : Int)))) 64 = (((f + n * i) % 64 : Nat) : Int) := by
      rw [hm, wrap64_id (x := ((n * i : Nat) : Int)) (by omega) (by omega), wrap64_id (by omega) (by omega)]
      rw [Int.tmod_eq_emod_of_nonneg (by omega)]
      omega
    rw [stepsOf_succ] at ih
    apply Ev.succ
    simp only [spec_R8Ranks.l0]
    refine Ev.ite_pos (by omega) (Ev.ite_pos (by omega) ?_)
    rw [e, wrap64_succ (by omega)]
    exact ih
end
section
def isMiss (n : Nat) (d : Int) : Bool := decide (d < 0) || decide ((n : Int) ≤ d)
def crv (p : List Int) (m : Nat) : List Int := (List.range m).map (fun n => ((p.countP (isMiss n) : Nat) : Int))
theorem crv_succ (p : List Int) (m : Nat) : crv p (m + 1) = crv p m ++ [((p.countP (isMiss m) : Nat) : Int)] := by unfold crv; rw [List.range_succ, List.map_append]; rfl
theorem crv_length (p : List Int) (m : Nat) : (crv p m).length = m := by simp [crv]
theorem isMiss_lt {n : Nat} {d : Int} (h : d < 0) : isMiss n d = true := by simp [isMiss, h]
theorem isMiss_ge {n : Nat} {d : Int} (h : (n : Int) ≤ d) : isMiss n d = true := by simp [isMiss, h]
theorem isMiss_no {n : Nat} {d : Int} (h : ¬ d < 0) (h2 : ¬ d ≥ (n : Int)) : isMiss n d = false := by simp [isMiss]; omega
theorem countP_take_succ (p : List Int) (q : Int → Bool) (i : Nat) (hi : i < p.length) : (p.take (i + 1)).countP q = (p.take i).countP q + (if q (rd p (i : Int)) = true then 1 else 0) := by
  rw [take_succ_rd p i hi, List.countP_append, List.countP_singleton]
theorem ev_impl_row (p x5 : List Int) (m : Int) (n : Nat) (hl : p.length ≤ 1000000000) (hx : x5.length ≤ 1000000000) (hn : n ≤ 1000000000) (r : List Int)
    (h : Ev (fun k => impl_curve.l0 k p (x5 ++ [((p.countP (isMiss n) : Nat) : Int)]) m ((n + 1 : Nat) : Int)) r) : Ev (fun k => impl_curve.l1 k p x5 (n : Int) 0 m (n : Int) p (p.length : Int) 0) r := by
  refine Ev.up (fun i k => impl_curve.l1 k p x5 (n : Int) (((p.take i).countP (isMiss n) : Nat) : Int) m (n : Int) p (p.length : Int) (i : Int)) p.length r ?_ ?_
  · apply Ev.succ
    simp only [impl_curve.l1]
    refine Ev.ite_neg (by omega) (Ev.ite_pos (by omega) ?_)
    rw [List.take_length, wrap64_succ (by omega)]; exact h
  · intro i hi ih
    have hc : (p.take i).countP (isMiss n) ≤ i := by have := List.countP_le_length (p := isMiss n) (l := p.take i); rw [List.length_take] at this; omega
    rw [countP_take_succ p (isMiss n) i hi] at ih
    apply Ev.succ
    simp only [impl_curve.l1]
    refine Ev.ite_pos (by omega) (Ev.ite_pos (by omega) (Ev.ite_pos (by omega) ?_))
    rw [wrap64_succ (i := i) (by omega), wrap64_succ (by omega)]
    by_cases h1 : rd p (i : Int) < 0
    · rw [if_pos (isMiss_lt h1)] at ih; exact Ev.ite_pos h1 ih
    · by_cases h2 : rd p (i : Int) ≥ (n : Int)
      · rw [if_pos (isMiss_ge h2)] at ih; exact Ev.ite_neg h1 (Ev.ite_pos h2 ih)
      · rw [if_neg (by rw [isMiss_no h1 h2]; simp)] at ih; exact Ev.ite_neg h1 (Ev.ite_neg h2 ih)
theorem ev_impl_curve (p : List Int) (m : Nat) (hl : p.length ≤ 1000000000) (hm : m ≤ 1000000) : Ev (fun k => impl_curve.f k p (m : Int)) (crv p (m + 1)) := by
  unfold impl_curve.f
  rw [wrap64_succ (by omega)]
  refine Ev.up (fun n k => impl_curve.l0 k p (crv p n) ((m + 1 : Nat) : Int) (n : Int)) (m + 1) _ ?_ ?_
  · apply Ev.succ
    simp only [impl_curve.l0]
    exact Ev.ite_neg (by omega) (Ev.now _)
  · intro n hn ih
    apply Ev.succ
    simp only [impl_curve.l0]
    refine Ev.ite_pos (by omega) (ev_impl_row p _ _ n hl (by rw [crv_length]; omega) (by omega) _ ?_)
    rw [crv_succ] at ih; exact ih
end
end Go.Proofs.Yteobbgofbedgdaa.Q
