/- Parts of the proof, laid together: contracts and lemmas; no conditions beyond those written. -/
import Derived.Test.YtfiohpbinpbhcaaQx0
import Derived.Test.YtfiohpbinpbhcaaQx2
import Derived.Test.YtfiohpbinpbhcaaScurve
import Derived.Test.YtfiohpbinpbhcaaSsetldef
import Derived.Test.YtfiohpbinpbhcaaSlu
import Derived.Test.YtfiohpbinpbhcaaQx1
namespace Go.Proofs.Ytfiohpbinpbhcaa.Q
open Go.RowKit Go.Proofs.YtfiohpbinpbhcaaW.PrintWords Go.Proofs.YtfiohpbinpbhcaaW.PrintLast Go.Proofs.YtfiohpbinpbhcaaW.PrintMore
attribute [local go_sem] max2_int min2_int max_two min_two max_three min_three max_four min_four   -- for this text's walks alone
set_option linter.unusedVariables false
set_option linter.unusedSimpArgs false
section
theorem ev_l06Since (l : List Int) (i : Nat) (hi : i < l.length) (h : l.length ≤ 1000000000) : Ev (fun k => spec_l06Since.f k l (i : Int)) (if again l i = true then (between l i, true) else ([], false)) := by
  unfold spec_l06Since.f again
  have hr := lu_range l (rd l (i : Int)) i
  refine Ev.ite_pos (by omega) (Ev.ite_pos (by omega) (Ev.bind (ev_l02Last l _ i (by omega) (by omega)) ?_))
  by_cases h0 : 0 ≤ lu l (rd l (i : Int)) i
  · rw [if_pos (by simpa using h0), wrap64_id (by omega) (by omega)]
    refine Ev.ite_neg (by omega) (Ev.ite_pos (by omega) (Ev.ite_pos (by omega) (Ev.ite_pos (by omega) (Ev.bind (ev_l02Set _ ?_) (Ev.eq (Ev.now _) ?_)))))
    · rw [List.length_drop, List.length_take]; omega
    · rw [Int.toNat_natCast]; rfl
  · rw [if_neg (by simpa using h0)]
    exact Ev.ite_pos (by omega) (Ev.now _)
end
section
theorem ev_l04Distances (l : List Int) (h : l.length ≤ 1000000000) : Ev (fun k => spec_l04Distances.f k l) (dists l) := by
  unfold spec_l04Distances.f
  refine Ev.up (fun i k => spec_l04Distances.l0 k l (distsTo l i) (i : Int)) l.length (dists l) ?_ ?_
  · apply Ev.succ
    simp only [spec_l04Distances.l0]
    exact Ev.ite_neg (by omega) (Ev.now _)
  · intro i hi ih
    apply Ev.succ
    simp only [spec_l04Distances.l0]
    have hlen := distsTo_length l i
    rw [distsTo_succ] at ih
    unfold distAt at ih
    refine Ev.ite_pos (by omega) (Ev.bind (ev_l06Since l i hi h) ?_)
    rw [wrap64_succ (by omega)]
    by_cases ha : again l i = true
    · rw [if_pos ha] at ih ⊢
      exact Ev.ite_pos rfl (Ev.ite_pos (by omega) ih)
    · rw [if_neg ha] at ih ⊢
      exact Ev.ite_neg (by simp) (Ev.ite_pos (by omega) ih)
end
section
theorem ev_toInt64S (l : List Int) (h : l.length ≤ 35184372088832) : Ev (fun k => laws_toInt64S.f k l) l := by
  unfold laws_toInt64S.f
  refine Ev.ite_pos (by omega) (Ev.ite_pos (by omega) ?_)
  rw [show ((l.length : Int) : Int).toNat = l.length from Int.toNat_natCast _]
  have S0 : List.replicate l.length 0 = l.take 0 ++ List.replicate (l.length - 0) (0 : Int) := by simp
  rw [S0]
  refine Ev.up (fun i k => laws_toInt64S.l0 k l (l.take i ++ List.replicate (l.length - i) 0) (i : Int)) l.length l ?_ ?_
  · apply Ev.succ
    simp only [laws_toInt64S.l0]
    refine Ev.ite_neg (by omega) ?_
    rw [List.take_length, Nat.sub_self, List.replicate_zero, List.append_nil]
    exact Ev.now _
  · intro i hi ih
    apply Ev.succ
    simp only [laws_toInt64S.l0]
    refine Ev.ite_pos (by omega) (Ev.ite_pos (by omega) (Ev.ite_pos ?_ ?_))
    · simp; omega
    · rw [wrap64_succ (by omega), Int.toNat_natCast]
      have e : (l.take i ++ List.replicate (l.length - i) 0).set i (rd l (i : Int)) = l.take (i + 1) ++ List.replicate (l.length - (i + 1)) 0 := by
        rw [take_succ_rd l i hi, List.set_append_right (h := by simp; omega), List.append_assoc]
        congr 1
        rw [List.length_take, Nat.min_eq_left (by omega), Nat.sub_self, show l.length - i = (l.length - (i + 1)) + 1 by omega, List.replicate_succ]
        rfl
      rw [e]
      exact ih
theorem ev_eqInt64S (a b : List Int) (h : a.length ≤ 35184372088832) : Ev (fun k => laws_eqInt64S.f k a b) (decide (a = b)) := by
  unfold laws_eqInt64S.f
  by_cases hl : (a.length : Int) = (b.length : Int)
  · refine Ev.ite_pos hl ?_
    have hl' : a.length = b.length := by omega
    have key := Ev.down (fun i k => laws_eqInt64S.l0 k a b (i : Int)) a.length (fun i => decide (a.drop i = b.drop i)) ?_ ?_ 0 (Nat.zero_le _)
    · exact Ev.eq key (by simp)
    · apply Ev.succ
      simp only [laws_eqInt64S.l0]
      refine Ev.ite_neg (by omega) (Ev.eq (Ev.now _) ?_)
      simp [hl']
    · intro i hi ih
      apply Ev.succ
      simp only [laws_eqInt64S.l0]
      refine Ev.ite_pos (by omega) (Ev.ite_pos (by omega) (Ev.ite_pos (by omega) ?_))
      rw [drop_rd a i hi, drop_rd b i (by omega)]
      by_cases hx : rd a (i : Int) = rd b (i : Int)
      · refine Ev.ite_pos hx ?_
        rw [wrap64_succ (by omega)]
        refine Ev.eq ih ?_
        simp [hx]
      · exact Ev.ite_neg hx (Ev.eq (Ev.now _) (by simp [hx]))
  · refine Ev.ite_neg hl (Ev.eq (Ev.now _) ?_)
    have : a ≠ b := fun e => hl (by rw [e])
    simp [this]
theorem ev_eqInt64S_same (a : List Int) (h : a.length ≤ 35184372088832) : Ev (fun k => laws_eqInt64S.f k a a) true := Ev.eq (ev_eqInt64S a a h) (by simp)
end
end Go.Proofs.Ytfiohpbinpbhcaa.Q
