/- Uses that are drawn, and the law's helpers; no conditions beyond those written. -/
import Derived.Test.YtellojkbfnfacaaQx0
import Derived.Test.YtellojkbfnfacaaQx1
import Derived.Test.YtellojkbfnfacaaQx6
import Derived.Test.YtellojkbfnfacaaSbase
import Derived.Test.YtellojkbfnfacaaSdraw
namespace Go.Proofs.Ytellojkbfnfacaa.Q
open Go.RowKit Go.Proofs.YtellojkbfnfacaaW.PrintWords Go.Proofs.YtellojkbfnfacaaW.PrintLast Go.Proofs.YtellojkbfnfacaaW.PrintMore
attribute [local go_sem] max2_int min2_int max_two min_two max_three min_three max_four min_four   -- for this text's walks alone
set_option linter.unusedVariables false
set_option linter.unusedSimpArgs false

theorem ev_B10_l0 (l : List Int) (hb : Bytes l) (few : Nat) (hf1 : 1 ≤ few) (hf2 : few ≤ 100) : ∀ (d : Nat) (out : List Int) (a : Nat) (sd : Int), d ≤ 29 → out.length + d ≤ 60 → a + d ≤ 1000 →
    ∃ u, Ev (fun k => spec_B10Uses.l0 k out (few : Int) (d : Int) l (a : Int) sd) u ∧ u.length = out.length + d ∧ ∀ x ∈ u, x ∈ out ∨ (0 ≤ x ∧ x < (few : Int)) := by
  intro d
  induction d with
  | zero =>
    intro out a sd _ _ _
    refine ⟨out, ?_, by simp, fun x hx => .inl hx⟩
    apply Ev.succ
    simp only [spec_B10Uses.l0]
    exact Ev.ite_neg (by omega) (Ev.now _)
  | succ d ih =>
    intro out a sd h1 h2 h3
    obtain ⟨x, a', s, e, hx, ha'⟩ := pick_ok l hb a sd few hf1 (by omega) (by omega)
    obtain ⟨u, hu, hl, hm⟩ := ih (out ++ [(x : Int)]) a' s (by omega) (by rw [List.length_append, List.length_singleton]; omega) (by omega)
    refine ⟨u, ?_, by rw [hl, List.length_append, List.length_singleton]; omega, fun y hy => ?_⟩
    · apply Ev.succ
      simp only [spec_B10Uses.l0]
      refine Ev.ite_pos (by omega) (Ev.cbind e (Ev.ite_pos (by omega) ?_))
      rw [wrap64_id (by omega) (by omega), show ((d + 1 : Nat) : Int) - 1 = (d : Int) by omega]
      exact hu
    · rcases hm y hy with h | h
      · rcases List.mem_append.1 h with h | h
        · exact .inl h
        · rw [List.mem_singleton.1 h]; exact .inr ⟨by omega, by omega⟩
      · exact .inr h
theorem ev_B10Uses (l : List Int) (hb : Bytes l) : ∃ u, Ev (fun k => spec_B10Uses.f k l) u ∧ u.length ≤ 29 ∧ ∀ x ∈ u, 0 ≤ x ∧ x ≤ 63 := by
  unfold spec_B10Uses.f spec_l00From.f
  obtain ⟨x, a', s, e, hx, ha'⟩ := pick_ok l hb 0 0 7 (by omega) (by omega) (by omega)
  obtain ⟨y, b', t, e2, hy, hb'⟩ := pick_ok l hb a' s 30 (by omega) (by omega) (by omega)
  obtain ⟨u, hu, hl, hm⟩ := ev_B10_l0 l hb (2 + x) (by omega) (by omega) y [] b' t (by omega) (by simp; omega) (by omega)
  refine ⟨u, Ev.cbind rfl (Ev.cbind e (Ev.cbind e2 ?_)), by rw [hl]; simp; omega, fun z hz => ?_⟩
  · rw [wrap64_id (by omega) (by omega), show (2 : Int) + (x : Int) = ((2 + x : Nat) : Int) by omega]
    exact hu
  · rcases hm z hz with h | h
    · simp at h
    · omega
theorem ev_b10Has (l : List Int) (a : Int) (h : l.length ≤ 35184372088832) : Ev (fun k => laws_b10Has.f k l a) (decide (a ∈ l)) := by
  unfold laws_b10Has.f
  have key := Ev.down (fun i k => laws_b10Has.l0 k l a (i : Int)) l.length (fun i => decide (a ∈ l.drop i)) ?_ ?_ 0 (Nat.zero_le _)
  · exact Ev.eq key (by simp)
  · apply Ev.succ
    simp only [laws_b10Has.l0]
    exact Ev.ite_neg (by omega) (Ev.eq (Ev.now _) (by simp))
  · intro i hi ih
    apply Ev.succ
    simp only [laws_b10Has.l0]
    rw [drop_rd l i hi, wrap64_succ (by omega)]
    refine Ev.ite_pos (by omega) (Ev.ite_pos (by omega) ?_)
    by_cases hx : rd l (i : Int) = a
    · exact Ev.ite_pos hx (Ev.eq (Ev.now _) (by simp [hx]))
    · refine Ev.ite_neg hx (Ev.eq ih ?_)
      have : ¬ a = rd l (i : Int) := fun e => hx e.symm
      simp [this]
theorem b10At_06 (l : List Int) (hb : Bytes l) : ∃ x : Nat, laws_b10At.f l 0 6 = some (x : Int) ∧ x < 6 := by
  unfold laws_b10At.f
  rw [if_neg (by omega)]
  by_cases h : 0 < l.length
  · have hr := hb _ (List.getElem_mem h)
    have e : rd l 0 = l[0] := rd_lt l 0 h
    rw [if_pos (by omega), if_pos (by omega), if_neg (by omega), e, wrap64_id (x := l[0]) (by omega) (by omega)]
    have t0 := Int.tmod_nonneg (6 : Int) hr.1
    have t1 := Int.tmod_lt_of_pos l[0] (show (0 : Int) < 6 by omega)
    exact ⟨(Int.tmod l[0] 6).toNat, by rw [Int.toNat_of_nonneg t0], by omega⟩
  · rw [if_neg (by omega), if_neg (by omega)]
    exact ⟨5, by decide +kernel, by omega⟩
end Go.Proofs.Ytellojkbfnfacaa.Q
