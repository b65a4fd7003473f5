/- Parts of the proof, laid together: contracts and lemmas; no conditions beyond those written. -/
import Derived.Test.YtdhkcnhmmiigoaaQx0
import Derived.Test.YtdhkcnhmmiigoaaHsetmisses
import Derived.Test.YtdhkcnhmmiigoaaQx3
import Derived.Test.YtdhkcnhmmiigoaaSokrows
import Derived.Test.YtdhkcnhmmiigoaaSlu
import Derived.Test.YtdhkcnhmmiigoaaSplaced
import Derived.Test.YtdhkcnhmmiigoaaQx1
import Derived.Test.YtdhkcnhmmiigoaaSupto
import Derived.Test.YtdhkcnhmmiigoaaSsetval
namespace Go.Proofs.Ytdhkcnhmmiigoaa.Q
open Go.RowKit Go.Proofs.YtdhkcnhmmiigoaaW.PrintWords Go.Proofs.YtdhkcnhmmiigoaaW.PrintLast Go.Proofs.YtdhkcnhmmiigoaaW.PrintMore
attribute [local go_sem] max2_int min2_int max_two min_two max_three min_three max_four min_four   -- for this text's walks alone
set_option linter.unusedVariables false
set_option linter.unusedSimpArgs false
section
theorem impl_SetMisses_ok (R : List Int) (p : Int) (U : List Int) (hr : okRows R = true) (hp : 1 ≤ p ∧ p ≤ 4) (hU : okUses U = true) : impl_SetMisses.f R p U = some ((misN R p U U.length : Int), true) := by
  unfold impl_SetMisses.f impl_Index_setMisses.f
  rw [impl_isPlaced_f]
  have : isIn 1 4 p = true := by simp [isIn]; omega
  simp [hr, hU, this]
end
section
theorem r8At_ok (l : List Int) (hb : Bytes l) (i n : Nat) (hn : 1 ≤ n) : ∃ x : Nat, laws_r8At.f l (i : Int) (n : Int) = some (x : Int) ∧ x < n := by
  unfold laws_r8At.f
  by_cases h1 : n ≤ 1
  · exact ⟨0, by rw [if_pos (by omega)]; rfl, by omega⟩
  · rw [if_neg (by omega)]
    by_cases h : i < l.length
    · have hr := hb _ (List.getElem_mem h)
      rw [if_neg (by omega), if_pos (by omega), if_pos (by omega), if_neg (by omega), rd_lt l i h, wrap64_id (by omega) (by omega)]
      have t0 := Int.tmod_nonneg (n : Int) hr.1
      have t1 := Int.tmod_lt_of_pos l[i] (show (0 : Int) < (n : Int) by omega)
      exact ⟨(Int.tmod l[i] (n : Int)).toNat, by rw [Int.toNat_of_nonneg t0], by omega⟩
    · exact ⟨0, by rw [if_pos (by omega)]; rfl, by omega⟩
end
section
theorem near_l0 (l : List Int) (hb : Bytes l) (base step : Int) (h0 : 0 ≤ base ∧ base ≤ 3) (h1 : 1 ≤ step ∧ step ≤ 16) (d : Nat) : ∀ (out : List Int) (a : Nat) (sd : Int), (∀ x ∈ out, 0 ≤ x ∧ x ≤ 63) → out.length + d ≤ 13 → a + d ≤ 1000000 →
    ∃ r, Ev (fun k => spec_R8Near.l0 k base step out (d : Int) l (a : Int) sd) r ∧ (∀ x ∈ r, 0 ≤ x ∧ x ≤ 63) ∧ r.length ≤ 13 := by
  induction d with
  | zero =>
    intro out a sd ho hl ha
    refine ⟨out, Ev.succ ?_, ho, by omega⟩
    simp only [spec_R8Near.l0]
    exact Ev.ite_neg (by omega) (Ev.now _)
  | succ d ih =>
    intro out a sd ho hl ha
    obtain ⟨x, a1, s1, e1, hx, ha1⟩ := pick_ok l hb a sd 5 (by omega) (by omega) (by omega)
    have hd : wrap64 (((d + 1 : Nat) : Int) - 1) = (d : Int) := by rw [wrap64_id (by omega) (by omega)]; omega
    have hm : 0 ≤ step * (x : Int) ∧ step * (x : Int) ≤ 64 := by
      refine ⟨Int.mul_nonneg (by omega) (by omega), ?_⟩
      have : step * (x : Int) ≤ 16 * 4 := Int.mul_le_mul h1.2 (by omega) (by omega) (by omega)
      omega
    have hw : wrap64 (base + wrap64 (step * (x : Int))) = base + step * (x : Int) := by rw [wrap64_id (x := step * (x : Int)) (by omega) (by omega), wrap64_id (by omega) (by omega)]
    have t0 := Int.tmod_nonneg (64 : Int) (show 0 ≤ base + step * (x : Int) by omega)
    have t1 := Int.tmod_lt_of_pos (base + step * (x : Int)) (show (0 : Int) < 64 by omega)
    obtain ⟨r, e, q1, q2⟩ := ih (out ++ [Int.tmod (base + step * (x : Int)) 64]) a1 s1 (fun z hz => by
      rcases List.mem_append.1 hz with hz | hz
      · exact ho z hz
      · rw [List.mem_singleton.1 hz]; omega) (by rw [List.length_append, List.length_singleton]; omega) (by omega)
    refine ⟨r, Ev.succ ?_, q1, q2⟩
    simp only [spec_R8Near.l0]
    refine Ev.ite_pos (by omega) (Ev.cbind e1 (Ev.ite_pos (by omega) ?_))
    rw [hd, hw]
    exact e
theorem ev_R8Near (l : List Int) (hb : Bytes l) : ∃ r, Ev (fun k => spec_R8Near.f k l) r ∧ okUses r = true ∧ r.length ≤ 13 := by
  unfold spec_R8Near.f
  obtain ⟨x, a1, s1, e1, hx, h1⟩ := pick_ok l hb 0 0 4 (by omega) (by omega) (by omega)
  obtain ⟨y, a2, s2, e2, hy, h2⟩ := among_ok l hb a1 s1 [1, 2, 4, 8, 9, 16] (by simp) (by simp) (by omega)
  obtain ⟨n, a3, s3, e3, hn, h3⟩ := pick_ok l hb a2 s2 14 (by omega) (by omega) (by omega)
  obtain ⟨r, e, q1, q2⟩ := near_l0 l hb (x : Int) y (by omega) (by simp at hy; omega) n [] a3 s3 (by simp) (by simp; omega) (by omega)
  exact ⟨r, Ev.cbind (a := (l, 0, 0)) rfl (Ev.cbind e1 (Ev.cbind e2 (Ev.cbind e3 e))), (okUses_iff r).2 ⟨q1, by omega⟩, q2⟩
end
end Go.Proofs.Ytdhkcnhmmiigoaa.Q
