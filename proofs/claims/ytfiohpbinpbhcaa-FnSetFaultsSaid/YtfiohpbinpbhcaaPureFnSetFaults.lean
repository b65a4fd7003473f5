/- The plain law of FnSetFaults: what it computes answers true; no conditions. -/
import Derived.Test.YtfiohpbinpbhcaaQx0
import Derived.Test.YtfiohpbinpbhcaaQx16
import Derived.Test.YtfiohpbinpbhcaaQx17
import Derived.Test.YtfiohpbinpbhcaaQx18
import Derived.Test.YtfiohpbinpbhcaaSbase
import Derived.Test.YtfiohpbinpbhcaaSdraw
import Derived.Test.YtfiohpbinpbhcaaSdrawfew
import Derived.Test.YtfiohpbinpbhcaaSgaps
import Derived.Test.YtfiohpbinpbhcaaSsetfaults
import Derived.Test.YtfiohpbinpbhcaaSuses
namespace Go.Proofs.Ytfiohpbinpbhcaa.Q
open Go.RowKit Go.Proofs.YtfiohpbinpbhcaaW.PrintWords Go.Proofs.YtfiohpbinpbhcaaW.PrintLast Go.Proofs.YtfiohpbinpbhcaaW.PrintMore
attribute [local go_sem] max2_int min2_int max_two min_two max_three min_three max_four min_four   -- for this text's walks alone
set_option linter.unusedVariables false
set_option linter.unusedSimpArgs false

def laws_FnSetFaults.PureQ : Prop := ∀ (l0 : List Int) (l1 : List Int), l0.length ≤ 9223372036854775807 → (∀ y ∈ l0, (Lit.int .u8 y).wf = true) → l1.length ≤ 9223372036854775807 → (∀ y ∈ l1, (Lit.int .u8 y).wf = true) → ∃ k, laws_FnSetFaults.f k l0 l1 = some true
end Go.Proofs.Ytfiohpbinpbhcaa.Q
namespace Go.Proofs.Ytfiohpbinpbhcaa.Pure
open Go.RowKit Go.Proofs.Ytfiohpbinpbhcaa.Q Go.Proofs.YtfiohpbinpbhcaaW.PrintWords
theorem ev_R8Uses (l : List Int) (hb : Bytes l) : ∃ u, Ev (fun k => spec_R8Uses.f k l) u ∧ okUses u = true ∧ u.length ≤ 13 := by
  unfold spec_R8Uses.f
  obtain ⟨n, a1, s1, e1, hn, h1⟩ := pick_ok l hb 0 0 14 (by omega) (by omega) (by omega)
  obtain ⟨m, a2, s2, e2, hm, h2⟩ := pick_ok l hb a1 s1 5 (by omega) (by omega) (by omega)
  obtain ⟨u, a3, s3, e3, hl, hr, h3⟩ := few_ok l hb a2 s2 n (m + 1) (by omega) (by omega) (by omega) (by omega)
  refine ⟨u, Ev.cbind (a := (l, 0, 0)) rfl (Ev.cbind e1 (Ev.cbind e2 (Ev.bind (a := (u, (a3 : Int), s3)) ?_ (Ev.now _)))), (okUses_iff u).2 ⟨hr, by omega⟩, by omega⟩
  have : wrap64 (1 + (m : Int)) = ((m + 1 : Nat) : Int) := by rw [wrap64_id (by omega) (by omega)]; omega
  show Ev (fun k => spec_l02DrawFew.f k l (a2 : Int) s2 (n : Int) (wrap64 (1 + (m : Int)))) _
  rw [this]
  exact e3
theorem r8At_ok (l : List Int) (hb : Bytes l) (i n : Nat) (hn : 2 ≤ n) : ∃ x : Nat, laws_r8At.f l (i : Int) (n : Int) = some (x : Int) ∧ x < n := by
  unfold laws_r8At.f
  by_cases h : i < l.length
  · have hr := hb _ (List.getElem_mem h)
    rw [if_neg (by omega), if_neg (by omega), if_pos (by omega), if_pos (by omega), if_neg (by omega), rd_lt l i h, wrap64_id (by omega) (by omega)]
    have t0 := Int.tmod_nonneg (n : Int) hr.1
    have t1 := Int.tmod_lt_of_pos l[i] (show (0 : Int) < (n : Int) by omega)
    exact ⟨(Int.tmod l[i] (n : Int)).toNat, by rw [Int.toNat_of_nonneg t0], by omega⟩
  · exact ⟨0, by rw [if_neg (by omega), if_pos (by omega)]; rfl, by omega⟩
theorem ev_want (l : List Int) (w : Nat) (hl : l.length ≤ 1000) (h1 : 1 ≤ w) (r : List Int) (hw : Ev (fun k => laws_r8Sum.f k r) ((wsum l w l.length : Nat) : Int)) :
    Ev (fun k => laws_FnSetFaults.l0 k (w : Int) ((flt l w l.length : Nat) : Int) ((wsum l w l.length : Nat) : Int) (gapsTo l l.length) r 0 0) true := by
  have hg := gapsTo_length l l.length
  refine Ev.up (fun i k => laws_FnSetFaults.l0 k (w : Int) ((flt l w l.length : Nat) : Int) ((wsum l w l.length : Nat) : Int) (gapsTo l l.length) r ((flt l w i : Nat) : Int) (i : Int)) l.length _ ?_ ?_
  · apply Ev.succ
    simp only [laws_FnSetFaults.l0]
    refine Ev.ite_neg (by omega) (Ev.ite_pos trivial (Ev.bind hw (Ev.eq (Ev.now _) (by simp))))
  · intro i hi ih
    have hf := flt_le l w i
    have hk := mem_kp l w i hi h1
    apply Ev.succ
    simp only [laws_FnSetFaults.l0]
    refine Ev.ite_pos (by omega) (Ev.ite_pos (by omega) ?_)
    rw [rd_gapsTo l l.length i hi, wrap64_succ (i := i) (by omega), wrap64_succ (i := flt l w i) (by omega)]
    by_cases hm : rd l (i : Int) ∈ kp l w i
    · have hn := hk.1 hm
      have hs : flt l w (i + 1) = flt l w i := by simp [flt, hm]
      rw [hs] at ih
      exact Ev.ite_neg (fun h => hn (.inl h)) (Ev.ite_neg (fun h => hn (.inr h)) ih)
    · have hs : flt l w (i + 1) = flt l w i + 1 := by simp [flt, hm]
      rw [hs] at ih
      by_cases h0 : gap l i = 0
      · exact Ev.ite_pos h0 ih
      · refine Ev.ite_neg h0 (Ev.ite_pos ?_ ih)
        rcases Int.lt_or_le (w : Int) (gap l i) with h | h
        · exact h
        · exact absurd (hk.2 (fun hh => hh.elim h0 (fun h2 => by omega))) hm
theorem FnSetFaults : laws_FnSetFaults.PureQ := by
  intro l0 l1 h0 b0 h1 b1
  have B0 := Bytes.of b0
  have B1 := Bytes.of b1
  refine Ev.rounds (g := fun k => laws_FnSetFaults.f k l0 l1) ?_
  unfold laws_FnSetFaults.f
  by_cases hlong : laws_r8Long.f l0 l1 = some true
  · exact Ev.cbind hlong (Ev.ite_pos rfl (Ev.now _))
  · have hlong' : laws_r8Long.f l0 l1 = some false := by
      unfold laws_r8Long.f at hlong ⊢
      by_cases h : (l0.length : Int) > 48
      · rw [if_pos h] at hlong; exact absurd rfl hlong
      · rw [if_neg h] at hlong ⊢
        by_cases h2 : (l1.length : Int) > 48
        · simp [h2] at hlong
        · simp [h2]
    obtain ⟨u, eu, ho, hul⟩ := ev_R8Uses l0 B0
    obtain ⟨x, ex, hx⟩ := r8At_ok l1 B1 0 10 (by omega)
    have hw : wrap64 (1 + (x : Int)) = ((x + 1 : Nat) : Int) := by rw [wrap64_id (by omega) (by omega)]; omega
    refine Ev.cbind hlong' (Ev.ite_neg (by simp) (Ev.bind eu (Ev.cbind ex ?_)))
    rw [hw]
    refine Ev.bind (impl_SetFaults_ok u (x + 1) ho (by omega) (by omega)) (Ev.bind (ev_GapsOf u ho) (Ev.bind (ev_WorkingSizes u (x + 1) ho (by omega) (by omega)) ?_))
    refine Ev.ite_pos rfl (Ev.ite_pos rfl (Ev.ite_pos rfl ?_))
    apply Ev.succ
    simp only [laws_FnSetFaults.j0]
    refine Ev.ite_neg ?_ (ev_want u (x + 1) (by omega) (by omega) _ (ev_r8Sum_sizes u (x + 1) (by omega)))
    rw [gapsTo_length]; simp
end Go.Proofs.Ytfiohpbinpbhcaa.Pure
