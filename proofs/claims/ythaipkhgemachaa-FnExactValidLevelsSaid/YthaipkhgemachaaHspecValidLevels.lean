/- spec.ValidLevels answers whether levels are valid; their lists are short enough. -/
import Derived.Test.YthaipkhgemachaaQx0
import Derived.Test.YthaipkhgemachaaQx1
import Derived.Test.YthaipkhgemachaaSl03Is
import Derived.Test.YthaipkhgemachaaSokpolicy
namespace Go.Proofs.Ythaipkhgemachaa.Q
open Go.RowKit Go.Proofs.YthaipkhgemachaaW.PrintWords Go.Proofs.YthaipkhgemachaaW.PrintLast Go.Proofs.YthaipkhgemachaaW.PrintMore
attribute [local go_sem] max2_int min2_int max_two min_two max_three min_three max_four min_four   -- for this text's walks alone
set_option linter.unusedVariables false
set_option linter.unusedSimpArgs false

def spec_ValidLevels.f (l0_0 : List (List Int)) (l0_1 : List Int) (l0_2 : List (List Int)) (l0_3 : List Int) (a0_4 : Int) : Option Bool := if (shortPol l0_0 l0_1 && shortPol l0_2 l0_3) = true then some (okPol l0_0 l0_1 && (okPol l0_2 l0_3 && (decide (0 ≤ a0_4) && decide (a0_4 ≤ 2)))) else none
theorem spec_l00In_02 (a : Int) : spec_l00In.f a 0 2 = some (decide (0 ≤ a) && decide (a ≤ 2)) := by
  unfold spec_l00In.f
  by_cases h0 : a ≥ 0
  · rw [if_pos h0, decide_eq_true (show 0 ≤ a from h0)]; rfl
  · rw [if_neg h0, decide_eq_false (show ¬ 0 ≤ a from h0)]; rfl
set_option maxHeartbeats 4000000 in
set_option maxRecDepth 100000 in
theorem spec_l07Levels.calls (g : Nat) (A0 : Option Addr) (c0 : Nat) (H0 : List (List Int)) (A1 : Option Addr) (c1 : Nat) (M0 : List Int) (A2 : Option Addr) (c2 : Nat) (H1 : List (List Int)) (A3 : Option Addr) (c3 : Nat) (M1 : List Int) (a : Int) (w : World)
    (h0 : w.cell? ⟨g, 0, none⟩ = some (.slice A0 H0.length c0)) (h1 : w.cell? ⟨g, 1, none⟩ = some (.slice A1 M0.length c1)) (h2 : w.cell? ⟨g, 2, none⟩ = some (.slice A2 H1.length c2)) (h3 : w.cell? ⟨g, 3, none⟩ = some (.slice A3 M1.length c3)) (h4 : w.cell? ⟨g, 4, none⟩ = some (.int .i64 a))
    (hrH0 : Kd.C (Kd.slice 2 (Kd.int .i64)) w A0 H0.length H0) (hcH0 : H0.length ≤ c0) (hrM0 : Kd.C (Kd.int .i64) w A1 M0.length M0) (hcM0 : M0.length ≤ c1) (hs0 : shortPol H0 M0 = true)
    (hrH1 : Kd.C (Kd.slice 2 (Kd.int .i64)) w A2 H1.length H1) (hcH1 : H1.length ≤ c2) (hrM1 : Kd.C (Kd.int .i64) w A3 M1.length M1) (hcM1 : M1.length ≤ c3) (hs1 : shortPol H1 M1 = true) :
    Calls Try.prog 23 #[.pointer (some ⟨g, 0, none⟩)] w fun e w' => e = .returned (.bool (okPol H0 M0 && (okPol H1 M1 && (decide (0 ≤ a) && decide (a ≤ 2))))) ∧ Drawn0 w w' := by
  have hu := Try.underlying41
  have HA := Aside0.mk (spec_l03Is.calls g 0 A0 c0 H0 A1 c1 M0 w h0 h1 hrH0 hcH0 hrM0 hcM0 hs0)
  have HB := Aside0.mk (fun m => spec_l03Is.calls g 2 A2 c2 H1 A3 c3 M1 (w.drewN m) h2 h3 (Kd.C_drewN hrH1 m) hcH1 (Kd.C_drewN hrM1 m) hcM1 hs1)
  have HI := Aside0.mk (spec_l00In_02 a)
  clear h0 h1 h2 h3 hrH0 hrM0 hrH1 hrM1 hs0 hs1
  generalize okPol H0 M0 = q0 at HA ⊢
  generalize okPol H1 M1 = q1 at HB ⊢
  generalize (decide (0 ≤ a) && decide (a ≤ 2)) = q2 at HI ⊢
  cases q0
  case false =>
    go_enter Try.func23, Try.ntmps23
    go_wp2_with (go_at_call 21; with_reducible refine HA.out.mono ?_; rintro e w' ⟨rfl, ⟨nd, rfl⟩⟩)
    go_ret
    exact ⟨rfl, ⟨_, rfl⟩⟩
  case true =>
    cases q1
    case false =>
      go_enter Try.func23, Try.ntmps23
      go_wp2_with (first | (go_at_call 21; with_reducible refine HA.out.mono ?_; clear HA; rintro e w' ⟨rfl, ⟨nd, rfl⟩⟩) | (go_at_call 21; with_reducible refine (HB.out _).mono ?_; rintro e w' ⟨rfl, ⟨nd2, rfl⟩⟩))
      go_ret
      exact ⟨rfl, ⟨_, rfl⟩⟩
    case true =>
      go_enter Try.func23, Try.ntmps23
      go_wp2_with (first | (go_at_call 21; with_reducible refine HA.out.mono ?_; clear HA; rintro e w' ⟨rfl, ⟨nd, rfl⟩⟩) | (go_at_call 21; with_reducible refine (HB.out _).mono ?_; rintro e w' ⟨rfl, ⟨nd2, rfl⟩⟩) | (go_at_call 40; with_reducible refine (spec_l00In.calls a 0 2 q2 _ HI.out).mono ?_; rintro e w' ⟨rfl, ⟨nd3, rfl⟩⟩))
      go_ret
      exact ⟨rfl, ⟨_, rfl⟩⟩
set_option maxHeartbeats 2000000 in
set_option maxRecDepth 100000 in
theorem spec_ValidLevels.calls (A0_0 : Option Addr) (c0_0 : Nat) (l0_0 : List (List Int)) (A0_1 : Option Addr) (c0_1 : Nat) (l0_1 : List Int) (A0_2 : Option Addr) (c0_2 : Nat) (l0_2 : List (List Int)) (A0_3 : Option Addr) (c0_3 : Nat) (l0_3 : List Int) (a0_4 : Int) (r : Bool) (w : World) (hr0_0 : Kd.C (Kd.slice 2 (Kd.int .i64)) w A0_0 l0_0.length l0_0) (hc0_0 : l0_0.length ≤ c0_0) (hr0_1 : Kd.C (Kd.int .i64) w A0_1 l0_1.length l0_1) (hc0_1 : l0_1.length ≤ c0_1)
    (hr0_2 : Kd.C (Kd.slice 2 (Kd.int .i64)) w A0_2 l0_2.length l0_2) (hc0_2 : l0_2.length ≤ c0_2) (hr0_3 : Kd.C (Kd.int .i64) w A0_3 l0_3.length l0_3) (hc0_3 : l0_3.length ≤ c0_3) (h : spec_ValidLevels.f l0_0 l0_1 l0_2 l0_3 a0_4 = some r) :
    Calls Try.prog 12 #[.agg #[.slice A0_0 l0_0.length c0_0, .slice A0_1 l0_1.length c0_1, .slice A0_2 l0_2.length c0_2, .slice A0_3 l0_3.length c0_3, .int .i64 a0_4]] w fun e w' => e = .returned (.bool r) ∧ Below w.heap.size w w' := by
  unfold spec_ValidLevels.f at h
  by_cases hs : (shortPol l0_0 l0_1 && shortPol l0_2 l0_3) = true
  case neg => rw [if_neg hs] at h; cases h
  rw [if_pos hs] at h
  obtain rfl := Option.some.inj h
  obtain ⟨hs0, hs1⟩ := Bool.and_eq_true_iff.1 hs
  clear h hs
  have hb : Below w.heap.size w (w.alloc (.cells #[.slice A0_0 l0_0.length c0_0, .slice A0_1 l0_1.length c0_1, .slice A0_2 l0_2.length c0_2, .slice A0_3 l0_3.length c0_3, .int .i64 a0_4] 41)) := below_alloc (Below.refl _ _) _
  have HC := Aside0.mk (spec_l07Levels.calls w.heap.size A0_0 c0_0 l0_0 A0_1 c0_1 l0_1 A0_2 c0_2 l0_2 A0_3 c0_3 l0_3 a0_4 (w.alloc (.cells #[.slice A0_0 l0_0.length c0_0, .slice A0_1 l0_1.length c0_1, .slice A0_2 l0_2.length c0_2, .slice A0_3 l0_3.length c0_3, .int .i64 a0_4] 41)) (by simp) (by simp) (by simp) (by simp) (by simp) (Kd.C_below hr0_0 hb) hc0_0 (Kd.C_below hr0_1 hb) hc0_1 hs0 (Kd.C_below hr0_2 hb) hc0_2 (Kd.C_below hr0_3 hb) hc0_3 hs1)
  have HB := Aside0.mk hb
  clear hr0_0 hc0_0 hr0_1 hc0_1 hr0_2 hc0_2 hr0_3 hc0_3 hb hs0 hs1
  generalize (okPol l0_0 l0_1 && (okPol l0_2 l0_3 && (decide (0 ≤ a0_4) && decide (a0_4 ≤ 2)))) = q at HC ⊢
  go_enter Try.func12, Try.ntmps12
  go_wp2_with (go_at_call 23; refine HC.out.mono ?_; rintro e w' ⟨rfl, hd⟩; have HB1 := Aside0.mk (below_step HB.out hd.below); clear hd)
  go_ret
  exact ⟨rfl, HB1.out⟩
end Go.Proofs.Ythaipkhgemachaa.Q
