/- spec.SetMisses answers as its one callee does where its input is valid; no conditions. -/
import Derived.Test.YtdhkcnhmmiigoaaQx0
import Derived.Test.YtdhkcnhmmiigoaaQx6
import Derived.Test.YtdhkcnhmmiigoaaQx7
import Derived.Test.YtdhkcnhmmiigoaaSisin
import Derived.Test.YtdhkcnhmmiigoaaSl06Is
import Derived.Test.YtdhkcnhmmiigoaaSuses
namespace Go.Proofs.Ytdhkcnhmmiigoaa.Q
open Go.RowKit Go.Proofs.YtdhkcnhmmiigoaaW.PrintWords Go.Proofs.YtdhkcnhmmiigoaaW.PrintLast Go.Proofs.YtdhkcnhmmiigoaaW.PrintMore
attribute [local go_sem] max2_int min2_int max_two min_two max_three min_three max_four min_four   -- for this text's walks alone
set_option linter.unusedVariables false
set_option linter.unusedSimpArgs false

def spec_SetMisses.f (k : Nat) (l0_0 : List Int) (a1 : Int) (l2 : List Int) : Option (Int × Bool) := if (okRows l0_0 && isIn 1 4 a1 && okUses l2) = true then (spec_l06Misses.f k l0_0 a1 l2).bind fun t => some (t, true) else some (0, false)
theorem spec_SetMisses.mono : ∀ a0 a1 a2 k, LeO (spec_SetMisses.f k a0 a1 a2) (spec_SetMisses.f (k + 1) a0 a1 a2) := by
  intro a0 a1 a2 k
  unfold spec_SetMisses.f
  exact LeO.ite (LeO.bind (spec_l06Misses.mono _ _ _ k) (fun _ => LeO.refl _)) (LeO.refl _)
set_option maxHeartbeats 4000000 in
set_option maxRecDepth 100000 in
theorem spec_SetMisses.calls (k : Nat) (A0_0 : Option Addr) (c0_0 : Nat) (l0_0 : List Int) (a1 : Int) (A2 : Option Addr) (c2 : Nat) (l2 : List Int) (r1 : Int) (r2 : Bool) (w : World) (hr0_0 : Kd.C (Kd.int .i64) w A0_0 l0_0.length l0_0) (hc0_0 : l0_0.length ≤ c0_0) (hr2 : Kd.C (Kd.int .i64) w A2 l2.length l2) (hc2 : l2.length ≤ c2) (h : spec_SetMisses.f k l0_0 a1 l2 = some (r1, r2)) :
    Calls Try.prog 37 #[.agg #[.slice A0_0 l0_0.length c0_0], .int .i64 a1, .slice A2 l2.length c2] w fun e w' => e = .returned (.tuple #[.int .i64 r1, .bool r2]) ∧ Below w.heap.size w w' := by
  unfold spec_SetMisses.f at h
  have hb : Below w.heap.size w (w.alloc (.cells #[.slice A0_0 l0_0.length c0_0] 26)) := (Below.refl w.heap.size w).alloc (Nat.le_refl _) _
  have HS := Aside0.mk (spec_l06Is.calls w.heap.size A0_0 c0_0 l0_0 (w.alloc (.cells #[.slice A0_0 l0_0.length c0_0] 26)) (by simp) (Kd.C_below hr0_0 hb))
  have HB := Aside0.mk hb
  have HR0 := Aside0.mk hr0_0
  have HC0 := Aside0.mk hc0_0
  have HR2 := Aside0.mk hr2
  have HC2 := Aside0.mk hc2
  obtain ⟨KU, hKU⟩ := ev_l02Uses l2 hr2.2.1
  have HKU := Aside0.mk (hKU KU (Nat.le_refl _))
  clear hKU
  clear hb hr0_0 hc0_0 hr2 hc2
  cases hg0 : okRows l0_0 with
  | false =>
    rw [hg0] at HS
    have h' : (some (0, false) : Option (Int × Bool)) = some (r1, r2) := by rw [hg0] at h; simpa using h
    have h2 := Option.some.inj h'
    obtain ⟨rfl, rfl⟩ := Prod.mk.inj h2
    clear h h' h2 hg0
    go_enter Try.func37, Try.ntmps37
    go_wp2_with (first | (go_at_call 60; refine HS.out.mono ?_; rintro e w' ⟨rfl, ⟨nd, rfl⟩⟩))
    go_ret2
    exact ⟨rfl, (by repeat (first | (with_reducible first | exact HB.out | apply below_alloc | apply pw_below_drewN | apply below_drew1) | exact HB.out))⟩
  | true =>
    rw [hg0] at HS
    cases hg1 : isIn 1 4 a1 with
    | false =>
      have HG1 := Aside0.mk hg1
      have h' : (some (0, false) : Option (Int × Bool)) = some (r1, r2) := by rw [hg0, hg1] at h; simpa using h
      have h2 := Option.some.inj h'
      obtain ⟨rfl, rfl⟩ := Prod.mk.inj h2
      clear h h' h2 hg0 hg1
      go_enter Try.func37, Try.ntmps37
      go_wp2_with (first | (go_at_call 60; refine HS.out.mono ?_; rintro e w' ⟨rfl, ⟨nd, rfl⟩⟩) | (go_at_call 69; refine (spec_l06Places.calls a1 false _ (by rw [spec_l06Places_f]; exact congrArg some HG1.out)).mono ?_; rintro e w' ⟨rfl, ⟨nd1, rfl⟩⟩))
      go_ret2
      exact ⟨rfl, (by repeat (first | (with_reducible first | exact HB.out | apply below_alloc | apply pw_below_drewN | apply below_drew1) | exact HB.out))⟩
    | true =>
      have HG1 := Aside0.mk hg1
      cases hg2 : okUses l2 with
      | false =>
        have HG2 := Aside0.mk hg2
        have h' : (some (0, false) : Option (Int × Bool)) = some (r1, r2) := by rw [hg0, hg1, hg2] at h; simpa using h
        have h2 := Option.some.inj h'
        obtain ⟨rfl, rfl⟩ := Prod.mk.inj h2
        clear h h' h2 hg0 hg1 hg2
        go_enter Try.func37, Try.ntmps37
        go_wp2_with (first | (go_at_call 60; refine HS.out.mono ?_; rintro e w' ⟨rfl, ⟨nd, rfl⟩⟩) | (go_at_call 69; refine (spec_l06Places.calls a1 true _ (by rw [spec_l06Places_f]; exact congrArg some HG1.out)).mono ?_; rintro e w' ⟨rfl, ⟨nd1, rfl⟩⟩) | (go_at_call 62; refine (spec_l02Uses.calls KU A2 c2 l2 false _ (Kd.C_below HR2.out (by repeat (first | (with_reducible first | exact HB.out | apply below_alloc | apply pw_below_drewN | apply below_drew1) | exact HB.out))) HC2.out (by rw [HKU.out, HG2.out])).mono ?_; rintro e w' ⟨rfl, ⟨nd2, rfl⟩⟩))
        go_ret2
        exact ⟨rfl, (by repeat (first | (with_reducible first | exact HB.out | apply below_alloc | apply pw_below_drewN | apply below_drew1) | exact HB.out))⟩
      | true =>
        have HG2 := Aside0.mk hg2
        have h' : ((spec_l06Misses.f k l0_0 a1 l2).bind fun t => some (t, true)) = some (r1, r2) := by rw [hg0, hg1, hg2] at h; simpa using h
        obtain ⟨t, ht, h2⟩ := Option.bind_eq_some_iff.mp h'
        have h3 := Option.some.inj h2
        obtain ⟨rfl, rfl⟩ := Prod.mk.inj h3
        have HT := Aside0.mk ht
        clear h h' h2 h3 ht hg0 hg1 hg2
        go_enter Try.func37, Try.ntmps37
        go_wp2_with (first | (go_at_call 60; refine HS.out.mono ?_; rintro e w' ⟨rfl, ⟨nd, rfl⟩⟩) | (go_at_call 69; refine (spec_l06Places.calls a1 true _ (by rw [spec_l06Places_f]; exact congrArg some HG1.out)).mono ?_; rintro e w' ⟨rfl, ⟨nd1, rfl⟩⟩) | (go_at_call 62; refine (spec_l02Uses.calls KU A2 c2 l2 true _ (Kd.C_below HR2.out (by repeat (first | (with_reducible first | exact HB.out | apply below_alloc | apply pw_below_drewN | apply below_drew1) | exact HB.out))) HC2.out (by rw [HKU.out, HG2.out])).mono ?_; rintro e w' ⟨rfl, ⟨nd2, rfl⟩⟩) | (go_at_call 70; refine (spec_l06Misses.calls k A0_0 c0_0 l0_0 a1 A2 c2 l2 t _ (Kd.C_below HR0.out (by repeat (first | (with_reducible first | exact HB.out | apply below_alloc | apply pw_below_drewN | apply below_drew1) | exact HB.out))) HC0.out (Kd.C_below HR2.out (by repeat (first | (with_reducible first | exact HB.out | apply below_alloc | apply pw_below_drewN | apply below_drew1) | exact HB.out))) HC2.out HT.out).mono ?_; rintro e w' ⟨rfl, hd⟩; have HB9 := Aside0.mk (below_step (by repeat (first | (with_reducible first | exact HB.out | apply below_alloc | apply pw_below_drewN | apply below_drew1) | exact HB.out)) hd); clear hd))
        go_ret2
        exact ⟨rfl, HB9.out⟩
end Go.Proofs.Ytdhkcnhmmiigoaa.Q
