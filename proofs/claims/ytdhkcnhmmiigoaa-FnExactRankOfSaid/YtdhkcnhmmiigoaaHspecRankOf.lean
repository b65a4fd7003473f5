/- spec.RankOf answers as its one callee does where its input is valid; no conditions. -/
import Derived.Test.YtdhkcnhmmiigoaaQx0
import Derived.Test.YtdhkcnhmmiigoaaQx7
import Derived.Test.YtdhkcnhmmiigoaaSl06Is
namespace Go.Proofs.Ytdhkcnhmmiigoaa.Q
open Go.RowKit Go.Proofs.YtdhkcnhmmiigoaaW.PrintWords Go.Proofs.YtdhkcnhmmiigoaaW.PrintLast Go.Proofs.YtdhkcnhmmiigoaaW.PrintMore
attribute [local go_sem] max2_int min2_int max_two min_two max_three min_three max_four min_four   -- for this text's walks alone
set_option linter.unusedVariables false
set_option linter.unusedSimpArgs false

def spec_RankOf.f (k : Nat) (l0_0 : List Int)  : Option (Int × Bool) := if (okRows l0_0) = true then (spec_l06Rank.f k l0_0).bind fun t => some (t, true) else some (0, false)
theorem spec_RankOf.mono : ∀ a0 k, LeO (spec_RankOf.f k a0) (spec_RankOf.f (k + 1) a0) := by
  intro a0 k
  unfold spec_RankOf.f
  exact LeO.ite (LeO.bind (spec_l06Rank.mono _ k) (fun _ => LeO.refl _)) (LeO.refl _)
set_option maxHeartbeats 4000000 in
set_option maxRecDepth 100000 in
theorem spec_RankOf.calls (k : Nat) (A0_0 : Option Addr) (c0_0 : Nat) (l0_0 : List Int)  (r1 : Int) (r2 : Bool) (w : World) (hr0_0 : Kd.C (Kd.int .i64) w A0_0 l0_0.length l0_0) (hc0_0 : l0_0.length ≤ c0_0) (h : spec_RankOf.f k l0_0 = some (r1, r2)) :
    Calls Try.prog 23 #[.agg #[.slice A0_0 l0_0.length c0_0]] w fun e w' => e = .returned (.tuple #[.int .i64 r1, .bool r2]) ∧ Below w.heap.size w w' := by
  unfold spec_RankOf.f at h
  have hb : Below w.heap.size w (w.alloc (.cells #[.slice A0_0 l0_0.length c0_0] 26)) := (Below.refl w.heap.size w).alloc (Nat.le_refl _) _
  have HS := Aside0.mk (spec_l06Is.calls w.heap.size A0_0 c0_0 l0_0 (w.alloc (.cells #[.slice A0_0 l0_0.length c0_0] 26)) (by simp) (Kd.C_below hr0_0 hb))
  have HB := Aside0.mk hb
  have HR0 := Aside0.mk hr0_0
  have HC0 := Aside0.mk hc0_0
  clear hb hr0_0 hc0_0 
  cases hg0 : okRows l0_0 with
  | false =>
    rw [hg0] at HS
    have h' : (some (0, false) : Option (Int × Bool)) = some (r1, r2) := by rw [hg0] at h; simpa using h
    have h2 := Option.some.inj h'
    obtain ⟨rfl, rfl⟩ := Prod.mk.inj h2
    clear h h' h2 hg0
    go_enter Try.func23, Try.ntmps23
    go_wp2_with (first | (go_at_call 60; refine HS.out.mono ?_; rintro e w' ⟨rfl, ⟨nd, rfl⟩⟩))
    go_ret2
    exact ⟨rfl, (by repeat (first | (with_reducible first | exact HB.out | apply below_alloc | apply pw_below_drewN | apply below_drew1) | exact HB.out))⟩
  | true =>
    rw [hg0] at HS
    have h' : ((spec_l06Rank.f k l0_0).bind fun t => some (t, true)) = some (r1, r2) := by rw [hg0] at h; simpa using h
    obtain ⟨t, ht, h2⟩ := Option.bind_eq_some_iff.mp h'
    have h3 := Option.some.inj h2
    obtain ⟨rfl, rfl⟩ := Prod.mk.inj h3
    have HT := Aside0.mk ht
    clear h h' h2 h3 ht hg0
    go_enter Try.func23, Try.ntmps23
    go_wp2_with (first | (go_at_call 60; refine HS.out.mono ?_; rintro e w' ⟨rfl, ⟨nd, rfl⟩⟩) | (go_at_call 61; refine (spec_l06Rank.calls k A0_0 c0_0 l0_0 t _ (Kd.C_below HR0.out (by repeat (first | (with_reducible first | exact HB.out | apply below_alloc | apply pw_below_drewN | apply below_drew1) | exact HB.out))) HC0.out HT.out).mono ?_; rintro e w' ⟨rfl, hd⟩; have HB9 := Aside0.mk (below_step (by repeat (first | (with_reducible first | exact HB.out | apply below_alloc | apply pw_below_drewN | apply below_drew1) | exact HB.out)) hd); clear hd))
    go_ret2
    exact ⟨rfl, HB9.out⟩
end Go.Proofs.Ytdhkcnhmmiigoaa.Q
