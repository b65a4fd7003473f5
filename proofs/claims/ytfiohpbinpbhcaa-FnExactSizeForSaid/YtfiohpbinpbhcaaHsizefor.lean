/- impl.SizeFor answers the first size with at most the given misses; no conditions. -/
import Derived.Test.YtfiohpbinpbhcaaQx0
import Derived.Test.YtfiohpbinpbhcaaQx14
import Derived.Test.YtfiohpbinpbhcaaQx2
import Derived.Test.YtfiohpbinpbhcaaQx4
import Derived.Test.YtfiohpbinpbhcaaSidxi64
import Derived.Test.YtfiohpbinpbhcaaSuses
namespace Go.Proofs.Ytfiohpbinpbhcaa.Q
open Go.RowKit Go.Proofs.YtfiohpbinpbhcaaW.PrintWords Go.Proofs.YtfiohpbinpbhcaaW.PrintLast Go.Proofs.YtfiohpbinpbhcaaW.PrintMore
attribute [local go_sem] max2_int min2_int max_two min_two max_three min_three max_four min_four   -- for this text's walks alone
set_option linter.unusedVariables false
set_option linter.unusedSimpArgs false

def firstLe (c : List Int) (a : Int) : Int := idxF (fun n => decide (n ≤ a)) c
def impl_SizeFor.f (k : Nat) (l0 : List Int) (a1 : Int) : Option (Int × Bool) := if okUses l0 = true then (if decide (0 ≤ a1 ∧ a1 ≤ 60) = true then ((impl_distancesOf.f k l0).bind fun d => (impl_curve.f k d 60).bind fun c => if firstLe c a1 < 0 then some (0, false) else some (firstLe c a1, true)) else some (0, false)) else some (0, false)
theorem impl_SizeFor.mono : ∀ a0 a1 k, LeO (impl_SizeFor.f k a0 a1) (impl_SizeFor.f (k + 1) a0 a1) := by
  intro a0 a1 k
  unfold impl_SizeFor.f
  exact LeO.ite (LeO.ite (LeO.bind (impl_distancesOf.mono _ k) (fun _ => LeO.bind (impl_curve.mono _ _ k) (fun _ => LeO.refl _))) (LeO.refl _)) (LeO.refl _)
theorem impl_isMost_f (a : Int) : impl_isMost.f a = some (decide (0 ≤ a ∧ a ≤ 60)) := by
  unfold impl_isMost.f impl_inRange.f
  by_cases h0 : 0 ≤ a <;> simp [h0]
theorem sizeFor_1.pred (a1 : Int) (l : List Int) (w : World) (B1 : Nat) (h1 : w.cell? ⟨B1, 0, none⟩ = some (.int .i64 a1)) :
    PredI 61 #[.pointer (some ⟨B1, 0, none⟩)] l (fun n => decide (n ≤ a1)) w := fun W x hb _ => by
  have hc1 := (hb.cell (World.block_lt_of_cell? w _ h1)).trans h1
  clear h1 hb
  show Calls Try.prog 61 #[.int .i64 x, .pointer (some ⟨B1, 0, none⟩)] W _
  go_enter Try.func61, Try.ntmps61
  go_wp2
  go_ret
  exact ⟨rfl, by repeat (first | exact Below.refl _ _ | apply Below.drew)⟩
set_option maxHeartbeats 4000000 in
set_option maxRecDepth 100000 in
theorem impl_SizeFor.calls (k : Nat) (A0 : Option Addr) (c0 : Nat) (l0 : List Int) (a1 : Int) (r1 : Int) (r2 : Bool) (w : World) (hr0 : Kd.C (Kd.int .i64) w A0 l0.length l0) (hc0 : l0.length ≤ c0) (h : impl_SizeFor.f k l0 a1 = some (r1, r2)) :
    Calls Try.prog 29 #[.slice A0 l0.length c0, .int .i64 a1] w fun e w' => e = .returned (.tuple #[.int .i64 r1, .bool r2]) ∧ Below w.heap.size w w' := by
  unfold impl_SizeFor.f at h
  have hb : Below w.heap.size w (w.alloc (.cells #[.int .i64 a1] 2)) := (Below.refl w.heap.size w).alloc (Nat.le_refl _) _
  have HB0 := Aside0.mk (show ∀ W, Below (w.alloc (.cells #[.int .i64 a1] 2)).heap.size (w.alloc (.cells #[.int .i64 a1] 2)) W → Below w.heap.size w W from fun W h => hb.trans (h.mono (by simp)))
  have hbx : (w.alloc (.cells #[.int .i64 a1] 2)).cell? ⟨w.heap.size, 0, none⟩ = some (.int .i64 a1) := by simp
  have HBX := Aside0.mk (show ∀ W, Below (w.alloc (.cells #[.int .i64 a1] 2)).heap.size (w.alloc (.cells #[.int .i64 a1] 2)) W → W.cell? ⟨w.heap.size, 0, none⟩ = some (.int .i64 a1) from fun W h => (h.cell (World.block_lt_of_cell? _ _ hbx)).trans hbx)
  have HR1 := Aside0.mk (Kd.C_below hr0 hb)
  have HC := Aside0.mk hc0
  have HB := Aside0.mk (Below.refl (w.alloc (.cells #[.int .i64 a1] 2)).heap.size (w.alloc (.cells #[.int .i64 a1] 2)))
  have HVU := Aside0.mk (impl_ValidUses_f l0)
  have HMO := Aside0.mk (impl_isMost_f a1)
  clear hb hbx hr0 hc0
  cases hg0 : okUses l0 with
  | false =>
    rw [hg0] at HVU
    rw [hg0, if_neg (by simp)] at h
    have h2 := Option.some.inj h
    obtain ⟨rfl, rfl⟩ := Prod.mk.inj h2
    clear h h2 hg0
    go_enter Try.func29, Try.ntmps29
    go_wp2_with (go_at_call 45; with_reducible refine (impl_ValidUses.calls A0 c0 l0 false _ (Kd.C_below HR1.out (by repeat (first | (with_reducible first | exact HB.out | apply below_alloc | apply pw_below_drewN | apply below_drew1) | exact HB.out))) HC.out HVU.out).mono ?_; rintro e w' ⟨rfl, hb⟩; have HBn := Aside0.mk (below_step (by repeat (first | (with_reducible first | exact HB.out | apply below_alloc | apply pw_below_drewN | apply below_drew1) | exact HB.out)) hb); clear HB; have HB := HBn; clear HBn hb; have hcell_ := HBX.out _ HB.out)
    go_ret2
    exact ⟨rfl, HB0.out _ (by repeat (first | (with_reducible first | exact HB.out | apply below_alloc | apply pw_below_drewN | apply below_drew1) | exact HB.out))⟩
  | true =>
    rw [hg0] at HVU
    rw [hg0, if_pos rfl] at h
    cases hg1 : decide (0 ≤ a1 ∧ a1 ≤ 60) with
    | false =>
      rw [hg1] at HMO
      rw [hg1, if_neg (by simp)] at h
      have h2 := Option.some.inj h
      obtain ⟨rfl, rfl⟩ := Prod.mk.inj h2
      clear h h2 hg0 hg1
      go_enter Try.func29, Try.ntmps29
      go_wp2_with (first | (go_at_call 45; with_reducible refine (impl_ValidUses.calls A0 c0 l0 true _ (Kd.C_below HR1.out (by repeat (first | (with_reducible first | exact HB.out | apply below_alloc | apply pw_below_drewN | apply below_drew1) | exact HB.out))) HC.out HVU.out).mono ?_; rintro e w' ⟨rfl, hb⟩; have HBn := Aside0.mk (below_step (by repeat (first | (with_reducible first | exact HB.out | apply below_alloc | apply pw_below_drewN | apply below_drew1) | exact HB.out)) hb); clear HB; have HB := HBn; clear HBn hb; have hcell_ := HBX.out _ HB.out) | (go_at_call 58; with_reducible refine (impl_isMost.calls a1 false _ HMO.out).mono ?_; rintro e w' ⟨rfl, ⟨nd, rfl⟩⟩))
      go_ret2
      exact ⟨rfl, HB0.out _ (by repeat (first | (with_reducible first | exact HB.out | apply below_alloc | apply pw_below_drewN | apply below_drew1) | exact HB.out))⟩
    | true =>
      rw [hg1] at HMO
      rw [hg1, if_pos rfl] at h
      obtain ⟨d, hd, h⟩ := Option.bind_eq_some_iff.mp h
      obtain ⟨c, hc, h⟩ := Option.bind_eq_some_iff.mp h
      have HD := Aside0.mk hd
      have HCV := Aside0.mk hc
      have eg : ∀ args w, (callFunc 61 args).run Try.prog w = .ok (.enter 61 args) w := enters_of Try.func61 (by kernel_rfl) rfl
      have HI := Aside0.mk (fun (A : Option Addr) (cc : Nat) (W : World) (hC : Kd.C (Kd.int .i64) W A c.length c) (hW : Below (w.alloc (.cells #[.int .i64 a1] 2)).heap.size (w.alloc (.cells #[.int .i64 a1] 2)) W) => slices_IndexFunc_i64 61 #[.pointer (some ⟨w.heap.size, 0, none⟩)] eg (fun n => decide (n ≤ a1)) A cc c W hC (sizeFor_1.pred a1 c W w.heap.size (HBX.out W hW)))
      have hfe : idxF (fun n => decide (n ≤ a1)) c = firstLe c a1 := rfl
      rw [hfe] at HI
      generalize firstLe c a1 = q at HI h
      clear hg0 hg1 hd hc eg hfe
      by_cases hq : q < 0
      · rw [if_pos hq] at h
        have h2 := Option.some.inj h
        obtain ⟨rfl, rfl⟩ := Prod.mk.inj h2
        clear h h2
        go_enter Try.func29, Try.ntmps29
        go_wp2_with (first | (go_at_call 45; with_reducible refine (impl_ValidUses.calls A0 c0 l0 true _ (Kd.C_below HR1.out (by repeat (first | (with_reducible first | exact HB.out | apply below_alloc | apply pw_below_drewN | apply below_drew1) | exact HB.out))) HC.out HVU.out).mono ?_; rintro e w' ⟨rfl, hb⟩; have HBn := Aside0.mk (below_step (by repeat (first | (with_reducible first | exact HB.out | apply below_alloc | apply pw_below_drewN | apply below_drew1) | exact HB.out)) hb); clear HB; have HB := HBn; clear HBn hb; have hcell_ := HBX.out _ HB.out) | (go_at_call 58; with_reducible refine (impl_isMost.calls a1 true _ HMO.out).mono ?_; rintro e w' ⟨rfl, ⟨nd, rfl⟩⟩) | (go_at_call 55; with_reducible refine (impl_distancesOf.calls k A0 c0 l0 d _ (Kd.C_below HR1.out (by repeat (first | (with_reducible first | exact HB.out | apply below_alloc | apply pw_below_drewN | apply below_drew1) | exact HB.out))) HC.out HD.out).mono ?_; rintro e w2 ⟨vd, rfl, hvd, hb⟩; obtain ⟨Ad, cd, rfl, hcd, hCd⟩ := Kd.R_reads hvd; have HBn := Aside0.mk (below_step (by repeat (first | (with_reducible first | exact HB.out | apply below_alloc | apply pw_below_drewN | apply below_drew1) | exact HB.out)) hb); clear HB; have HB := HBn; have HCd := Aside0.mk hCd; clear HBn hb hvd hCd) | (go_at_call 60; with_reducible refine (impl_curve.calls k Ad cd d 60 c _ HCd.out hcd HCV.out).mono ?_; rintro e w3 ⟨vc, rfl, hvc, hb⟩; obtain ⟨Ac, cc, rfl, hcc, hCc⟩ := Kd.R_reads hvc; have HBn := Aside0.mk (below_step (by repeat (first | (with_reducible first | exact HB.out | apply below_alloc | apply pw_below_drewN | apply below_drew1) | exact HB.out)) hb); clear HB; have HB := HBn; have HCc := Aside0.mk hCc; clear HBn hb hvc hCc) | (go_at_call 59; with_reducible refine (HI.out Ac cc _ HCc.out (by repeat (first | (with_reducible first | exact HB.out | apply below_alloc | apply pw_below_drewN | apply below_drew1) | exact HB.out))).mono ?_; rintro e w4 ⟨rfl, hb⟩; have HBn := Aside0.mk (below_step (by repeat (first | (with_reducible first | exact HB.out | apply below_alloc | apply pw_below_drewN | apply below_drew1) | exact HB.out)) hb); clear HB; have HB := HBn; clear HBn hb))
        go_ret2
        exact ⟨rfl, HB0.out _ (by repeat (first | (with_reducible first | exact HB.out | apply below_alloc | apply pw_below_drewN | apply below_drew1) | exact HB.out))⟩
      · rw [if_neg hq] at h
        have h2 := Option.some.inj h
        obtain ⟨rfl, rfl⟩ := Prod.mk.inj h2
        clear h h2
        go_enter Try.func29, Try.ntmps29
        go_wp2_with (first | (go_at_call 45; with_reducible refine (impl_ValidUses.calls A0 c0 l0 true _ (Kd.C_below HR1.out (by repeat (first | (with_reducible first | exact HB.out | apply below_alloc | apply pw_below_drewN | apply below_drew1) | exact HB.out))) HC.out HVU.out).mono ?_; rintro e w' ⟨rfl, hb⟩; have HBn := Aside0.mk (below_step (by repeat (first | (with_reducible first | exact HB.out | apply below_alloc | apply pw_below_drewN | apply below_drew1) | exact HB.out)) hb); clear HB; have HB := HBn; clear HBn hb; have hcell_ := HBX.out _ HB.out) | (go_at_call 58; with_reducible refine (impl_isMost.calls a1 true _ HMO.out).mono ?_; rintro e w' ⟨rfl, ⟨nd, rfl⟩⟩) | (go_at_call 55; with_reducible refine (impl_distancesOf.calls k A0 c0 l0 d _ (Kd.C_below HR1.out (by repeat (first | (with_reducible first | exact HB.out | apply below_alloc | apply pw_below_drewN | apply below_drew1) | exact HB.out))) HC.out HD.out).mono ?_; rintro e w2 ⟨vd, rfl, hvd, hb⟩; obtain ⟨Ad, cd, rfl, hcd, hCd⟩ := Kd.R_reads hvd; have HBn := Aside0.mk (below_step (by repeat (first | (with_reducible first | exact HB.out | apply below_alloc | apply pw_below_drewN | apply below_drew1) | exact HB.out)) hb); clear HB; have HB := HBn; have HCd := Aside0.mk hCd; clear HBn hb hvd hCd) | (go_at_call 60; with_reducible refine (impl_curve.calls k Ad cd d 60 c _ HCd.out hcd HCV.out).mono ?_; rintro e w3 ⟨vc, rfl, hvc, hb⟩; obtain ⟨Ac, cc, rfl, hcc, hCc⟩ := Kd.R_reads hvc; have HBn := Aside0.mk (below_step (by repeat (first | (with_reducible first | exact HB.out | apply below_alloc | apply pw_below_drewN | apply below_drew1) | exact HB.out)) hb); clear HB; have HB := HBn; have HCc := Aside0.mk hCc; clear HBn hb hvc hCc) | (go_at_call 59; with_reducible refine (HI.out Ac cc _ HCc.out (by repeat (first | (with_reducible first | exact HB.out | apply below_alloc | apply pw_below_drewN | apply below_drew1) | exact HB.out))).mono ?_; rintro e w4 ⟨rfl, hb⟩; have HBn := Aside0.mk (below_step (by repeat (first | (with_reducible first | exact HB.out | apply below_alloc | apply pw_below_drewN | apply below_drew1) | exact HB.out)) hb); clear HB; have HB := HBn; clear HBn hb))
        go_ret2
        exact ⟨rfl, HB0.out _ (by repeat (first | (with_reducible first | exact HB.out | apply below_alloc | apply pw_below_drewN | apply below_drew1) | exact HB.out))⟩
end Go.Proofs.Ytfiohpbinpbhcaa.Q
