/- spec.PressureOf adds up the differences in the kernel where its input is valid; no conditions. -/
import Derived.Test.YtdhkcnhmmiigoaaQx0
import Derived.Test.YtdhkcnhmmiigoaaQx1
import Derived.Test.YtdhkcnhmmiigoaaQx2
import Derived.Test.YtdhkcnhmmiigoaaSbase
import Derived.Test.YtdhkcnhmmiigoaaSl06Is
namespace Go.Proofs.Ytdhkcnhmmiigoaa.Q
open Go.RowKit Go.Proofs.YtdhkcnhmmiigoaaW.PrintWords Go.Proofs.YtdhkcnhmmiigoaaW.PrintLast Go.Proofs.YtdhkcnhmmiigoaaW.PrintMore
attribute [local go_sem] max2_int min2_int max_two min_two max_three min_three max_four min_four   -- for this text's walks alone
set_option linter.unusedVariables false
set_option linter.unusedSimpArgs false

def sumAt (d : List Int) (m : List Int) : Int := m.foldl (fun s x => wrap64 (s + rd d x)) 0
def inRows (d m : List Int) : Bool := m.all fun x => decide (0 ≤ x) && decide (x < (d.length : Int))
def spec_PressureOf.f (k : Nat) (l0_0 : List Int) (l1 : List Int) : Option (Int × Bool) := if okRows l0_0 = true then ((spec_l02Uses.f k l1).bind fun u => if u = true then ((spec_l06Differences.f k l1).bind fun d => (spec_l06Members.f k l0_0 0).bind fun m => if inRows d m = true then some (sumAt d m, true) else none) else some (0, false)) else some (0, false)
theorem spec_PressureOf.mono : ∀ a0 a1 k, LeO (spec_PressureOf.f k a0 a1) (spec_PressureOf.f (k + 1) a0 a1) := by
  intro a0 a1 k
  unfold spec_PressureOf.f
  exact LeO.ite (LeO.bind (spec_l02Uses.mono _ k) (fun _ => LeO.ite (LeO.bind (spec_l06Differences.mono _ k) (fun _ => LeO.bind (spec_l06Members.mono _ _ k) (fun _ => LeO.refl _))) (LeO.refl _))) (LeO.refl _)
set_option maxHeartbeats 4000000 in
set_option maxRecDepth 100000 in
theorem spec_PressureOf.calls (k : Nat) (A0_0 : Option Addr) (c0_0 : Nat) (l0_0 : List Int) (A1 : Option Addr) (c1 : Nat) (l1 : List Int) (r1 : Int) (r2 : Bool) (w : World) (hr0_0 : Kd.C (Kd.int .i64) w A0_0 l0_0.length l0_0) (hc0_0 : l0_0.length ≤ c0_0) (hr1 : Kd.C (Kd.int .i64) w A1 l1.length l1) (hc1 : l1.length ≤ c1) (h : spec_PressureOf.f k l0_0 l1 = some (r1, r2)) :
    Calls Try.prog 38 #[.agg #[.slice A0_0 l0_0.length c0_0], .slice A1 l1.length c1] w fun e w' => e = .returned (.tuple #[.int .i64 r1, .bool r2]) ∧ Below w.heap.size w w' := by
  unfold spec_PressureOf.f at h
  have hb : Below w.heap.size w (w.alloc (.cells #[.slice A0_0 l0_0.length c0_0] 26)) := (Below.refl w.heap.size w).alloc (Nat.le_refl _) _
  have HS := Aside0.mk (spec_l06Is.calls w.heap.size A0_0 c0_0 l0_0 (w.alloc (.cells #[.slice A0_0 l0_0.length c0_0] 26)) (by simp) (Kd.C_below hr0_0 hb))
  have HB := Aside0.mk hb
  have HR0 := Aside0.mk hr0_0
  have HC0 := Aside0.mk hc0_0
  have HR1 := Aside0.mk hr1
  have HC1 := Aside0.mk hc1
  clear hb hr0_0 hc0_0 hr1 hc1
  cases hg0 : okRows l0_0 with
  | false =>
    rw [hg0] at HS
    rw [hg0, if_neg (by simp)] at h
    have h2 := Option.some.inj h
    obtain ⟨rfl, rfl⟩ := Prod.mk.inj h2
    clear h h2 hg0
    go_enter Try.func38, Try.ntmps38
    go_wp2_with (go_at_call 60; refine HS.out.mono ?_; rintro e w' ⟨rfl, ⟨nd, rfl⟩⟩)
    go_ret2
    exact ⟨rfl, (by repeat (first | (with_reducible first | exact HB.out | apply below_alloc | apply pw_below_drewN | apply below_drew1) | exact HB.out))⟩
  | true =>
    rw [hg0] at HS
    rw [hg0, if_pos rfl] at h
    obtain ⟨u, hu, h⟩ := Option.bind_eq_some_iff.mp h
    have HU := Aside0.mk hu
    cases u with
    | false =>
      rw [if_neg (by simp)] at h
      have h2 := Option.some.inj h
      obtain ⟨rfl, rfl⟩ := Prod.mk.inj h2
      clear h h2 hg0 hu
      go_enter Try.func38, Try.ntmps38
      go_wp2_with (first | (go_at_call 60; refine HS.out.mono ?_; rintro e w' ⟨rfl, ⟨nd, rfl⟩⟩) | (go_at_call 62; refine (spec_l02Uses.calls k A1 c1 l1 false _ (Kd.C_below HR1.out (by repeat (first | (with_reducible first | exact HB.out | apply below_alloc | apply pw_below_drewN | apply below_drew1) | exact HB.out))) HC1.out HU.out).mono ?_; rintro e w' ⟨rfl, ⟨nd2, rfl⟩⟩))
      go_ret2
      exact ⟨rfl, (by repeat (first | (with_reducible first | exact HB.out | apply below_alloc | apply pw_below_drewN | apply below_drew1) | exact HB.out))⟩
    | true =>
      rw [if_pos rfl] at h
      obtain ⟨d, hd, h⟩ := Option.bind_eq_some_iff.mp h
      obtain ⟨m, hm, h⟩ := Option.bind_eq_some_iff.mp h
      have HD := Aside0.mk hd
      have HM := Aside0.mk hm
      cases hin : inRows d m with
      | false => rw [hin, if_neg (by simp)] at h; cases h
      | true =>
        rw [hin, if_pos rfl] at h
        have h2 := Option.some.inj h
        obtain ⟨rfl, rfl⟩ := Prod.mk.inj h2
        have HIN := Aside0.mk (show ∀ i (hi : i < m.length), 0 ≤ rd m (i : Int) ∧ rd m (i : Int) < (d.length : Int) from fun i hi => by
          have := (List.all_eq_true.1 hin) _ (List.getElem_mem hi)
          rw [← rd_lt m i hi] at this
          simpa using this)
        clear h h2 hg0 hu hd hm hin
        go_enter Try.func38, Try.ntmps38
        go_wp2_with (first | (go_at_call 60; refine HS.out.mono ?_; rintro e w' ⟨rfl, ⟨nd, rfl⟩⟩) | (go_at_call 62; refine (spec_l02Uses.calls k A1 c1 l1 true _ (Kd.C_below HR1.out (by repeat (first | (with_reducible first | exact HB.out | apply below_alloc | apply pw_below_drewN | apply below_drew1) | exact HB.out))) HC1.out HU.out).mono ?_; rintro e w' ⟨rfl, ⟨nd2, rfl⟩⟩) | (go_at_call 63; refine (spec_l06Differences.calls k A1 c1 l1 d _ (Kd.C_below HR1.out (by repeat (first | (with_reducible first | exact HB.out | apply below_alloc | apply pw_below_drewN | apply below_drew1) | exact HB.out))) HC1.out HD.out).mono ?_; rintro e w2 ⟨vd, rfl, hvd, hb2⟩; obtain ⟨Ad, cd, rfl, hcd, hCd⟩ := Kd.R_reads hvd; have HBn := Aside0.mk (below_step (by repeat (first | (with_reducible first | exact HB.out | apply below_alloc | apply pw_below_drewN | apply below_drew1) | exact HB.out)) hb2); have hbox : w2.cell? ⟨w.heap.size, 0, none⟩ = some (.slice A0_0 l0_0.length c0_0) := (hb2.cell (by simp)).trans (by simp); have HCd := Aside0.mk hCd; clear HB; have HB := HBn; clear HBn hvd hb2 hCd) | (go_at_call 71; refine (spec_l06Members.calls k A0_0 c0_0 l0_0 0 m _ (Kd.C_below HR0.out (by repeat (first | (with_reducible first | exact HB.out | apply below_alloc | apply pw_below_drewN | apply below_drew1) | exact HB.out))) HC0.out HM.out).mono ?_; rintro e w3 ⟨vm, rfl, hvm, hb3⟩; obtain ⟨Am, cm, rfl, hcm, hCm⟩ := Kd.R_reads hvm; have HBn := Aside0.mk (below_step (by repeat (first | (with_reducible first | exact HB.out | apply below_alloc | apply pw_below_drewN | apply below_drew1) | exact HB.out)) hb3); have HCd3 := Aside0.mk (Kd.C_below HCd.out hb3); have HCm := Aside0.mk hCm; clear HB; have HB := HBn; clear HBn hvm hb3 hCm hbox))
        have hn : m.length ≤ 9223372036854775807 := HCm.out.2.1
        go_loopg [8, 9] m.length (fun gg s8 s9 wr => ∃ kk nd : Nat, s8 = .int .i64 (sumAt d (m.take kk)) ∧ s9 = .int .i64 kk ∧ wr = w3.drewN nd ∧ Aside0 (kk ≤ m.length ∧ m.length - kk ≤ gg))
        case atStart => exact ⟨0, 0, rfl, rfl, rfl, ⟨⟨Nat.zero_le _, by omega⟩⟩⟩
        case round =>
          obtain ⟨kk, nd, rfl, rfl, rfl, HK⟩ := hrel
          by_cases hlt : kk < m.length
          · have hltz : (kk : Int) < (m.length : Int) := by omega
            have h0z : (0 : Int) ≤ (kk : Int) := by omega
            obtain ⟨ad, e, hx⟩ := Kd.at_int HCm.out (kk : Int) h0z hltz
            cases e
            simp only [Int.toNat_natCast] at hx
            have hin := HIN.out kk hlt
            have HST : Aside0 (sumAt d (m.take (kk + 1)) = wrap64 (sumAt d (m.take kk) + rd d (rd m (kk : Int)))) := ⟨by unfold sumAt; rw [take_succ_rd m kk hlt, List.foldl_append]; rfl⟩
            obtain ⟨y, hy⟩ : ∃ y, y = rd m (kk : Int) := ⟨_, rfl⟩
            rw [← hy] at hx hin HST
            clear hy
            have hy0 := hin.1
            have hy1 := hin.2
            obtain ⟨ad2, e2, hx2⟩ := Kd.at_int HCd3.out y hy0 hy1
            cases e2
            clear hin
            go_wp2
            go_roundg (m.length - (kk + 1))
            case measure => have := HK.out; omega
            case rel => exact ⟨kk + 1, _, by rw [HST.out], by go_num, by first | rfl | exact World.drewN_drewN .., ⟨by omega⟩⟩
          · have hltz : ¬ (kk : Int) < (m.length : Int) := by omega
            have hk : kk = m.length := by have := HK.out; omega
            have HE : Aside0 (sumAt d (m.take kk) = sumAt d m) := ⟨by rw [hk, List.take_length]⟩
            clear hk
            go_wp2
            go_ret2
            exact ⟨by rw [HE.out]; rfl, (by repeat (first | (with_reducible first | exact HB.out | apply below_alloc | apply pw_below_drewN | apply below_drew1) | exact HB.out))⟩
end Go.Proofs.Ytdhkcnhmmiigoaa.Q
