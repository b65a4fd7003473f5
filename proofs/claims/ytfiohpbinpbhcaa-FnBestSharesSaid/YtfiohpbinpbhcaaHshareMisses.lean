/- impl.ShareMisses answers the misses of programs with shares; no conditions. -/
import Derived.Test.YtfiohpbinpbhcaaQx0
import Derived.Test.YtfiohpbinpbhcaaHallIn
import Derived.Test.YtfiohpbinpbhcaaHarePrograms
import Derived.Test.YtfiohpbinpbhcaaQx2
import Derived.Test.YtfiohpbinpbhcaaSbase
import Derived.Test.YtfiohpbinpbhcaaScrv
import Derived.Test.YtfiohpbinpbhcaaSr8sum
import Derived.Test.YtfiohpbinpbhcaaSokuses
import Derived.Deep.RegionWith
namespace Go.Proofs.Ytfiohpbinpbhcaa.Q
open Go.RowKit Go.Proofs.YtfiohpbinpbhcaaW.PrintWords Go.Proofs.YtfiohpbinpbhcaaW.PrintLast Go.Proofs.YtfiohpbinpbhcaaW.PrintMore
attribute [local go_sem] max2_int min2_int max_two min_two max_three min_three max_four min_four   -- for this text's walks alone
set_option linter.unusedVariables false
set_option linter.unusedSimpArgs false

def impl_ShareMisses.f (l0 : List (List Int)) (l1 : List Int) : Option (Int × Bool) := if (okProgs l0 && (decide ((l1.length : Int) = (l0.length : Int)) && l1.all okShare)) = true then some (shareTo l0 l1 l0.length, true) else some (0, false)
set_option maxHeartbeats 8000000 in
set_option maxRecDepth 100000 in
theorem impl_ShareMisses.calls (A0 : Option Addr) (c0 : Nat) (l0 : List (List Int)) (A1 : Option Addr) (c1 : Nat) (l1 : List Int) (r1 : Int) (r2 : Bool) (w : World) (hr0 : Kd.C (Kd.slice 2 (Kd.int .i64)) w A0 l0.length l0) (hc0 : l0.length ≤ c0) (hr1 : Kd.C (Kd.int .i64) w A1 l1.length l1) (hc1 : l1.length ≤ c1) (h : impl_ShareMisses.f l0 l1 = some (r1, r2)) :
    Calls Try.prog 34 #[.slice A0 l0.length c0, .slice A1 l1.length c1] w fun e w' => e = .returned (.tuple #[.int .i64 r1, .bool r2]) ∧ Below w.heap.size w w' := by
  unfold impl_ShareMisses.f at h
  have HAP := Aside0.mk (impl_arePrograms.calls A0 c0 l0 (okProgs l0) w hr0 hc0 rfl)
  have HAI := Aside0.mk (fun (W : World) (hb : Below w.heap.size w W) => impl_allIn.calls A1 c1 l1 0 60 (l1.all okShare) W (Kd.C_below hr1 hb) hc1 rfl)
  have HR0 := Aside0.mk hr0
  have HC0 := Aside0.mk hc0
  have HR1 := Aside0.mk hr1
  have HC1 := Aside0.mk hc1
  have bad : ∀ {b0 b1 b2 : Bool}, okProgs l0 = b0 → decide ((l1.length : Int) = (l0.length : Int)) = b1 → l1.all okShare = b2 → (b0 && (b1 && b2)) = false → r1 = 0 ∧ r2 = false := by
    rintro b0 b1 b2 rfl rfl rfl e
    rw [e, if_neg (by simp)] at h
    obtain ⟨h1, h2⟩ := Prod.mk.inj (Option.some.inj h)
    exact ⟨h1.symm, h2.symm⟩
  clear hr0 hc0 hr1 hc1
  cases hg0 : okProgs l0 with
  | false =>
    obtain ⟨rfl, rfl⟩ := bad hg0 rfl rfl (by simp)
    rw [hg0] at HAP
    clear h bad hg0
    go_enter Try.func34, Try.ntmps34
    go_wp2_with (go_at_call 63; with_reducible refine HAP.out.mono ?_; rintro e w2 ⟨rfl, hb2⟩; have HB := Aside0.mk hb2; clear hb2)
    go_ret2
    exact ⟨rfl, HB.out⟩
  | true =>
  rw [hg0] at HAP
  by_cases hlen : (l1.length : Int) = (l0.length : Int)
  case neg =>
    obtain ⟨rfl, rfl⟩ := bad hg0 (decide_eq_false hlen) rfl (by simp)
    have c6b1 : ((l1.length : Int) != (l0.length : Int)) = true := bne_iff_ne.mpr hlen
    have c6b2 : (l1.length == l0.length) = false := by simp; omega
    clear h bad hg0
    go_enter Try.func34, Try.ntmps34
    go_wp2_with (go_at_call 63; with_reducible refine HAP.out.mono ?_; rintro e w2 ⟨rfl, hb2⟩; have HB := Aside0.mk hb2; clear hb2)
    go_ret2
    exact ⟨rfl, HB.out⟩
  case pos =>
  have c6b1 : ((l1.length : Int) != (l0.length : Int)) = false := bne_eq_false_iff_eq.mpr hlen
  have c6b2 : (l1.length == l0.length) = true := by simp; omega
  cases hg2 : l1.all okShare with
  | false =>
    obtain ⟨rfl, rfl⟩ := bad hg0 (decide_eq_true hlen) hg2 (by simp)
    rw [hg2] at HAI
    clear h bad hg0 hg2
    go_enter Try.func34, Try.ntmps34
    go_wp2_with (first | (go_at_call 63; with_reducible refine HAP.out.mono ?_; rintro e w2 ⟨rfl, hb2⟩; have HB := Aside0.mk hb2; clear hb2) | (go_at_call 66; with_reducible refine (HAI.out _ HB.out).mono ?_; rintro e w4 ⟨rfl, hb4⟩; have HBn := Aside0.mk (below_step HB.out hb4); clear HB; have HB := HBn; clear HBn hb4))
    go_ret2
    exact ⟨rfl, HB.out⟩
  | true =>
    rw [hg2] at HAI
    rw [hg0, decide_eq_true hlen, hg2, if_pos (show (true && (true && true)) = true from rfl)] at h
    obtain ⟨rfl, rfl⟩ := Prod.mk.inj (Option.some.inj h)
    unfold okProgs at hg0
    obtain ⟨hp1, hp2⟩ := Bool.and_eq_true_iff.1 hg0
    have HPL := Aside0.mk (show l0.length ≤ 4 by simpa using hp1)
    have HPU := Aside0.mk (List.all_eq_true.1 hp2)
    have HSH := Aside0.mk (List.all_eq_true.1 hg2)
    have HLE := Aside0.mk (show l1.length = l0.length by omega)
    clear h bad hg0 hg2 hp1 hp2 hlen
    go_enter Try.func34, Try.ntmps34
    go_wp2_with (first | (go_at_call 63; with_reducible refine HAP.out.mono ?_; rintro e w2 ⟨rfl, hb2⟩; have HB := Aside0.mk hb2; clear hb2) | (go_at_call 66; with_reducible refine (HAI.out _ HB.out).mono ?_; rintro e w4 ⟨rfl, hb4⟩; have HBn := Aside0.mk (below_step HB.out hb4); clear HB; have HB := HBn; clear HBn hb4))
    go_loopg [6, 26] l0.length (fun gg s6 s26 wr => ∃ i : Nat, s26 = .int .i64 i ∧ s6 = .int .i64 (shareTo l0 l1 i) ∧ Aside0 (i ≤ l0.length ∧ l0.length - i ≤ gg) ∧ Aside0 (Below w.heap.size w wr))
    case atStart => exact ⟨0, rfl, rfl, ⟨⟨Nat.zero_le _, by omega⟩⟩, ⟨by repeat (first | (with_reducible first | exact HB.out | apply below_alloc | apply pw_below_drewN | apply below_drew1) | exact HB.out)⟩⟩
    case round =>
      clear HB
      obtain ⟨i, rfl, rfl, HK, HB⟩ := hrel
      by_cases hlt : i < l0.length
      · have hltz : (i : Int) < (l0.length : Int) := by omega
        have h0z : (0 : Int) ≤ (i : Int) := by omega
        have hlt1 : i < l1.length := by have := HLE.out; omega
        have hltz1 : (i : Int) < (l1.length : Int) := by omega
        obtain ⟨ad, Ax, cx, e, hx0, hcx, hCx⟩ := at_L2 HR0.out (i : Int) h0z hltz
        cases e
        obtain ⟨ad1, e1, hs0⟩ := Kd.at_int HR1.out (i : Int) h0z hltz1
        cases e1
        simp only [Int.toNat_natCast] at hx0 hs0
        have hx := (HB.out.cell (World.block_lt_of_cell? _ _ hx0)).trans hx0
        have HSC := Aside0.mk (show ∀ W, Below w.heap.size w W → W.cell? (ad1.add i) = some (.int .i64 (rd l1 (i : Int))) from fun W hb => (hb.cell (World.block_lt_of_cell? _ _ hs0)).trans hs0)
        have hst : shareTo l0 l1 (i + 1) = wrap64 (shareTo l0 l1 i + rd (crv (dists (rd_L2 l0 (i : Int))) ((rd l1 (i : Int)).toNat + 1)) (rd l1 (i : Int))) := rfl
        have hou : okUses (rd_L2 l0 (i : Int)) = true := HPU.out _ (by show l0.getD i [] ∈ l0; rw [List.getD_eq_getElem?_getD, List.getElem?_eq_getElem hlt, Option.getD_some]; exact List.getElem_mem hlt)
        have hsh := HSH.out _ (List.getElem_mem hlt1)
        rw [← rd_lt l1 i hlt1] at hsh
        have hs : 0 ≤ rd l1 (i : Int) ∧ rd l1 (i : Int) ≤ 60 := by simpa [okShare] using hsh
        obtain ⟨_, hul⟩ := (okUses_iff _).1 hou
        obtain ⟨X, hX⟩ : ∃ X, X = rd_L2 l0 (i : Int) := ⟨_, rfl⟩
        obtain ⟨s, hse⟩ : ∃ s, s = rd l1 (i : Int) := ⟨_, rfl⟩
        rw [← hX] at hx hcx hCx hst hul
        rw [← hse] at hst hs HSC
        have hdl : (dists X).length = X.length := distsTo_length _ _
        obtain ⟨KD, hKD⟩ := ev_distancesOf X (by omega)
        have hcv := ev_impl_curve (dists X) s.toNat (by omega) (by omega)
        rw [Int.toNat_of_nonneg hs.1] at hcv
        obtain ⟨KC, hKC⟩ := hcv
        have hcl := crv_length (dists X) (s.toNat + 1)
        have HDI := Aside0.mk (fun (W : World) (hb : Below w.heap.size w W) => impl_distancesOf.calls KD Ax cx X (dists X) W (Kd.C_below hCx hb) hcx (hKD KD (Nat.le_refl _)))
        have HCU := Aside0.mk (fun (A : Option Addr) (c : Nat) (W : World) (hC : Kd.C (Kd.int .i64) W A (dists X).length (dists X)) (hc : (dists X).length ≤ c) => impl_curve.calls KC A c (dists X) s (crv (dists X) (s.toNat + 1)) W hC hc (hKC KC (Nat.le_refl _)))
        have HST := Aside0.mk hst
        have hs0' := hs.1
        have hslt : s < ((crv (dists X) (s.toNat + 1)).length : Int) := by rw [hcl]; omega
        obtain ⟨CV, hCV⟩ : ∃ CV, CV = crv (dists X) (s.toNat + 1) := ⟨_, rfl⟩
        rw [← hCV] at HCU HST hslt
        obtain ⟨DS, hDS⟩ : ∃ DS, DS = dists X := ⟨_, rfl⟩
        rw [← hDS] at HCU HDI
        clear hx0 hs0 hst hou hsh hul hX hse hdl hKD hKC hcl hCx hCV hDS hcx
        go_wp2_with (fail)
        have hsr := HSC.out wr HB.out
        go_region_with (first | (go_at_call 55; with_reducible refine (HDI.out _ (by repeat (first | (with_reducible first | exact HB.out | apply below_alloc | apply pw_below_drewN | apply below_drew1) | exact HB.out))).mono ?_; rintro e w5 ⟨v5, rfl, hv5, hb5⟩; obtain ⟨A5, c5, rfl, hc5, hC5⟩ := Kd.R_reads hv5; have HC5 := Aside0.mk (show ∀ W, Below w5.heap.size w5 W → Kd.C (Kd.int .i64) W A5 DS.length DS from fun W hb => Kd.C_below hC5 hb); have HCC5 := Aside0.mk hc5; have HB5 := Aside0.mk (Below.refl w5.heap.size w5); have HBn := Aside0.mk (below_step (by repeat (first | (with_reducible first | exact HB.out | apply below_alloc | apply pw_below_drewN | apply below_drew1) | exact HB.out)) hb5); clear HB; have HB := HBn; have hs5 := HSC.out _ HB.out; clear HBn hv5 hb5 hC5 hc5) | (go_at_call 60; with_reducible refine (HCU.out A5 c5 _ (HC5.out _ (by repeat (first | (with_reducible first | exact HB5.out | apply below_alloc | apply pw_below_drewN | apply below_drew1) | exact HB5.out))) HCC5.out).mono ?_; rintro e w6 ⟨v6, rfl, hv6, hb6⟩; obtain ⟨A6, c6, rfl, hc6, hC6⟩ := Kd.R_reads hv6; obtain ⟨ad6, e6, hx6⟩ := Kd.at_int hC6 s hs0' hslt; cases e6; have HBn := Aside0.mk (below_step (by repeat (first | (with_reducible first | exact HB.out | apply below_alloc | apply pw_below_drewN | apply below_drew1) | exact HB.out)) hb6); clear HB; have HB := HBn; have hs6 := HSC.out _ HB.out; clear HBn hv6 hb6 hC6 hc6))
        all_goals go_wp2_with (fail)
        all_goals (go_roundg (l0.length - (i + 1)); (case measure => have := HK.out; omega); (case rel => exact ⟨i + 1, by have := HPL.out; rw [wrap64_succ (by omega)], by rw [HST.out], ⟨by have := HK.out; omega⟩, ⟨by repeat (first | (with_reducible first | exact HB.out | apply below_alloc | apply pw_below_drewN | apply below_drew1) | exact HB.out)⟩⟩))
      · have hltz : ¬ (i : Int) < (l0.length : Int) := by omega
        have hi2 : i = l0.length := by have := HK.out; omega
        rw [hi2] at hltz ⊢
        clear hlt hi2
        go_wp2_with (fail)
        go_ret2
        exact ⟨rfl, HB.out⟩
end Go.Proofs.Ytfiohpbinpbhcaa.Q
