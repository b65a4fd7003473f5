/- laws.FnMissKinds answers true for all texts of bytes; no conditions. -/
import Derived.Test.YtdhkcnhmmiigoaaQx0
import Derived.Test.YtdhkcnhmmiigoaaHmissKinds
import Derived.Test.YtdhkcnhmmiigoaaQx1
import Derived.Test.YtdhkcnhmmiigoaaQx3
import Derived.Test.YtdhkcnhmmiigoaaQx4
import Derived.Test.YtdhkcnhmmiigoaaSsortl
import Derived.Test.YtdhkcnhmmiigoaaScrv
import Derived.Test.YtdhkcnhmmiigoaaSdists
import Derived.Test.YtdhkcnhmmiigoaaSplaced
import Derived.Test.YtdhkcnhmmiigoaaSascend
import Derived.Test.YtdhkcnhmmiigoaaSr8index
import Derived.Test.YtdhkcnhmmiigoaaSdraw
import Derived.Test.YtdhkcnhmmiigoaaSokrows
import Derived.Test.YtdhkcnhmmiigoaaSpresslaw
import Derived.Test.YtdhkcnhmmiigoaaSsetl
import Derived.Deep.RegionWith
namespace Go.Proofs.Ytdhkcnhmmiigoaa.Q
open Go.RowKit Go.Proofs.YtdhkcnhmmiigoaaW.PrintWords Go.Proofs.YtdhkcnhmmiigoaaW.PrintLast Go.Proofs.YtdhkcnhmmiigoaaW.PrintMore
attribute [local go_sem] max2_int min2_int max_two min_two max_three min_three max_four min_four   -- for this text's walks alone
set_option linter.unusedVariables false
set_option linter.unusedSimpArgs false

def laws_FnMissKinds.f (l0 l1 : List Int) : Option Bool := lawOf2 l0 l1
set_option maxHeartbeats 8000000 in
set_option maxRecDepth 100000 in
theorem laws_FnMissKinds.calls (A0 : Option Addr) (c0 : Nat) (l0 : List Int) (A1 : Option Addr) (c1 : Nat) (l1 : List Int) (r : Bool) (w : World) (hr0 : Kd.C (Kd.int .u8) w A0 l0.length l0) (hc0 : l0.length ≤ c0) (hr1 : Kd.C (Kd.int .u8) w A1 l1.length l1) (hc1 : l1.length ≤ c1) (h : laws_FnMissKinds.f l0 l1 = some r) :
    Calls Try.prog 10 #[.slice A0 l0.length c0, .slice A1 l1.length c1] w fun e w' => e = .returned (.bool r) ∧ Below w.heap.size w w' := by
  obtain ⟨rfl, B0, B1⟩ := lawOf2_some h
  clear h
  have hu := Try.underlying26
  have HRA := Aside0.mk hr0
  have HRB := Aside0.mk hr1
  have HCA := Aside0.mk hc0
  have HCB := Aside0.mk hc1
  clear hr0 hc0 hr1 hc1
  by_cases hlong : laws_r8Long.f l0 l1 = some true
  · have HL := Aside0.mk hlong
    clear hlong B0 B1
    go_enter Try.func10, Try.ntmps10
    go_wp2_with (go_at_call 13; with_reducible refine (laws_r8Long.calls A0 c0 l0 A1 c1 l1 true _ HRA.out HCA.out HRB.out HCB.out HL.out).mono ?_; rintro e w2 ⟨rfl, ⟨nd, rfl⟩⟩)
    go_ret
    exact ⟨rfl, by repeat (first | exact Below.refl _ _ | apply pw_below_drewN | apply below_drew1)⟩
  obtain ⟨hl, _, _⟩ := r8Long_no l0 l1 hlong
  obtain ⟨R, ⟨kR, eR⟩, hR⟩ := ev_R8Index l0 B0
  obtain ⟨U, ⟨kU, eU⟩, hU, hul⟩ := ev_R8Near l1 B1
  obtain ⟨x, ex, hx⟩ := r8At_ok l1 B1 0 4 (by omega)
  obtain ⟨hRm, hRl⟩ := (okRows_iff R).1 hR
  obtain ⟨hUm, hUl⟩ := (okUses_iff U).1 hU
  have hp4 : 1 ≤ 1 + (x : Int) ∧ 1 + (x : Int) ≤ 4 := by omega
  have HL := Aside0.mk hl
  have HER := Aside0.mk (eR kR (Nat.le_refl _))
  have HEU := Aside0.mk (eU kU (Nat.le_refl _))
  have HEX := Aside0.mk (show laws_r8At.f l1 0 4 = some (x : Int) from ex)
  have HSM := Aside0.mk (impl_SetMisses_ok R (1 + (x : Int)) U hR hp4 hU)
  have HB : Aside0 (Below w.heap.size w w) := ⟨Below.refl _ _⟩
  clear hlong hl eR eU ex B0 B1
  go_enter Try.func10, Try.ntmps10
  go_wp2_with (first
    | (go_at_call 13; with_reducible refine (laws_r8Long.calls A0 c0 l0 A1 c1 l1 false _ HRA.out HCA.out HRB.out HCB.out HL.out).mono ?_; rintro e w2 ⟨rfl, ⟨nd, hw2⟩⟩; have HBn := Aside0.mk (below_at hw2.symm HB.out); clear HB; have HB := HBn; clear HBn hw2)
    | (go_at_call 14; with_reducible refine (spec_R8Index.calls kR A0 c0 l0 R _ (Kd.C_below HRA.out HB.out) HCA.out HER.out).mono ?_; rintro e w3 ⟨v3, rfl, hv3, hb3⟩; have HBn := Aside0.mk (below_step HB.out hb3); clear HB; have HB := HBn; clear HBn hb3; obtain ⟨AR, cR, rfl, hcR, hCR⟩ := Kd.R_reads hv3; have HR := Aside0.mk hCR; have HCR := Aside0.mk hcR; clear hv3 hcR hCR)
    | (go_at_call 15; with_reducible refine (spec_R8Near.calls kU A1 c1 l1 U _ (Kd.C_below HRB.out (by first | exact HB.out | exact below_alloc HB.out _)) HCB.out HEU.out).mono ?_; rintro e w5 ⟨v5, rfl, hv5, hb5⟩))
  obtain ⟨AU, cU, rfl, hcU, hCU⟩ := Kd.R_reads hv5
  have hb35 : Below w3.heap.size w3 w5 := (below_alloc (Below.refl _ _) _).trans (hb5.mono (by simp))
  have hx5 : w5.cell? ⟨w3.heap.size, 0, none⟩ = some (.slice AR R.length cR) := (hb5.cell (by simp)).trans (by simp)
  have HW : Aside0 (Below w.heap.size w w5) := ⟨HB.out.trans (hb35.mono HB.out.size)⟩
  have HX5 := Aside0.mk (show ∀ W, Below w5.heap.size w5 W → W.cell? ⟨w3.heap.size, 0, none⟩ = some (.slice AR R.length cR) from fun W h => (h.cell (World.block_lt_of_cell? _ _ hx5)).trans hx5)
  have HR5 := Aside0.mk (Kd.C_below HR.out hb35)
  have HU5 := Aside0.mk hCU
  have HCU := Aside0.mk hcU
  have HRB5 := Aside0.mk (Kd.C_below (Kd.C_below HRB.out HB.out) hb35)
  clear HB
  have HB := Aside0.mk (Below.refl w5.heap.size w5)
  clear hv5 hcU hCU hb5 hb35 hx5 HR HRA HRB
  have HSMp := Aside0.mk (fun (W : World) (hb : Below w5.heap.size w5 W) => impl_SetMisses.calls AR cR R (1 + (x : Int)) AU cU U (misN R (1 + (x : Int)) U U.length : Int) true W (Kd.C_below HR5.out hb) HCR.out (Kd.C_below HU5.out hb) HCU.out HSM.out)
  have HMK := Aside0.mk (fun (W : World) (hb : Below w5.heap.size w5 W) => impl_MissKinds.calls AR cR R (1 + (x : Int)) AU cU U (kindsOf R (1 + (x : Int)) U) true W (Kd.C_below HR5.out hb) HCR.out (Kd.C_below HU5.out hb) HCU.out (MissKinds_ok R (1 + (x : Int)) U hR hp4 hU))
  have HAO := Aside0.mk (fun (W : World) (hb : Below w5.heap.size w5 W) => impl_AddressesOf.calls AU cU U (setL U) true W (Kd.C_below HU5.out hb) HCU.out (AddressesOf_ok U hU))
  have hcell := HX5.out _ HB.out
  have HSM1 := Aside0.mk (fun (W : World) (hb : Below w5.heap.size w5 W) => impl_SetMisses.calls AR cR R 1 AU cU U (misN R 1 U U.length : Int) true W (Kd.C_below HR5.out hb) HCR.out (Kd.C_below HU5.out hb) HCU.out (impl_SetMisses_ok R 1 U hR (by omega) hU))
  have HSM0 := Aside0.mk (fun (W : World) (hb : Below w5.heap.size w5 W) => (show Calls Try.prog 19 #[.agg #[.slice none 0 0], .int .i64 (1 + (x : Int)), .slice AU U.length cU] W _ from impl_SetMisses.calls none 0 [] (1 + (x : Int)) AU cU U (misN [] (1 + (x : Int)) U U.length : Int) true W (Kd.C_nil _ _) (Nat.le_refl _) (Kd.C_below HU5.out hb) HCU.out (impl_SetMisses_ok [] _ U okRows_nil hp4 hU)))
  obtain ⟨kP, eP⟩ := ev_PressureOf_ok R U hR hU
  have HPR := Aside0.mk (fun (W : World) (hb : Below w5.heap.size w5 W) => impl_PressureOf.calls kP AR cR R AU cU U _ true W (Kd.C_below HR5.out hb) HCR.out (Kd.C_below HU5.out hb) HCU.out (eP kP (Nat.le_refl _)))
  obtain ⟨kD, eD⟩ := ev_DifferencesOf_ok U hU
  have HDF := Aside0.mk (fun (W : World) (hb : Below w5.heap.size w5 W) => impl_DifferencesOf.calls kD AU cU U _ true W (Kd.C_below HU5.out hb) HCU.out (eD kD (Nat.le_refl _)))
  obtain ⟨kC, eC⟩ := ev_LruCurve_ok U (x + 1) (by omega) hU
  have hx1 : ((x + 1 : Nat) : Int) = 1 + (x : Int) := by omega
  rw [hx1] at eC
  have HLC := Aside0.mk (fun (W : World) (hb : Below w5.heap.size w5 W) => impl_LruCurve.calls kC AU cU U (1 + (x : Int)) _ true W (Kd.C_below HU5.out hb) HCU.out (eC kC (Nat.le_refl _)))
  have HPG := Aside0.mk (pressure_ge R hRl hRm U hUm hUl)
  have HDL := Aside0.mk (dif_length U U.length)
  have HD0 := Aside0.mk (dif_zero U hUm U.length (Nat.le_refl _))
  have HCL := Aside0.mk (crv_length (dists U) (x + 1 + 1))
  have hcm : rd (crv (dists U) (x + 1 + 1)) (1 + (x : Int)) = (misN [] (1 + (x : Int)) U U.length : Int) := by
    rw [← hx1, rd_crv, misN_empty]; rfl
  have HCM := Aside0.mk hcm
  clear eP eD eC hx1 hcm
  generalize dif U U.length = D at HDF HDL HD0 HPR HPG
  generalize crv (dists U) (x + 1 + 1) = C at HLC HCL HCM
  generalize (misN [] (1 + (x : Int)) U U.length : Int) = whole at HSM0 HCM
  generalize sumAt D (membersTo R 0 64) = press at HPR HPG
  have hdl64 : ((D.length : Int) != 64) = false := by rw [HDL.out]; rfl
  have hd0 : (0 : Int) < (D.length : Int) := by rw [HDL.out]; decide
  have hcl1 : ((C.length : Int) != 1 + (x : Int) + 1) = false := by rw [HCL.out]; simp; omega
  have hc0 : 0 ≤ 1 + (x : Int) := by omega
  have hc1 : 1 + (x : Int) < (C.length : Int) := by rw [HCL.out]; omega
  obtain ⟨kS, eS⟩ := ev_r8Sum (kindsOf R (1 + (x : Int)) U) (by rw [kinds_length]; omega)
  have HSUM := Aside0.mk (eS kS (Nat.le_refl _))
  rw [kinds_sum R (1 + (x : Int)) U hUl] at HSUM
  clear eS
  have HK0 := Aside0.mk (kinds_first R (1 + (x : Int)) U)
  have HK1 := Aside0.mk (kinds_second R (1 + (x : Int)) U hUl)
  have HKL := Aside0.mk (kinds_length R (1 + (x : Int)) U)
  have hcell := HX5.out _ HB.out
  generalize kindsOf R (1 + (x : Int)) U = K at HMK HSUM HK0 HK1 HKL
  obtain ⟨S, hSE⟩ : ∃ S, S = setL U := ⟨_, rfl⟩
  have HSE := Aside0.mk hSE
  rw [← hSE] at HAO HK0
  clear hSE
  obtain ⟨y, hy⟩ : ∃ y, y = rd K 1 := ⟨_, rfl⟩
  rw [← hy] at HK1
  have hy0 : decide (y < 0) = false := decide_eq_false (by have := HK1.out; omega)
  have hy1 : ¬ y < 0 := by have := HK1.out; omega
  have HY := Aside0.mk hy
  clear hy
  have hkl3 : ((K.length : Int) != 3) = false := by rw [HKL.out]; rfl
  have hk0 : (0 : Int) < (K.length : Int) := by rw [HKL.out]; decide
  have hk1 : (1 : Int) < (K.length : Int) := by rw [HKL.out]; decide
  go_wp2_with (first
    | (go_at_call 16; with_reducible refine (laws_r8At.calls A1 c1 l1 0 4 (x : Int) _ (Kd.C_below HRB5.out HB.out) HCB.out HEX.out).mono ?_; rintro e w7 ⟨rfl, ⟨nd, hw7⟩⟩; have HBn := Aside0.mk (below_at hw7.symm HB.out); clear HB; have HB := HBn; clear HBn hw7; have hcell7 := HX5.out _ HB.out)
    | (go_at_call 19; (first | (with_reducible refine (HSMp.out _ HB.out).mono ?_; clear HSMp) | (with_reducible refine (HSM0.out _ HB.out).mono ?_) | (with_reducible refine (HSM1.out _ HB.out).mono ?_)); rintro e w8 ⟨rfl, hb8⟩; have HBn := Aside0.mk (below_step HB.out hb8); clear HB; have HB := HBn; clear HBn; (try (have HBn := Aside0.mk (below_step HB14.out hb8); clear HB14; have HB14 := HBn; clear HBn)); clear hb8; have hcell8 := HX5.out _ HB.out)
    | (go_at_call 40; with_reducible refine (HMK.out _ HB.out).mono ?_; rintro e w9 ⟨v9, rfl, hv9, hb9⟩; have HBn := Aside0.mk (below_step HB.out hb9); clear HB; have HB := HBn; clear HBn hb9; obtain ⟨AK, cK, rfl, hcK, hCK⟩ := Kd.R_reads hv9; obtain ⟨aK, e, hz0⟩ := Kd.at_int hCK 0 (by decide) hk0; cases e; obtain ⟨aK2, e, hz1⟩ := Kd.at_int hCK 1 (by decide) hk1; cases e; rw [HK0.out, Int.toNat_zero, show aK.add 0 = aK by simp [Addr.add]] at hz0; rw [← HY.out, Int.toNat_one, show aK.add 1 = ⟨aK.block, aK.off + 1, none⟩ by simp [Addr.add]] at hz1; have HZ0 := Aside0.mk (show ∀ W, Below w9.heap.size w9 W → W.cell? aK = some (.int .i64 (S.length : Int)) from fun W h => (h.cell (World.block_lt_of_cell? _ _ hz0)).trans hz0); have HZ1 := Aside0.mk (show ∀ W, Below w9.heap.size w9 W → W.cell? ⟨aK.block, aK.off + 1, none⟩ = some (.int .i64 y) from fun W h => (h.cell (World.block_lt_of_cell? _ _ hz1)).trans hz1); have HK9 := Aside0.mk hCK; have HCK := Aside0.mk hcK; clear hv9 hcK hCK hz0 hz1; have HB9 := Aside0.mk (Below.refl w9.heap.size w9))
    | (go_at_call 41; with_reducible refine (HAO.out _ HB.out).mono ?_; rintro e w10 ⟨v10, rfl, hv10, hb10⟩; have HBn := Aside0.mk (below_step HB.out hb10); clear HB; have HB := HBn; clear HBn; have HBn := Aside0.mk (below_step HB9.out hb10); clear HB9; have HB9 := HBn; clear HBn hb10; obtain ⟨AS, cS, rfl, hcS, hCS⟩ := Kd.R_reads hv10; clear hv10 hcS hCS)
    | (go_at_call 42; with_reducible refine (laws_r8Sum.calls kS (some aK) cK K _ _ (Kd.C_below HK9.out HB9.out) HCK.out HSUM.out).mono ?_; rintro e w11 ⟨rfl, ⟨nd11, hw11⟩⟩; have HBn := Aside0.mk (below_at hw11.symm HB.out); clear HB; have HB := HBn; clear HBn; have HBn := Aside0.mk (below_at hw11.symm HB9.out); clear HB9; have HB9 := HBn; clear HBn hw11; have hz0 := HZ0.out _ HB9.out; have hz1 := HZ1.out _ HB9.out; have hcell11 := HX5.out _ HB.out)
    | (go_at_call 39; with_reducible refine (HPR.out _ HB.out).mono ?_; rintro e w13 ⟨rfl, hb13⟩; have HBn := Aside0.mk (below_step HB.out hb13); clear HB; have HB := HBn; clear HBn hb13; have hcell13 := HX5.out _ HB.out)
    | (go_at_call 28; with_reducible refine (HDF.out _ HB.out).mono ?_; rintro e w14 ⟨v14, rfl, hv14, hb14⟩; have HBn := Aside0.mk (below_step HB.out hb14); clear HB; have HB := HBn; clear HBn hb14; obtain ⟨AD, cD, rfl, hcD, hCD⟩ := Kd.R_reads hv14; obtain ⟨aD, e, hy0⟩ := Kd.at_int hCD 0 (by decide) hd0; cases e; rw [HD0.out, Int.toNat_zero, show aD.add 0 = aD by simp [Addr.add]] at hy0; have HY0 := Aside0.mk (show ∀ W, Below w14.heap.size w14 W → W.cell? aD = some (.int .i64 0) from fun W h => (h.cell (World.block_lt_of_cell? _ _ hy0)).trans hy0); clear hv14 hcD hCD hy0; have HB14 := Aside0.mk (Below.refl w14.heap.size w14))
    | (go_at_call 43; with_reducible refine (HLC.out _ HB.out).mono ?_; rintro e w17 ⟨v17, rfl, hv17, hb17⟩; have HBn := Aside0.mk (below_step HB.out hb17); clear HB; have HB := HBn; clear HBn; have hy17 := HY0.out _ (below_step HB14.out hb17); obtain ⟨AC, cC, rfl, hcC, hCC⟩ := Kd.R_reads hv17; obtain ⟨aC, e, hq17⟩ := Kd.at_int hCC (1 + (x : Int)) hc0 hc1; cases e; rw [HCM.out, show (1 + (x : Int)).toNat = 1 + x by omega] at hq17; clear hv17 hcC hCC))
  have h01 : againN R 1 U 1 = 0 := by unfold againN; simp [againN]
  have HSP := Aside0.mk (misN_split R 1 U U.length (Nat.le_refl _))
  have hcold := coldN_set U U.length (Nat.le_refl _)
  rw [List.take_length, ← HSE.out] at hcold
  have HCO := Aside0.mk hcold
  have HSL := Aside0.mk (setL_length_le U)
  rw [← HSE.out] at HSL
  have HAL := Aside0.mk (show ∀ i, i ≤ U.length → againN R 1 U i ≤ i from fun i hi => by have := misN_split R 1 U i hi; have := misN_le R 1 U i; omega)
  have HUL := Aside0.mk hUl
  have HH := Aside0.mk h01
  clear hcold hz0 hz1 hcell hcell7 hcell8 hcell11 hcell13 hy17 hq17 hb17 HB9 HB14 HK0 HK1 HKL HZ0 HZ1 HY HY0 HSM HEX HER HEU HL HRB5 HK9 HCK hkl3 hk0 hk1 hdl64 hd0 hcl1 hc0 hc1 hy0 HSUM HMK HAO HSM0 HSM1 HPR HDF HLC HDL HD0 HCL HCM
  go_loopg [24, 25] U.length (fun gg s24 s25 wr => ∃ i : Nat, s24 = .int .i64 (againN R 1 U i : Nat) ∧ s25 = .int .i64 i ∧ Aside0 (1 ≤ i ∧ (i ≤ 1 ∨ i ≤ U.length) ∧ U.length - i ≤ gg) ∧ Aside0 (Below w5.heap.size w5 wr))
  case atStart => exact ⟨1, by rw [h01]; rfl, rfl, ⟨⟨by omega, by omega, by omega⟩⟩, HB⟩
  case round =>
    clear HB
    obtain ⟨i, rfl, rfl, HK, HB⟩ := hrel
    by_cases hlt : i < U.length
    · have hltz : (i : Int) < (U.length : Int) := by omega
      have h0z : (0 : Int) ≤ (i : Int) := by omega
      have hlez : (i : Int) ≤ (U.length : Int) := by omega
      have h1z : (0 : Int) ≤ (i : Int) + 1 := by omega
      have hle1z : (i : Int) + 1 ≤ (U.length : Int) := by omega
      obtain ⟨ad, e, hx0⟩ := Kd.at_int HU5.out (i : Int) h0z hltz
      cases e
      simp only [Int.toNat_natCast] at hx0
      have HX0 := Aside0.mk (show ∀ W, Below w5.heap.size w5 W → W.cell? (ad.add i) = some (.int .i64 (rd U (i : Int))) from fun W h => (h.cell (World.block_lt_of_cell? _ _ hx0)).trans hx0)
      obtain ⟨i0, hi0, _, hsz0, _⟩ := info_parts info2
      obtain ⟨hcut1, hA1, hC1⟩ := print_take_of (P := Try.prog) (Value.int .i64) 0 24 2 .i64 Try.underlying24 hi0 hsz0 (some ad) cU U (i : Int) h0z hlez HCU.out
      obtain ⟨hcut2, hA2, hC2⟩ := print_take_of (P := Try.prog) (Value.int .i64) 0 24 2 .i64 Try.underlying24 hi0 hsz0 (some ad) cU U ((i : Int) + 1) h1z hle1z HCU.out
      have HRT := Aside0.mk (Kd.C_of_reads (h1 := fun _ => rfl) (hA1 _ (Kd.reads_of_C HU5.out)))
      have HRT2 := Aside0.mk (Kd.C_of_reads (h1 := fun _ => rfl) (hA2 _ (Kd.reads_of_C HU5.out)))
      have ht1 : (U.take (i : Int).toNat) = U.take i := by rw [Int.toNat_natCast]
      have ht2 : (U.take ((i : Int) + 1).toNat) = U.take (i + 1) := by rw [show ((i : Int) + 1).toNat = i + 1 by omega]
      rw [ht1] at hcut1 HRT hC1
      rw [ht2] at hcut2 HRT2 hC2
      have htl1 : (U.take i).length = i := by rw [List.length_take]; omega
      have htl2 : (U.take (i + 1)).length = i + 1 := by rw [List.length_take]; omega
      have e1 : impl_SetMisses.f R 1 (U.take i) = some ((misN R 1 U i : Int), true) := by
        rw [impl_SetMisses_ok R 1 _ hR (by omega) (okUses_take hU _), htl1, misN_take R 1 U i i (Nat.le_refl _)]
      have e2 : impl_SetMisses.f R 1 (U.take (i + 1)) = some ((misN R 1 U (i + 1) : Int), true) := by
        rw [impl_SetMisses_ok R 1 _ hR (by omega) (okUses_take hU _), htl2, misN_take R 1 U (i + 1) (i + 1) (Nat.le_refl _)]
      have HT1 := Aside0.mk (fun (W : World) (hb : Below w5.heap.size w5 W) => impl_SetMisses.calls AR cR R 1 (some ad) cU (U.take i) _ true W (Kd.C_below HR5.out hb) HCR.out (Kd.C_below HRT.out hb) hC1 e1)
      have HT2 := Aside0.mk (fun (W : World) (hb : Below w5.heap.size w5 W) => impl_SetMisses.calls AR cR R 1 (some ad) cU (U.take (i + 1)) _ true W (Kd.C_below HR5.out hb) HCR.out (Kd.C_below HRT2.out hb) hC2 e2)
      obtain ⟨kH, eH⟩ := ev_r8Has (U.take i) (rd U (i : Int)) (by omega)
      have HTH := Aside0.mk (fun (W : World) (hb : Below w5.heap.size w5 W) => laws_r8Has.calls kH (some ad) cU (U.take i) (rd U (i : Int)) _ W (Kd.C_below HRT.out hb) hC1 (eH kH (Nat.le_refl _)))
      have hmis : misN R 1 U (i + 1) = misN R 1 U i + if missAt R 1 U i = true then 1 else 0 := rfl
      have hagn : againN R 1 U (i + 1) = againN R 1 U i + if rd U (i : Int) ∈ U.take i ∧ missAt R 1 U i = true then 1 else 0 := rfl
      have hst := misN_step R 1 U i
      have hle := misN_le R 1 U i
      have hal := HAL.out i (by omega)
      have hul60 := HUL.out
      obtain ⟨m0, hm0⟩ : ∃ m0, m0 = misN R 1 U i := ⟨_, rfl⟩
      obtain ⟨m1, hm1⟩ : ∃ m1, m1 = misN R 1 U (i + 1) := ⟨_, rfl⟩
      obtain ⟨a0, ha0⟩ : ∃ a0, a0 = againN R 1 U i := ⟨_, rfl⟩
      obtain ⟨u, hue⟩ : ∃ u, u = rd U (i : Int) := ⟨_, rfl⟩
      rw [← hm0] at HT1 hmis hst hle
      rw [← hm1] at HT2 hmis hst
      rw [← ha0] at hagn hal ⊢
      rw [← hue] at HTH HX0 hagn
      have hn1 : ¬ (m1 : Int) < (m0 : Int) := by omega
      have hn2 : ¬ (m1 : Int) > (m0 : Int) + 1 := by omega
      have hn2' : ¬ (m0 : Int) + 1 < (m1 : Int) := by omega
      have hd2 : decide (m1 > m0 + 1) = false := decide_eq_false (by omega)
      have HAG := Aside0.mk hagn
      have HMI := Aside0.mk hmis
      rw [htl1] at HTH hcut1 HT1
      rw [htl2] at hcut2 HT2
      have hx22 := HX5.out wr HB.out
      have hws : IntKind.i64.wrap ((i : Int) + 1) = (i : Int) + 1 := by rw [IntKind.wrap_i64]; omega
      clear hx0 hi0 hsz0 hA1 hA2 ht1 ht2 e1 e2 eH hm0 hm1 ha0 hue hagn hmis htl1 htl2
      go_wp2_with (fail)
      go_region_with (go_at_call 19; with_reducible refine (HT1.out _ (by repeat (first | (with_reducible first | exact HB.out | apply below_alloc | apply pw_below_drewN | apply below_drew1) | exact HB.out))).mono ?_; rintro e w22 ⟨rfl, hb22⟩; have HBn := Aside0.mk (below_step (by repeat (first | (with_reducible first | exact HB.out | apply below_alloc | apply pw_below_drewN | apply below_drew1) | exact HB.out)) hb22); clear HB; have HB := HBn; clear HBn hb22; have hx23 := HX5.out _ HB.out)
      all_goals go_wp2_with (fail)
      all_goals go_region_with (go_at_call 19; with_reducible refine (HT2.out _ (by repeat (first | (with_reducible first | exact HB.out | apply below_alloc | apply pw_below_drewN | apply below_drew1) | exact HB.out))).mono ?_; rintro e w22 ⟨rfl, hb22⟩; have HBn := Aside0.mk (below_step (by repeat (first | (with_reducible first | exact HB.out | apply below_alloc | apply pw_below_drewN | apply below_drew1) | exact HB.out)) hb22); clear HB; have HB := HBn; clear HBn hb22)
      cases hm : decide (u ∈ U.take i) with
      | true =>
        rw [hm] at HTH
        have hmem := of_decide_eq_true hm
        have HAG2 := Aside0.mk (show againN R 1 U (i + 1) = a0 + (m1 - m0) by have h1 := HAG.out; have h2 := HMI.out; by_cases hq : missAt R 1 U i = true <;> simp [hmem, hq] at h1 h2 <;> omega)
        clear hm
        all_goals go_wp2_with (fail)
        all_goals (have hu26 := HX0.out _ HB.out)
        all_goals go_region_with (go_at_call 44; with_reducible refine (HTH.out _ (by repeat (first | (with_reducible first | exact HB.out | apply below_alloc | apply pw_below_drewN | apply below_drew1) | exact HB.out))).mono ?_; rintro e w26 ⟨rfl, ⟨nd26, hw26⟩⟩; have HBn := Aside0.mk (below_at hw26.symm (by repeat (first | (with_reducible first | exact HB.out | apply below_alloc | apply pw_below_drewN | apply below_drew1) | exact HB.out))); clear HB; have HB := HBn; clear HBn hw26)
        all_goals go_wp2_with (fail)
        all_goals (go_roundg (U.length - (i + 1)); (case measure => have := HK.out; omega); (case rel => exact ⟨i + 1, by rw [HAG2.out]; go_num, by go_num, ⟨by have := HK.out; omega⟩, ⟨(by repeat (first | (with_reducible first | exact HB.out | apply below_alloc | apply pw_below_drewN | apply below_drew1) | exact HB.out))⟩⟩))
      | false =>
        rw [hm] at HTH
        have hmem := of_decide_eq_false hm
        have HAG2 := Aside0.mk (show againN R 1 U (i + 1) = a0 by have h1 := HAG.out; rw [if_neg (fun h => hmem h.1)] at h1; exact h1)
        clear hm
        all_goals go_wp2_with (fail)
        all_goals (have hu26 := HX0.out _ HB.out)
        all_goals go_region_with (go_at_call 44; with_reducible refine (HTH.out _ (by repeat (first | (with_reducible first | exact HB.out | apply below_alloc | apply pw_below_drewN | apply below_drew1) | exact HB.out))).mono ?_; rintro e w26 ⟨rfl, ⟨nd26, hw26⟩⟩; have HBn := Aside0.mk (below_at hw26.symm (by repeat (first | (with_reducible first | exact HB.out | apply below_alloc | apply pw_below_drewN | apply below_drew1) | exact HB.out))); clear HB; have HB := HBn; clear HBn hw26)
        all_goals go_wp2_with (fail)
        all_goals (go_roundg (U.length - (i + 1)); (case measure => have := HK.out; omega); (case rel => exact ⟨i + 1, by rw [HAG2.out], by go_num, ⟨by have := HK.out; omega⟩, ⟨(by repeat (first | (with_reducible first | exact HB.out | apply below_alloc | apply pw_below_drewN | apply below_drew1) | exact HB.out))⟩⟩))
    · have hltz : ¬ (i : Int) < (U.length : Int) := by omega
      have hae : againN R 1 U i = againN R 1 U U.length := by
        have hk := HK.out
        by_cases h0 : i = U.length
        · rw [h0]
        · obtain ⟨rfl, hl0⟩ : i = 1 ∧ U.length = 0 := by omega
          rw [hl0]; exact HH.out
      have hsp := HSP.out
      have hco := HCO.out
      have hsl := HSL.out
      have hul60 := HUL.out
      have hal := HAL.out U.length (Nat.le_refl _)
      have hpg := HPG.out
      rw [hae]
      obtain ⟨g, hg⟩ : ∃ g, g = againN R 1 U U.length := ⟨_, rfl⟩
      rw [← hg] at hsp hal hpg ⊢
      have hms : (misN R 1 U U.length : Int) = (g : Int) + (S.length : Int) := by omega
      rw [hms]
      have hge : decide (press ≥ (g : Int)) = true := decide_eq_true hpg
      clear hae hsp hg hms hco
      go_wp2_with (fail)
      go_ret
      exact ⟨rfl, HW.out.trans (HB.out.mono HW.out.size)⟩
end Go.Proofs.Ytdhkcnhmmiigoaa.Q
