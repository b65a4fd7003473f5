/- laws.FnStacked answers true for all texts of bytes; no conditions. -/
import Derived.Test.YteobbgofbedgdaaQx0
import Derived.Test.YteobbgofbedgdaaHrankcontents
import Derived.Test.YteobbgofbedgdaaHstackOf
import Derived.Test.YteobbgofbedgdaaQx2
import Derived.Test.YteobbgofbedgdaaSascend
import Derived.Test.YteobbgofbedgdaaSr8ranks
import Derived.Test.YteobbgofbedgdaaSsetlimpl
import Derived.Test.YteobbgofbedgdaaSpushi
import Derived.Test.YteobbgofbedgdaaSusesimpl
import Derived.Test.YteobbgofbedgdaaSsetldef
import Derived.Test.YteobbgofbedgdaaSr8uses
import Derived.Test.YteobbgofbedgdaaSrankdefs
import Derived.Test.YteobbgofbedgdaaSsetl
import Derived.Test.YteobbgofbedgdaaSstackedlaw
import Derived.Deep.RegionWith
namespace Go.Proofs.Yteobbgofbedgdaa.Q
open Go.RowKit Go.Proofs.YteobbgofbedgdaaW.PrintWords Go.Proofs.YteobbgofbedgdaaW.PrintLast Go.Proofs.YteobbgofbedgdaaW.PrintMore
attribute [local go_sem] max2_int min2_int max_two min_two max_three min_three max_four min_four   -- for this text's walks alone
set_option linter.unusedVariables false
set_option linter.unusedSimpArgs false

def laws_FnStacked.f (l0 l1 : List Int) : Option Bool := lawOf2 l0 l1
theorem C_empty {w : World} (A : Option Addr) : Kd.C (Kd.int .i64) w A ([] : List Int).length [] := ⟨rfl, by simp, fun h => absurd h (by simp)⟩
set_option maxHeartbeats 8000000 in
set_option maxRecDepth 100000 in
theorem laws_FnStacked.calls (A0 : Option Addr) (c0 : Nat) (l0 : List Int) (A1 : Option Addr) (c1 : Nat) (l1 : List Int) (r : Bool) (w : World) (hr0 : Kd.C (Kd.int .u8) w A0 l0.length l0) (hc0 : l0.length ≤ c0) (hr1 : Kd.C (Kd.int .u8) w A1 l1.length l1) (hc1 : l1.length ≤ c1) (h : laws_FnStacked.f l0 l1 = some r) :
    Calls Try.prog 10 #[.slice A0 l0.length c0, .slice A1 l1.length c1] w fun e w' => e = .returned (.bool r) ∧ Below w.heap.size w w' := by
  obtain ⟨rfl, B0, B1⟩ := lawOf2_some h
  clear h
  have HRA := Aside0.mk hr0
  have HRB := Aside0.mk hr1
  have HCA := Aside0.mk hc0
  have HCB := Aside0.mk hc1
  clear hr0 hc0 hr1 hc1
  by_cases hlong : laws_r8Long.f l0 l1 = some true
  · have HL := Aside0.mk hlong
    clear hlong B0 B1
    go_enter Try.func10, Try.ntmps10
    go_wp2_with (go_at_call 36; with_reducible refine (laws_r8Long.calls A0 c0 l0 A1 c1 l1 true _ HRA.out HCA.out HRB.out HCB.out HL.out).mono ?_; rintro e w2 ⟨rfl, ⟨nd, rfl⟩⟩)
    go_ret
    exact ⟨rfl, by repeat (first | exact Below.refl _ _ | apply pw_below_drewN | apply below_drew1)⟩
  obtain ⟨hl, _, _⟩ := r8Long_no l0 l1 hlong
  obtain ⟨U, ⟨kU, eU⟩, hU, hul⟩ := ev_R8Uses l0 B0
  obtain ⟨R, ⟨kR, eR⟩, hR⟩ := ev_R8Ranks l1 B1
  obtain ⟨hUm, hUl⟩ := (okUses_iff U).1 hU
  obtain ⟨kS, eS⟩ := ev_RankStack_ok R U hR hU
  obtain ⟨kC, eC⟩ := ev_RankCurve_ok R U 12 (by omega) hR hU
  have HL := Aside0.mk hl
  have HEU := Aside0.mk (eU kU (Nat.le_refl _))
  have HER := Aside0.mk (eR kR (Nat.le_refl _))
  have HES := Aside0.mk (eS kS (Nat.le_refl _))
  have HEC := Aside0.mk (show impl_RankCurve.f kC R U 12 = _ from eC kC (Nat.le_refl _))
  have HET := Aside0.mk (StackOf_ok U hU)
  have HEV : Aside0 (impl_ValidRanks.f R = some true) := ⟨by rw [impl_ValidRanks_f, hR]⟩
  have HCL := Aside0.mk (crv_length (plc R U U.length) (12 + 1))
  have HTL := Aside0.mk (last_length R U)
  have HSL := Aside0.mk (stk_length R U U.length)
  have HIN := Aside0.mk (fun (n : Nat) (hn : 1 ≤ n) => contents_length R U hR hU n hn)
  have HHA := Aside0.mk (fun (n : Nat) (hn : 1 ≤ n) => contents_has R U hR hU n hn)
  have HBH := Aside0.mk (fun (n : Nat) (hn : 1 ≤ n) => before_has R U hR hU n hn)
  have HCA2 := Aside0.mk (fun (p : Nat) (h : p < 12 + 1) => rd_crv_at (plc R U U.length) (12 + 1) p h)
  have HLH := Aside0.mk (last_has U)
  have HLE := Aside0.mk (last_ends R U)
  have HNB := Aside0.mk (stackL_facts U).2.2
  have hnil : U.length = 0 → stackL U = [] := fun h => List.eq_nil_of_length_eq_zero (by have := (stackL_facts U).2.2; omega)
  have HB : Aside0 (Below w.heap.size w w) := ⟨Below.refl _ _⟩
  clear hlong hl eU eR eS eC B0 B1 hnil
  generalize stk R U U.length = S at HES HTL HSL HIN HHA HLE
  generalize crv (plc R U U.length) (12 + 1) = C at HEC HCL HCA2
  generalize stackL U = T at HET HTL HLH HLE HNB
  have hcl : ((C.length : Int) != 13) = false := by rw [HCL.out]; rfl
  have htl : ((T.length : Int) != (S.length : Int)) = false := by rw [HTL.out]; exact bne_self_eq_false _
  go_enter Try.func10, Try.ntmps10
  go_wp2_with (first
    | (go_at_call 36; with_reducible refine (laws_r8Long.calls A0 c0 l0 A1 c1 l1 false _ HRA.out HCA.out HRB.out HCB.out HL.out).mono ?_; rintro e w2 ⟨rfl, ⟨nd, hw2⟩⟩; have hb2 : Below w.heap.size w w2 := below_at hw2.symm (Below.refl _ _); have N_ := Aside0.mk (Kd.C_below HRA.out hb2); clear HRA; have HRA := N_; clear N_; have N_ := Aside0.mk (Kd.C_below HRB.out hb2); clear HRB; have HRB := N_; clear N_; have N_ := Aside0.mk (below_step HB.out hb2); clear HB; have HB := N_; clear N_; clear hw2 hb2)
    | (go_at_call 37; with_reducible refine (spec_R8Uses.calls kU A0 c0 l0 U _ HRA.out HCA.out HEU.out).mono ?_; rintro e w3 ⟨v3, rfl, hv3, hb3⟩; have N_ := Aside0.mk (Kd.C_below HRB.out hb3); clear HRB; have HRB := N_; clear N_; have N_ := Aside0.mk (below_step HB.out hb3); clear HB; have HB := N_; clear N_; clear hb3 HRA; obtain ⟨AU, cU, rfl, hcU, hCU⟩ := Kd.R_reads hv3; have HU := Aside0.mk hCU; have HCU := Aside0.mk hcU; clear hv3 hcU hCU)
    | (go_at_call 38; with_reducible refine (spec_R8Ranks.calls kR A1 c1 l1 R _ HRB.out HCB.out HER.out).mono ?_; rintro e w5 ⟨v5, rfl, hv5, hb5⟩; have N_ := Aside0.mk (Kd.C_below HU.out hb5); clear HU; have HU := N_; clear N_; have N_ := Aside0.mk (below_step HB.out hb5); clear HB; have HB := N_; clear N_; clear hb5 HRB; obtain ⟨AR, cR, rfl, hcR, hCR⟩ := Kd.R_reads hv5; have HR := Aside0.mk hCR; have HCR := Aside0.mk hcR; clear hv5 hcR hCR)
    | (go_at_call 31; with_reducible refine (impl_RankStack.calls kS AR cR R AU cU U S true _ HR.out HCR.out HU.out HCU.out HES.out).mono ?_; rintro e w7 ⟨v7, rfl, hv7, hb7⟩; have N_ := Aside0.mk (Kd.C_below HU.out hb7); clear HU; have HU := N_; clear N_; have N_ := Aside0.mk (Kd.C_below HR.out hb7); clear HR; have HR := N_; clear N_; have N_ := Aside0.mk (below_step HB.out hb7); clear HB; have HB := N_; clear N_; clear hb7; obtain ⟨AS, cS, rfl, hcS, hCS⟩ := Kd.R_reads hv7; have HS := Aside0.mk hCS; have HCS := Aside0.mk hcS; clear hv7 hcS hCS)
    | (go_at_call 33; with_reducible refine (impl_RankCurve.calls kC AR cR R AU cU U 12 C true _ HR.out HCR.out HU.out HCU.out HEC.out).mono ?_; rintro e w8 ⟨v8, rfl, hv8, hb8⟩; have N_ := Aside0.mk (Kd.C_below HU.out hb8); clear HU; have HU := N_; clear N_; have N_ := Aside0.mk (Kd.C_below HR.out hb8); clear HR; have HR := N_; clear N_; have N_ := Aside0.mk (Kd.C_below HS.out hb8); clear HS; have HS := N_; clear N_; have N_ := Aside0.mk (below_step HB.out hb8); clear HB; have HB := N_; clear N_; clear hb8; obtain ⟨AC, cC, rfl, hcC, hCC⟩ := Kd.R_reads hv8; have HC := Aside0.mk hCC; have HCC := Aside0.mk hcC; clear hv8 hcC hCC)
    | (go_at_call 39; with_reducible refine (impl_StackOf.calls AU cU U T true _ HU.out HCU.out HET.out).mono ?_; rintro e w9 ⟨v9, rfl, hv9, hb9⟩; have N_ := Aside0.mk (Kd.C_below HU.out hb9); clear HU; have HU := N_; clear N_; have N_ := Aside0.mk (Kd.C_below HR.out hb9); clear HR; have HR := N_; clear N_; have N_ := Aside0.mk (Kd.C_below HS.out hb9); clear HS; have HS := N_; clear N_; have N_ := Aside0.mk (Kd.C_below HC.out hb9); clear HC; have HC := N_; clear N_; have N_ := Aside0.mk (below_step HB.out hb9); clear HB; have HB := N_; clear N_; clear hb9; obtain ⟨AT, cT, rfl, hcT, hCT⟩ := Kd.R_reads hv9; have HT := Aside0.mk hCT; have HCT := Aside0.mk hcT; clear hv9 hcT hCT)
    | (go_at_call 29; with_reducible refine (impl_ValidRanks.calls AR cR R true _ HR.out HCR.out HEV.out).mono ?_; rintro e w10 ⟨rfl, hb10⟩; have N_ := Aside0.mk (Kd.C_below HU.out hb10); clear HU; have HU := N_; clear N_; have N_ := Aside0.mk (Kd.C_below HR.out hb10); clear HR; have HR := N_; clear N_; have N_ := Aside0.mk (Kd.C_below HS.out hb10); clear HS; have HS := N_; clear N_; have N_ := Aside0.mk (Kd.C_below HC.out hb10); clear HC; have HC := N_; clear N_; have N_ := Aside0.mk (Kd.C_below HT.out hb10); clear HT; have HT := N_; clear N_; have N_ := Aside0.mk (below_step HB.out hb10); clear HB; have HB := N_; clear N_; clear hb10))
  have HW := HB
  clear HB
  have HB := Aside0.mk (Below.refl w10.heap.size w10)
  clear HL HEU HER HES HEC HET HEV HCA HCB hcl htl
  have hul13 : U.length ≤ 13 := hul
  have HUL := Aside0.mk hul
  clear hul13 hul hUl
  go_loopg [13] 12 (fun gg s13 wr => ∃ n : Nat, s13 = .int .i64 n ∧ Aside0 (1 ≤ n ∧ n ≤ 13 ∧ 13 - n ≤ gg) ∧ Aside0 (Below w10.heap.size w10 wr))
  case atStart => exact ⟨1, rfl, ⟨⟨by omega, by omega, by omega⟩⟩, HB⟩
  case round =>
    clear HB
    obtain ⟨n, rfl, HK, HB⟩ := hrel
    by_cases hlt : n ≤ 12
    · have hltz : (n : Int) ≤ 12 := by omega
      have hn1 : 1 ≤ n := HK.out.1
      have hlen := HIN.out n hn1
      have hhas := HHA.out n hn1
      have hbef := HBH.out n hn1
      have hrc := RankContents_ok R U (n : Int) (by omega) hR hU
      obtain ⟨I, hI⟩ : ∃ I, I = setL (memTo R U (n : Int) U.length) := ⟨_, rfl⟩
      rw [← hI] at hlen hhas hrc
      obtain ⟨m, hm⟩ : ∃ m, m = min n S.length := ⟨_, rfl⟩
      have hml := r8Least_ok n S.length
      rw [← hm] at hlen hhas hml
      have hmS : m ≤ S.length := by omega
      have hilen : ((I.length : Int) != (m : Int)) = false := by rw [hlen]; exact bne_self_eq_false _
      have HRC := Aside0.mk (fun (W : World) (hb : Below w10.heap.size w10 W) => impl_RankContents.calls AR cR R AU cU U (n : Int) I true W (Kd.C_below HR.out hb) HCR.out (Kd.C_below HU.out hb) HCU.out hrc)
      have HLS := Aside0.mk hml
      have HHS := Aside0.mk hhas
      have HBF := Aside0.mk hbef
      have hcv := HCA2.out n (by omega)
      have HCV := Aside0.mk hcv
      have hn0z : (0 : Int) ≤ (n : Int) := by omega
      have hnC : (n : Int) < (C.length : Int) := by rw [HCL.out]; omega
      have HNN := Aside0.mk (And.intro hn1 hlt)
      have HMS := Aside0.mk hmS
      have hm13 : m ≤ 13 := by have := HSL.out; have := HUL.out; omega
      have HIL := Aside0.mk hlen
      clear hlen hhas hbef hrc hI hm hml hcv hn1 hmS
      go_wp2_with (first
        | (go_at_call 35; with_reducible refine (HRC.out _ HB.out).mono ?_; rintro e w13 ⟨v13, rfl, hv13, hb13⟩; have N_ := Aside0.mk (below_step HB.out hb13); clear HB; have HB := N_; clear N_ hb13; obtain ⟨AI, cI, rfl, hcI, hCI⟩ := Kd.R_reads hv13; have HI := Aside0.mk hCI; have HCI := Aside0.mk hcI; clear hv13 hcI hCI)
        | (go_at_call 40; with_reducible refine (laws_r8Least.calls (n : Int) (S.length : Int) (m : Int) _ HLS.out).mono ?_; rintro e w14 ⟨rfl, ⟨nd14, hw14⟩⟩; have hb14 : Below w13.heap.size w13 w14 := below_at hw14.symm (Below.refl _ _); have N_ := Aside0.mk (below_step HB.out hb14); clear HB; have HB := N_; clear N_; have N_ := Aside0.mk (Kd.C_below HI.out hb14); clear HI; have HI := N_; clear N_ hb14 hw14))
      have HX := Aside0.mk (Below.refl w14.heap.size w14)
      go_loopg [17] m (fun gg s17 wr2 => ∃ i : Nat, s17 = .int .i64 i ∧ Aside0 (i ≤ m ∧ m - i ≤ gg) ∧ Aside0 (Below w14.heap.size w14 wr2))
      case atStart => exact ⟨0, rfl, ⟨⟨Nat.zero_le _, by omega⟩⟩, HX⟩
      case round =>
        clear HX
        obtain ⟨i, rfl, HKi, HX⟩ := hrel
        by_cases hlti : i < m
        · have hltiz : (i : Int) < (m : Int) := by omega
          have h0iz : (0 : Int) ≤ (i : Int) := by omega
          have hiS : (i : Int) < (S.length : Int) := by have := HMS.out; omega
          obtain ⟨ad, e, hx0⟩ := Kd.at_int HS.out (i : Int) h0iz hiS
          cases e
          simp only [Int.toNat_natCast] at hx0
          have hx1 := ((below_step HB.out HX.out).cell (World.block_lt_of_cell? _ _ hx0)).trans hx0
          obtain ⟨kH, eH⟩ := ev_r8Has I (rd S (i : Int)) (by have := HIL.out; omega)
          have heH := eH kH (Nat.le_refl _)
          rw [decide_eq_true (HHS.out i hlti)] at heH
          have HTH := Aside0.mk (fun (W : World) (hb : Below w14.heap.size w14 W) => laws_r8Has.calls kH AI cI I (rd S (i : Int)) true W (Kd.C_below HI.out hb) HCI.out heH)
          generalize rd S (i : Int) = y at hx1 HTH
          clear hx0 eH heH
          go_wp2_with (go_at_call 41; with_reducible refine (HTH.out _ (by repeat (first | (with_reducible first | exact HX.out | apply below_alloc | apply pw_below_drewN | apply below_drew1) | exact HX.out))).mono ?_; rintro e w20 ⟨rfl, ⟨nd20, hw20⟩⟩; have N_ := Aside0.mk (below_at hw20.symm (by repeat (first | (with_reducible first | exact HX.out | apply below_alloc | apply pw_below_drewN | apply below_drew1) | exact HX.out))); clear HX; have HX := N_; clear N_ hw20)
          go_roundg (m - (i + 1))
          case measure => have := HKi.out; omega
          case rel => exact ⟨i + 1, by go_num, ⟨by have := HKi.out; omega⟩, HX⟩
        · have hltiz : ¬ (i : Int) < (m : Int) := by omega
          clear hlti
          go_wp2_with (fail)
          have N_ := Aside0.mk (below_step HB.out HX.out)
          clear HX HB HI HHS HKi
          have HB := N_
          clear N_
          go_loopg [18, 19] U.length (fun gg s18 s19 wr3 => ∃ j : Nat, s18 = .int .i64 ((plc R U j).countP (isMiss n) : Nat) ∧ s19 = .int .i64 j ∧ Aside0 (j ≤ U.length ∧ U.length - j ≤ gg) ∧ Aside0 (Below w10.heap.size w10 wr3))
          case atStart => exact ⟨0, rfl, rfl, ⟨⟨Nat.zero_le _, by omega⟩⟩, HB⟩
          case round =>
            clear HB
            obtain ⟨j, rfl, rfl, HKj, HB⟩ := hrel
            by_cases hltj : j < U.length
            · have hltjz : (j : Int) < (U.length : Int) := by omega
              have h0jz : (0 : Int) ≤ (j : Int) := by omega
              have hlejz : (j : Int) ≤ (U.length : Int) := by omega
              have hul13 := HUL.out
              obtain ⟨ad, e, hx0⟩ := Kd.at_int HU.out (j : Int) h0jz hltjz
              cases e
              simp only [Int.toNat_natCast] at hx0
              have HX0 := Aside0.mk (show ∀ W, Below w10.heap.size w10 W → W.cell? (ad.add j) = some (.int .i64 (rd U (j : Int))) from fun W h => (h.cell (World.block_lt_of_cell? _ _ hx0)).trans hx0)
              have hms := misses_succ R U n j
              have hcle : (plc R U j).countP (isMiss n) ≤ 13 := by have h1 := List.countP_le_length (p := isMiss n) (l := plc R U j); rw [plc_length] at h1; omega
              have HMSS := Aside0.mk hms
              obtain ⟨cnt, hcnt⟩ : ∃ cnt, cnt = (plc R U j).countP (isMiss n) := ⟨_, rfl⟩
              rw [← hcnt] at hms hcle ⊢
              have HMS1 := Aside0.mk hms
              clear HMSS hms hx0 hcnt
              by_cases hj0 : j = 0
              · have hz : ¬ (j : Int) > 0 := by omega
                have hz2 : ¬ (0 : Int) < (j : Int) := by omega
                obtain ⟨kH, eH⟩ := ev_r8Has [] (rd U (j : Int)) (by simp)
                have heH : laws_r8Has.f kH [] (rd U (j : Int)) = some false := by
                  have h1 := eH kH (Nat.le_refl _)
                  rw [decide_eq_false (by simp)] at h1
                  exact h1
                have HTH := Aside0.mk (fun (W : World) (A : Option Addr) => (show Calls Try.prog 41 #[.slice A 0 0, .int .i64 (rd U (j : Int))] W _ from laws_r8Has.calls kH A 0 [] (rd U (j : Int)) false W (C_empty A) (Nat.le_refl _) heH))
                have hnm : isMiss n (at_ (stk R U j) (rd U (j : Int))) = true := by rw [hj0]; exact none_has R U n
                have HM1 := Aside0.mk (show (plc R U (j + 1)).countP (isMiss n) = cnt + 1 by have h1 := HMS1.out; rw [if_pos hnm] at h1; exact h1)
                clear hnm
                obtain ⟨y, hy⟩ : ∃ y, y = rd U (j : Int) := ⟨_, rfl⟩
                rw [← hy] at HX0 HTH
                clear hy eH heH hj0
                have hxj := HX0.out _ (below_alloc HB.out (.cells #[] 2))
                go_wp2_with (go_at_call 41; with_reducible refine (HTH.out _ _).mono ?_; rintro e w32 ⟨rfl, ⟨nd32, hw32⟩⟩; have N_ := Aside0.mk (below_at hw32.symm (by repeat (first | (with_reducible first | exact HB.out | apply below_alloc | apply pw_below_drewN | apply below_drew1) | exact HB.out))); clear HB; have HB := N_; clear N_ hw32)
                go_roundg (U.length - (j + 1))
                case measure => have := HKj.out; omega
                case rel => exact ⟨j + 1, by rw [HM1.out]; go_num, by go_num, ⟨by have := HKj.out; omega⟩, HB⟩
              · have hz : (j : Int) > 0 := by omega
                have hz2 : (0 : Int) < (j : Int) := by omega
                obtain ⟨i0, hi0, _, hsz0, _⟩ := info_parts info2
                obtain ⟨hcut1, hA1, hC1⟩ := print_take_of (P := Try.prog) (Value.int .i64) 0 24 2 .i64 Try.underlying24 hi0 hsz0 (some ad) cU U (j : Int) h0jz hlejz HCU.out
                have HRT := Aside0.mk (Kd.C_of_reads (h1 := fun _ => rfl) (hA1 _ (Kd.reads_of_C HU.out)))
                have ht1 : (U.take (j : Int).toNat) = U.take j := by rw [Int.toNat_natCast]
                rw [ht1] at hcut1 HRT hC1
                have htl1 : (U.take j).length = j := by rw [List.length_take]; omega
                have hrc2 := RankContents_ok R (U.take j) (n : Int) (by have := HNN.out; omega) hR (uses_take hU j)
                have hbf := HBF.out j hltj
                obtain ⟨V, hV⟩ : ∃ V, V = setL (memTo R (U.take j) (n : Int) (U.take j).length) := ⟨_, rfl⟩
                have hVl : V.length ≤ 1000 := by have h1 := setL_length_le (memTo R (U.take j) (n : Int) (U.take j).length); have h2 := (memTo_in R (U.take j) (n : Int) ((okUses_iff _).1 (uses_take hU j)).1 (U.take j).length (Nat.le_refl _)).2; rw [← hV] at h1; omega
                rw [← hV] at hrc2 hbf
                have HT1 := Aside0.mk (fun (W : World) (hb : Below w10.heap.size w10 W) => impl_RankContents.calls AR cR R (some ad) cU (U.take j) (n : Int) V true W (Kd.C_below HR.out hb) HCR.out (Kd.C_below HRT.out hb) hC1 hrc2)
                rw [htl1] at hcut1 HT1
                obtain ⟨kH, eH⟩ := ev_r8Has V (rd U (j : Int)) (by omega)
                have heH := eH kH (Nat.le_refl _)
                rw [hbf] at heH
                obtain ⟨y, hy⟩ : ∃ y, y = rd U (j : Int) := ⟨_, rfl⟩
                rw [← hy] at HX0 heH HMS1
                cases hb : isMiss n (at_ (stk R U j) y) with
                | true =>
                  rw [hb] at heH
                  have hm1 := HMS1.out
                  rw [if_pos hb] at hm1
                  have HM1 := Aside0.mk hm1
                  have HTH := Aside0.mk (fun (A : Option Addr) (c : Nat) (W : World) (hC : Kd.C (Kd.int .i64) W A V.length V) (hc : V.length ≤ c) => laws_r8Has.calls kH A c V y false W hC hc heH)
                  clear hy eH heH hbf hrc2 hV ht1 hi0 hsz0 hA1 hb htl1 hm1
                  go_wp2_with (first
                    | (go_at_call 35; with_reducible refine (HT1.out _ (by repeat (first | (with_reducible first | exact HB.out | apply below_alloc | apply pw_below_drewN | apply below_drew1) | exact HB.out))).mono ?_; rintro e w28 ⟨v28, rfl, hv28, hb28⟩; have N_ := Aside0.mk (below_step (by repeat (first | (with_reducible first | exact HB.out | apply below_alloc | apply pw_below_drewN | apply below_drew1) | exact HB.out)) hb28); clear HB; have HB := N_; clear N_ hb28; obtain ⟨AV, cV, rfl, hcV, hCV⟩ := Kd.R_reads hv28; have HV := Aside0.mk hCV; have HCV := Aside0.mk hcV; have hxj := HX0.out _ HB.out; clear hv28 hcV hCV)
                    | (go_at_call 41; with_reducible refine (HTH.out AV cV _ HV.out HCV.out).mono ?_; rintro e w32 ⟨rfl, ⟨nd32, hw32⟩⟩; have N_ := Aside0.mk (below_at hw32.symm (by repeat (first | (with_reducible first | exact HB.out | apply below_alloc | apply pw_below_drewN | apply below_drew1) | exact HB.out))); clear HB; have HB := N_; clear N_ hw32))
                  go_roundg (U.length - (j + 1))
                  case measure => have := HKj.out; omega
                  case rel => exact ⟨j + 1, by rw [HM1.out]; go_num, by go_num, ⟨by have := HKj.out; omega⟩, HB⟩
                | false =>
                  rw [hb] at heH
                  have hm1 := HMS1.out
                  rw [if_neg (by rw [hb]; simp)] at hm1
                  have HM1 := Aside0.mk hm1
                  have HTH := Aside0.mk (fun (A : Option Addr) (c : Nat) (W : World) (hC : Kd.C (Kd.int .i64) W A V.length V) (hc : V.length ≤ c) => laws_r8Has.calls kH A c V y true W hC hc heH)
                  clear hy eH heH hbf hrc2 hV ht1 hi0 hsz0 hA1 hb htl1 hm1
                  go_wp2_with (first
                    | (go_at_call 35; with_reducible refine (HT1.out _ (by repeat (first | (with_reducible first | exact HB.out | apply below_alloc | apply pw_below_drewN | apply below_drew1) | exact HB.out))).mono ?_; rintro e w28 ⟨v28, rfl, hv28, hb28⟩; have N_ := Aside0.mk (below_step (by repeat (first | (with_reducible first | exact HB.out | apply below_alloc | apply pw_below_drewN | apply below_drew1) | exact HB.out)) hb28); clear HB; have HB := N_; clear N_ hb28; obtain ⟨AV, cV, rfl, hcV, hCV⟩ := Kd.R_reads hv28; have HV := Aside0.mk hCV; have HCV := Aside0.mk hcV; have hxj := HX0.out _ HB.out; clear hv28 hcV hCV)
                    | (go_at_call 41; with_reducible refine (HTH.out AV cV _ HV.out HCV.out).mono ?_; rintro e w32 ⟨rfl, ⟨nd32, hw32⟩⟩; have N_ := Aside0.mk (below_at hw32.symm (by repeat (first | (with_reducible first | exact HB.out | apply below_alloc | apply pw_below_drewN | apply below_drew1) | exact HB.out))); clear HB; have HB := N_; clear N_ hw32))
                  go_roundg (U.length - (j + 1))
                  case measure => have := HKj.out; omega
                  case rel => exact ⟨j + 1, by rw [HM1.out, Nat.add_zero], by go_num, ⟨by have := HKj.out; omega⟩, HB⟩
            · have hltjz : ¬ (j : Int) < (U.length : Int) := by omega
              have hje : j = U.length := by have := HKj.out; omega
              subst hje
              obtain ⟨ad, e, hx0⟩ := Kd.at_int HC.out (n : Int) hn0z hnC
              cases e
              rw [HCV.out, Int.toNat_natCast] at hx0
              have hxc := (HB.out.cell (World.block_lt_of_cell? _ _ hx0)).trans hx0
              clear hx0
              go_wp2_with (fail)
              go_roundg (13 - (n + 1))
              case measure => have := HK.out; omega
              case rel => exact ⟨n + 1, by go_num, ⟨by have := HK.out; omega⟩, HB⟩
    · have hltz : ¬ (n : Int) ≤ 12 := by omega
      clear HIN HHA HBH HCA2
      go_wp2_with (fail)
      go_loopg [23] T.length (fun gg s23 wr => ∃ i : Nat, s23 = .int .i64 i ∧ Aside0 (i ≤ T.length ∧ T.length - i ≤ gg) ∧ Aside0 (Below w10.heap.size w10 wr))
      case atStart => exact ⟨0, rfl, ⟨⟨Nat.zero_le _, by omega⟩⟩, HB⟩
      case round =>
        clear HB
        obtain ⟨i, rfl, HKi, HB⟩ := hrel
        by_cases hlti : i < T.length
        · have hltiz : (i : Int) < (T.length : Int) := by omega
          have h0iz : (0 : Int) ≤ (i : Int) := by omega
          have hleiz : (i : Int) ≤ (T.length : Int) := by omega
          have hT13 : T.length ≤ 13 := by have := HNB.out; have := HUL.out; omega
          obtain ⟨ad, e, hx0⟩ := Kd.at_int HT.out (i : Int) h0iz hltiz
          cases e
          simp only [Int.toNat_natCast] at hx0
          have HX0 := Aside0.mk (show ∀ W, Below w10.heap.size w10 W → W.cell? (ad.add i) = some (.int .i64 (rd T (i : Int))) from fun W h => (h.cell (World.block_lt_of_cell? _ _ hx0)).trans hx0)
          obtain ⟨i0, hi0, _, hsz0, _⟩ := info_parts info2
          obtain ⟨hcut1, hA1, hC1⟩ := print_take_of (P := Try.prog) (Value.int .i64) 0 24 2 .i64 Try.underlying24 hi0 hsz0 (some ad) cT T (i : Int) h0iz hleiz HCT.out
          have HRT := Aside0.mk (Kd.C_of_reads (h1 := fun _ => rfl) (hA1 _ (Kd.reads_of_C HT.out)))
          have ht1 : (T.take (i : Int).toNat) = T.take i := by rw [Int.toNat_natCast]
          rw [ht1] at hcut1 HRT hC1
          have htl1 : (T.take i).length = i := by rw [List.length_take]; omega
          obtain ⟨hin1, hin2⟩ := HLH.out i hlti
          obtain ⟨kH, eH⟩ := ev_r8Has U (rd T (i : Int)) (by have := HUL.out; omega)
          have heH := eH kH (Nat.le_refl _)
          rw [decide_eq_true hin1] at heH
          obtain ⟨kG, eG⟩ := ev_r8Has (T.take i) (rd T (i : Int)) (by omega)
          have heG := eG kG (Nat.le_refl _)
          rw [decide_eq_false hin2] at heG
          have HT1 := Aside0.mk (fun (W : World) (hb : Below w10.heap.size w10 W) => laws_r8Has.calls kH AU cU U (rd T (i : Int)) true W (Kd.C_below HU.out hb) HCU.out heH)
          have HT2 := Aside0.mk (fun (W : World) (hb : Below w10.heap.size w10 W) => laws_r8Has.calls kG (some ad) cT (T.take i) (rd T (i : Int)) false W (Kd.C_below HRT.out hb) hC1 heG)
          rw [htl1] at hcut1 HT2
          generalize rd T (i : Int) = y at HX0 HT1 HT2
          have hxi := HX0.out _ HB.out
          clear hx0 hi0 hsz0 hA1 ht1 htl1 eH heH eG heG hin1 hin2
          go_wp2_with (fail)
          go_quiet (first | (go_at_call 41; (first | with_reducible refine (HT1.out _ (by repeat (first | (with_reducible first | exact HB.out | apply below_alloc | apply pw_below_drewN | apply below_drew1) | exact HB.out))).mono ?_ | with_reducible refine (HT2.out _ (by repeat (first | (with_reducible first | exact HB.out | apply below_alloc | apply pw_below_drewN | apply below_drew1) | exact HB.out))).mono ?_); rintro e w' ⟨rfl, ⟨nd, rfl⟩⟩; (try first | exact ⟨rfl, _, World.drewN_drewN _ _ _⟩ | exact ⟨rfl, _, Eq.trans (World.drewN_drewN _ _ _) (congrArg (World.drewN _) (Nat.add_assoc _ _ _))⟩)))
          go_wp2_with (fail)
          go_roundg (T.length - (i + 1))
          case measure => have := HKi.out; omega
          case rel => exact ⟨i + 1, by go_num, ⟨by have := HKi.out; omega⟩, ⟨(by repeat (first | (with_reducible first | exact HB.out | apply below_alloc | apply pw_below_drewN | apply below_drew1) | exact HB.out))⟩⟩
        · have hltiz : ¬ (i : Int) < (T.length : Int) := by omega
          by_cases hu0 : U.length = 0
          · have hu0z : (U.length : Int) = 0 := by omega
            have hu0b : ((U.length : Int) == 0) = true := beq_iff_eq.mpr hu0z
            go_wp2_with (fail)
            go_quiet (fail)
            go_wp2_with (fail)
            go_ret
            exact ⟨rfl, HW.out.trans ((pw_below_drewN HB.out _).mono HW.out.size)⟩
          · have hu0z : ¬ (U.length : Int) = 0 := by omega
            have hu0b : ((U.length : Int) == 0) = false := beq_eq_false_iff_ne.mpr hu0z
            obtain ⟨hT0, hTe, hSe⟩ := HLE.out (by omega)
            have hT0z : (0 : Int) < (T.length : Int) := by omega
            have hS0z : (0 : Int) < (S.length : Int) := by have := HTL.out; omega
            have hul13 := HUL.out
            have hT13 : T.length ≤ 13 := by have := HNB.out; omega
            have hws : IntKind.i64.wrap ((U.length : Int) - 1) = (U.length : Int) - 1 := by rw [IntKind.wrap_i64]; omega
            have hl0 : (0 : Int) ≤ (U.length : Int) - 1 := by omega
            have hTg : decide ((T.length : Int) > 0) = true := decide_eq_true (by omega)
            have hTg2 : decide (0 < T.length) = true := decide_eq_true hT0
            have hl1 : (U.length : Int) - 1 < (U.length : Int) := by omega
            obtain ⟨aT, e, hx0⟩ := Kd.at_int HT.out 0 (by decide) hT0z
            cases e
            obtain ⟨aS, e, hy0⟩ := Kd.at_int HS.out 0 (by decide) hS0z
            cases e
            obtain ⟨aU, e, hz0⟩ := Kd.at_int HU.out ((U.length : Int) - 1) hl0 hl1
            cases e
            rw [hTe, Int.toNat_zero, show aT.add 0 = aT by simp [Addr.add]] at hx0
            rw [hSe, Int.toNat_zero, show aS.add 0 = aS by simp [Addr.add]] at hy0
            have hx1 := (HB.out.cell (World.block_lt_of_cell? _ _ hx0)).trans hx0
            have hy1 := (HB.out.cell (World.block_lt_of_cell? _ _ hy0)).trans hy0
            rw [show ((U.length : Int) - 1).toNat = U.length - 1 by omega] at hz0
            have hz1 := (HB.out.cell (World.block_lt_of_cell? _ _ hz0)).trans hz0
            generalize rd U ((U.length : Int) - 1) = y at hx1 hy1 hz1
            clear hx0 hy0 hz0 hTe hSe
            go_wp2_with (fail)
            go_quiet (fail)
            go_wp2_with (fail)
            go_ret
            exact ⟨rfl, HW.out.trans ((pw_below_drewN HB.out _).mono HW.out.size)⟩
end Go.Proofs.Yteobbgofbedgdaa.Q
