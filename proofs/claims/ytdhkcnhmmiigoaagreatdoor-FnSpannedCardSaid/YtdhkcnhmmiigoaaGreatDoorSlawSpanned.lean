/- laws.FnSpanned answers true for all texts of bytes, where the first variable holds a number. -/
import Derived.Test.YtdhkcnhmmiigoaaGreatDoorQx0
import Derived.Test.YtdhkcnhmmiigoaaGreatDoorHrankOf
import Derived.Test.YtdhkcnhmmiigoaaGreatDoorHsetmembers
import Derived.Test.YtdhkcnhmmiigoaaGreatDoorQx1
import Derived.Test.YtdhkcnhmmiigoaaGreatDoorQx2
import Derived.Test.YtdhkcnhmmiigoaaGreatDoorQx3
import Derived.Test.YtdhkcnhmmiigoaaGreatDoorSsetval
import Derived.Test.YtdhkcnhmmiigoaaGreatDoorSreadwl
import Derived.Test.YtdhkcnhmmiigoaaGreatDoorSamong
import Derived.Test.YtdhkcnhmmiigoaaGreatDoorSlu
import Derived.Test.YtdhkcnhmmiigoaaGreatDoorSr8has
import Derived.Test.YtdhkcnhmmiigoaaGreatDoorStxtdef
import Derived.Test.YtdhkcnhmmiigoaaGreatDoorSred
import Derived.Test.YtdhkcnhmmiigoaaGreatDoorSspanned
import Derived.Test.YtdhkcnhmmiigoaaGreatDoorSupto
namespace Go.Proofs.YtdhkcnhmmiigoaaGreatDoor.Q
open Go.RowKit Go.Proofs.YtdhkcnhmmiigoaaGreatDoorW.PrintWords Go.Proofs.YtdhkcnhmmiigoaaGreatDoorW.PrintLast Go.Proofs.YtdhkcnhmmiigoaaGreatDoorW.PrintMore
attribute [local go_sem] max2_int min2_int max_two min_two max_three min_three max_four min_four   -- for this text's walks alone
set_option linter.unusedVariables false
set_option linter.unusedSimpArgs false

set_option maxHeartbeats 16000000 in
set_option maxRecDepth 100000 in
theorem laws_FnSpanned.calls (A0 : Option Addr) (c0 : Nat) (l0 : List Int) (A1 : Option Addr) (c1 : Nat) (l1 : List Int) (m : Int) (w : World) (hr0 : Kd.C (Kd.int .u8) w A0 l0.length l0) (hc0 : l0.length ≤ c0) (hr1 : Kd.C (Kd.int .u8) w A1 l1.length l1) (hc1 : l1.length ≤ c1) (B0 : Bytes l0) (B1 : Bytes l1) (hm : w.cell? ⟨0, 0, none⟩ = some (.int .i64 m)) :
    Calls Tryz.prog 3 #[.slice A0 l0.length c0, .slice A1 l1.length c1] w fun e w' => e = .returned (.bool true) ∧ Below w.heap.size w w' := by
  have hu := Tryz.underlying26
  have HRA := Aside0.mk hr0
  have HRB := Aside0.mk hr1
  have HCA := Aside0.mk hc0
  have HCB := Aside0.mk hc1
  clear hr0 hc0 hr1 hc1
  by_cases hlong : laws_r8Long.f l0 l1 = some true
  · have HL := Aside0.mk hlong
    clear hlong B0 B1
    go_enter Tryz.func3, Tryz.ntmps3
    go_wp2_with (go_at_call 4; with_reducible refine (laws_r8Long.calls A0 c0 l0 A1 c1 l1 true _ HRA.out HCA.out HRB.out HCB.out HL.out).mono ?_; rintro e w2 ⟨rfl, ⟨nd, rfl⟩⟩)
    go_ret
    exact ⟨rfl, by repeat (first | exact Below.refl _ _ | apply pw_below_drewN | apply below_drew1)⟩
  obtain ⟨hl, _, _⟩ := r8Long_no l0 l1 hlong
  obtain ⟨R, ⟨kR, eR⟩, hR⟩ := ev_R8Index l0 B0
  obtain ⟨U, ⟨kU, eU⟩, hU, hul⟩ := ev_R8Near l1 B1
  obtain ⟨x, ex, hx⟩ := r8At_ok l1 B1 0 4 (by omega)
  obtain ⟨a, ea, ha⟩ := r8At_ok l1 B1 1 64 (by omega)
  obtain ⟨hRm, hRl⟩ := (okRows_iff R).1 hR
  obtain ⟨hUm, hUl⟩ := (okUses_iff U).1 hU
  have hp4 : 1 ≤ 1 + (x : Int) ∧ 1 + (x : Int) ≤ 4 := by omega
  have ha63 : 0 ≤ (a : Int) ∧ (a : Int) ≤ 63 := by omega
  obtain ⟨hYok, hYl⟩ := redL_ok R hRl hRm
  obtain ⟨hYm, hY3⟩ := (okRows_iff _).1 hYok
  have hspan := red_span R hRl hRm
  have hker := red_members R hRl hRm
  have hmis := red_misses R hRl hRm (1 + (x : Int)) U hUm U.length (Nat.le_refl _)
  have hsz := kernel_size R hRl hRm
  have hset := set_size R hRl hRm (a : Int) ha63
  have hslen := (red_all R hRl hRm).2
  have hhas := fun n hn => has_all R hRl hRm (a : Int) n ha63 hn
  have hRD := ReducedIndex_ok R hR
  obtain ⟨kS, eS⟩ := ev_SpanOf_ok R hR
  obtain ⟨kS2, eS2⟩ := ev_SpanOf_ok (redL R) hYok
  have hRK := RankOf_ok R hR
  have hKE := KernelOf_ok R hR
  have hKE2 := KernelOf_ok (redL R) hYok
  have hSM := impl_SetMisses_ok R (1 + (x : Int)) U hR hp4 hU
  have hSM2 := impl_SetMisses_ok (redL R) (1 + (x : Int)) U hYok hp4 hU
  have hST := SetMembers_ok R (a : Int) hR ha63
  obtain ⟨kN, eN⟩ := ev_SetOf_ok R (a : Int) hR ha63
  obtain ⟨kT, eT⟩ := ev_IndexText_ok R hR
  have HRI := Aside0.mk (fun (W : World) (hW : W.cell? ⟨0, 0, none⟩ = some (.int .i64 m)) => impl_ReadIndex.text R hR m W hW)
  have HMX := Aside0.mk (fun (W : World) (hb : Below w.heap.size w W) => (hb.cell (World.block_lt_of_cell? _ _ hm)).trans hm)
  have HVN := Aside0.mk (fun (n : Int) (hn : 0 ≤ n ∧ n ≤ 63) => ev_SetOf_ok R n hR hn)
  have eS := eS kS (Nat.le_refl _)
  have eS2 := eS2 kS2 (Nat.le_refl _)
  have eN := eN kN (Nat.le_refl _)
  have eT := eT kT (Nat.le_refl _)
  rw [hspan] at eS2
  rw [hker] at hKE2
  rw [hmis] at hSM2
  rw [← hYl] at hRK hsz hslen
  have hK64 := membersTo_length R 0 64
  have hS8 := setL_length_le (spI R R.length)
  rw [spI_length R R.length] at hS8
  have h8 : 2 ^ R.length ≤ 2 ^ 3 := Nat.pow_le_pow_right (by decide) hRl
  clear hspan hker hmis hYl
  generalize redL R = Y at hYok hYm hY3 hsz hslen hRD eS2 hRK hKE2 hSM2
  generalize setL (spI R R.length) = SP at hslen hS8 eS eS2
  generalize membersTo R 0 64 = K at hsz hset hhas hKE hKE2 hK64
  generalize membersTo R (a : Int) 64 = ST at hset hhas hST
  generalize ((misN R (1 + (x : Int)) U U.length : Nat) : Int) = ms at hSM hSM2
  obtain ⟨num, hnum⟩ : ∃ num, num = setVal R (a : Int) := ⟨_, rfl⟩
  rw [← hnum] at eN hhas
  clear hnum
  generalize txtTo R R.length = T at eT HRI
  obtain ⟨kE1, e1⟩ := ev_r8Same_own SP (by omega)
  obtain ⟨kE2, e2⟩ := ev_r8Same_own K (by omega)
  obtain ⟨kE3, e3⟩ := ev_r8Same_own R (by omega)
  have HL := Aside0.mk hl
  have HER := Aside0.mk (eR kR (Nat.le_refl _))
  have HEU := Aside0.mk (eU kU (Nat.le_refl _))
  have HEX := Aside0.mk (show laws_r8At.f l1 0 4 = some (x : Int) from ex)
  have HEA := Aside0.mk (show laws_r8At.f l1 1 64 = some (a : Int) from ea)
  have HRD := Aside0.mk hRD
  have HSP := Aside0.mk eS
  have HSP2 := Aside0.mk eS2
  have HRK := Aside0.mk hRK
  have HKE := Aside0.mk hKE
  have HKE2 := Aside0.mk hKE2
  have HSM := Aside0.mk hSM
  have HSM2 := Aside0.mk hSM2
  have HST := Aside0.mk hST
  have HSN := Aside0.mk eN
  have HIT := Aside0.mk eT
  have HE1 := Aside0.mk (e1 kE1 (Nat.le_refl _))
  have HE2 := Aside0.mk (e2 kE2 (Nat.le_refl _))
  have HE3 := Aside0.mk (e3 kE3 (Nat.le_refl _))
  have HHAS := Aside0.mk hhas
  have HSL := Aside0.mk hslen
  have HSZ := Aside0.mk hsz
  have HSE := Aside0.mk hset
  have HY3 := Aside0.mk hY3
  have HK64 := Aside0.mk hK64
  have HA63 := Aside0.mk ha63
  have HM := Aside0.mk (Mem.start w)
  have hyr0 : decide ((Y.length : Int) < 0) = false := decide_eq_false (by omega)
  have hyr3 : decide ((Y.length : Int) > 3) = false := decide_eq_false (by omega)
  have hlen1 : ((ST.length : Int) != (K.length : Int)) = false := by rw [hset]; simp
  have hmin := mn_rank Y.length hY3
  have hsh : wrap64 ((2 : Int) ^ Y.length) = (SP.length : Int) := by rw [hslen]; exact sh_pow Y.length hY3
  have hdv := dv_pow Y.length K.length hY3 hsz
  clear hlong hl eR eU ex ea B0 B1 hRD eS eS2 hRK hKE hKE2 hSM hSM2 hST eN eT e1 e2 e3 hhas hslen hsz hset hm hYok hYm hY3 hR hRm hU hUm hUl hul hp4 hK64 hS8 h8
  have M0 := Aside0.mk trivial
  go_enter Tryz.func3, Tryz.ntmps3
  go_upto_region 21 with (first
    | (have q_ := M0; clear q_; go_at_call 4; (with_reducible refine (laws_r8Long.calls A0 c0 l0 A1 c1 l1 false _ HRA.out HCA.out HRB.out HCB.out HL.out).mono ?_); rintro e w2 ⟨rfl, hd2⟩; have N_ := Aside0.mk (HM.out.drawn hd2); clear HM; have HM := N_; clear N_ hd2; clear M0; have M1 := Aside0.mk trivial)
    | (have q_ := M1; clear q_; go_at_call 5; (with_reducible refine (spec_R8Index.calls kR A0 c0 l0 R _ (Kd.C_below HRA.out HM.out.bel) HCA.out HER.out).mono ?_); rintro e w3 ⟨v3, rfl, hv3, hb3⟩; obtain ⟨AR, cR, rfl, hcR, hCR⟩ := Kd.R_reads hv3; have N_ := Aside0.mk (((HM.out.below hb3).put hCR hcR).box (.slice AR R.length cR) 26); clear HM; have HM := N_; clear N_ hv3 hcR hCR hb3; have hcx := HM.out.boxes (w3.heap.size, .slice AR R.length cR) (by simp); clear M1; have M2 := Aside0.mk trivial)
    | (have q_ := M2; clear q_; go_at_call 6; (with_reducible refine (spec_R8Near.calls kU A1 c1 l1 U _ (Kd.C_below HRB.out HM.out.bel) HCB.out HEU.out).mono ?_); rintro e w4 ⟨v4, rfl, hv4, hb4⟩; obtain ⟨AU, cU, rfl, hcU, hCU⟩ := Kd.R_reads hv4; have N_ := Aside0.mk ((HM.out.below hb4).put hCU hcU); clear HM; have HM := N_; clear N_ hv4 hcU hCU hb4; (try clear hcx); have hcx := HM.out.boxes (w3.heap.size, .slice AR R.length cR) (by simp); clear M2; have M3 := Aside0.mk trivial)
    | (have q_ := M3; clear q_; go_at_call 7; (with_reducible refine (laws_r8At.calls A1 c1 l1 0 4 (x : Int) _ (Kd.C_below HRB.out HM.out.bel) HCB.out HEX.out).mono ?_); rintro e w5 ⟨rfl, hd5⟩; have N_ := Aside0.mk (HM.out.drawn hd5); clear HM; have HM := N_; clear N_ hd5; (try clear hcx); have hcx := HM.out.boxes (w3.heap.size, .slice AR R.length cR) (by simp); clear M3; have M4 := Aside0.mk trivial)
    | (have q_ := M4; clear q_; go_at_call 7; (with_reducible refine (laws_r8At.calls A1 c1 l1 1 64 (a : Int) _ (Kd.C_below HRB.out HM.out.bel) HCB.out HEA.out).mono ?_); rintro e w6 ⟨rfl, hd6⟩; have N_ := Aside0.mk (HM.out.drawn hd6); clear HM; have HM := N_; clear N_ hd6; (try clear hcx); have hcx := HM.out.boxes (w3.heap.size, .slice AR R.length cR) (by simp); clear M4; have M5 := Aside0.mk trivial)
    | (have q_ := M5; clear q_; go_at_call 8; (with_reducible refine (impl_ReducedIndex.calls AR cR R Y true _ (HM.out.lists (AR, cR, R) (by simp)).1 (HM.out.lists (AR, cR, R) (by simp)).2 HRD.out).mono ?_); rintro e w7 ⟨v7, rfl, hv7, hb7⟩; obtain ⟨AY, cY, rfl, hcY, hCY⟩ := Kd.R_reads hv7; have N_ := Aside0.mk (((HM.out.below hb7).put hCY hcY).box (.slice AY Y.length cY) 26); clear HM; have HM := N_; clear N_ hv7 hcY hCY hb7; (try clear hcx); have hcx := HM.out.boxes (w3.heap.size, .slice AR R.length cR) (by simp); (try clear hcy); have hcy := HM.out.boxes (w7.heap.size, .slice AY Y.length cY) (by simp); clear M5; have M6 := Aside0.mk trivial)
    | (have q_ := M6; clear q_; go_at_call 9; (with_reducible refine (impl_SpanOf.calls kS AR cR R SP true _ (HM.out.lists (AR, cR, R) (by simp)).1 (HM.out.lists (AR, cR, R) (by simp)).2 HSP.out).mono ?_); rintro e w8 ⟨v8, rfl, hv8, hb8⟩; obtain ⟨AS, cS, rfl, hcS, hCS⟩ := Kd.R_reads hv8; have N_ := Aside0.mk ((HM.out.below hb8).put hCS hcS); clear HM; have HM := N_; clear N_ hv8 hcS hCS hb8; (try clear hcx); have hcx := HM.out.boxes (w3.heap.size, .slice AR R.length cR) (by simp); (try clear hcy); have hcy := HM.out.boxes (w7.heap.size, .slice AY Y.length cY) (by simp); clear M6; have M7 := Aside0.mk trivial)
    | (have q_ := M7; clear q_; go_at_call 9; (with_reducible refine (impl_SpanOf.calls kS2 AY cY Y SP true _ (HM.out.lists (AY, cY, Y) (by simp)).1 (HM.out.lists (AY, cY, Y) (by simp)).2 HSP2.out).mono ?_); rintro e w9 ⟨v9, rfl, hv9, hb9⟩; obtain ⟨AS2, cS2, rfl, hcS2, hCS2⟩ := Kd.R_reads hv9; have N_ := Aside0.mk ((HM.out.below hb9).put hCS2 hcS2); clear HM; have HM := N_; clear N_ hv9 hcS2 hCS2 hb9; (try clear hcx); have hcx := HM.out.boxes (w3.heap.size, .slice AR R.length cR) (by simp); (try clear hcy); have hcy := HM.out.boxes (w7.heap.size, .slice AY Y.length cY) (by simp); clear M7; have M8 := Aside0.mk trivial)
    | (have q_ := M8; clear q_; go_at_call 10; (with_reducible refine (impl_RankOf.calls AR cR R _ true _ (HM.out.lists (AR, cR, R) (by simp)).1 (HM.out.lists (AR, cR, R) (by simp)).2 HRK.out).mono ?_); rintro e w10 ⟨rfl, hb10⟩; have N_ := Aside0.mk ((HM.out.below hb10)); clear HM; have HM := N_; clear N_; clear hb10; (try clear hcx); have hcx := HM.out.boxes (w3.heap.size, .slice AR R.length cR) (by simp); (try clear hcy); have hcy := HM.out.boxes (w7.heap.size, .slice AY Y.length cY) (by simp); clear M8; have M9 := Aside0.mk trivial)
    | (have q_ := M9; clear q_; go_at_call 11; (with_reducible refine (impl_KernelOf.calls AR cR R K true _ (HM.out.lists (AR, cR, R) (by simp)).1 (HM.out.lists (AR, cR, R) (by simp)).2 HKE.out).mono ?_); rintro e w11 ⟨v11, rfl, hv11, hb11⟩; obtain ⟨AK, cK, rfl, hcK, hCK⟩ := Kd.R_reads hv11; have N_ := Aside0.mk ((HM.out.below hb11).put hCK hcK); clear HM; have HM := N_; clear N_ hv11 hcK hCK hb11; (try clear hcx); have hcx := HM.out.boxes (w3.heap.size, .slice AR R.length cR) (by simp); (try clear hcy); have hcy := HM.out.boxes (w7.heap.size, .slice AY Y.length cY) (by simp); clear M9; have M10 := Aside0.mk trivial)
    | (have q_ := M10; clear q_; go_at_call 11; (with_reducible refine (impl_KernelOf.calls AY cY Y K true _ (HM.out.lists (AY, cY, Y) (by simp)).1 (HM.out.lists (AY, cY, Y) (by simp)).2 HKE2.out).mono ?_); rintro e w12 ⟨v12, rfl, hv12, hb12⟩; obtain ⟨AK2, cK2, rfl, hcK2, hCK2⟩ := Kd.R_reads hv12; have N_ := Aside0.mk ((HM.out.below hb12).put hCK2 hcK2); clear HM; have HM := N_; clear N_ hv12 hcK2 hCK2 hb12; (try clear hcx); have hcx := HM.out.boxes (w3.heap.size, .slice AR R.length cR) (by simp); (try clear hcy); have hcy := HM.out.boxes (w7.heap.size, .slice AY Y.length cY) (by simp); clear M10; have M11 := Aside0.mk trivial)
    | (have q_ := M11; clear q_; go_at_call 12; (with_reducible refine (impl_SetMisses.calls AR cR R (1 + (x : Int)) AU cU U ms true _ (HM.out.lists (AR, cR, R) (by simp)).1 (HM.out.lists (AR, cR, R) (by simp)).2 (HM.out.lists (AU, cU, U) (by simp)).1 (HM.out.lists (AU, cU, U) (by simp)).2 HSM.out).mono ?_); rintro e w13 ⟨rfl, hb13⟩; have N_ := Aside0.mk ((HM.out.below hb13)); clear HM; have HM := N_; clear N_; clear hb13; (try clear hcx); have hcx := HM.out.boxes (w3.heap.size, .slice AR R.length cR) (by simp); (try clear hcy); have hcy := HM.out.boxes (w7.heap.size, .slice AY Y.length cY) (by simp); clear M11; have M12 := Aside0.mk trivial)
    | (have q_ := M12; clear q_; go_at_call 12; (with_reducible refine (impl_SetMisses.calls AY cY Y (1 + (x : Int)) AU cU U ms true _ (HM.out.lists (AY, cY, Y) (by simp)).1 (HM.out.lists (AY, cY, Y) (by simp)).2 (HM.out.lists (AU, cU, U) (by simp)).1 (HM.out.lists (AU, cU, U) (by simp)).2 HSM2.out).mono ?_); rintro e w14 ⟨rfl, hb14⟩; have N_ := Aside0.mk ((HM.out.below hb14)); clear HM; have HM := N_; clear N_; clear hb14; (try clear hcx); have hcx := HM.out.boxes (w3.heap.size, .slice AR R.length cR) (by simp); (try clear hcy); have hcy := HM.out.boxes (w7.heap.size, .slice AY Y.length cY) (by simp); clear M12; have M13 := Aside0.mk trivial)
    | (have q_ := M13; clear q_; go_at_call 13; (with_reducible refine (impl_SetMembers.calls AR cR R (a : Int) ST true _ (HM.out.lists (AR, cR, R) (by simp)).1 (HM.out.lists (AR, cR, R) (by simp)).2 HST.out).mono ?_); rintro e w15 ⟨v15, rfl, hv15, hb15⟩; obtain ⟨AT, cT, rfl, hcT, hCT⟩ := Kd.R_reads hv15; have N_ := Aside0.mk ((HM.out.below hb15).put hCT hcT); clear HM; have HM := N_; clear N_ hv15 hcT hCT hb15; (try clear hcx); have hcx := HM.out.boxes (w3.heap.size, .slice AR R.length cR) (by simp); (try clear hcy); have hcy := HM.out.boxes (w7.heap.size, .slice AY Y.length cY) (by simp); clear M13; have M14 := Aside0.mk trivial)
    | (have q_ := M14; clear q_; go_at_call 14; (with_reducible refine (impl_SetOf.calls kN AR cR R (a : Int) num true _ (HM.out.lists (AR, cR, R) (by simp)).1 (HM.out.lists (AR, cR, R) (by simp)).2 HSN.out).mono ?_); rintro e w16 ⟨rfl, hb16⟩; have N_ := Aside0.mk ((HM.out.below hb16)); clear HM; have HM := N_; clear N_; clear hb16; (try clear hcx); have hcx := HM.out.boxes (w3.heap.size, .slice AR R.length cR) (by simp); (try clear hcy); have hcy := HM.out.boxes (w7.heap.size, .slice AY Y.length cY) (by simp); clear M14; have M15 := Aside0.mk trivial)
    | (have q_ := M15; clear q_; go_at_call 15; (with_reducible refine (impl_IndexText.calls kT AR cR R T true _ (HM.out.lists (AR, cR, R) (by simp)).1 (HM.out.lists (AR, cR, R) (by simp)).2 HIT.out).mono ?_); rintro e w17 ⟨rfl, hb17⟩; have N_ := Aside0.mk ((HM.out.below hb17)); clear HM; have HM := N_; clear N_; clear hb17; (try clear hcx); have hcx := HM.out.boxes (w3.heap.size, .slice AR R.length cR) (by simp); (try clear hcy); have hcy := HM.out.boxes (w7.heap.size, .slice AY Y.length cY) (by simp); clear M15; have M16 := Aside0.mk trivial)
    | (have q_ := M16; clear q_; go_at_call 16; (with_reducible refine (HRI.out _ (HMX.out _ HM.out.bel)).mono ?_); rintro e w18 ⟨v18, rfl, hv18, hb18⟩; obtain ⟨AB, cB, rfl, hcB, hCB⟩ := Kd.R_reads hv18; have N_ := Aside0.mk (((HM.out.below hb18).put hCB hcB).box (.slice AB R.length cB) 26); clear HM; have HM := N_; clear N_ hv18 hcB hCB hb18; (try clear hcx); have hcx := HM.out.boxes (w3.heap.size, .slice AR R.length cR) (by simp); (try clear hcy); have hcy := HM.out.boxes (w7.heap.size, .slice AY Y.length cY) (by simp); (try clear hcb); have hcb := HM.out.boxes (w18.heap.size, .slice AB R.length cB) (by simp); clear M16; have M17 := Aside0.mk trivial)
    | (have q_ := M17; clear q_; go_at_call 17; (with_reducible refine (laws_r8Same.calls kE1 AS cS SP AS2 cS2 SP true _ (HM.out.lists (AS, cS, SP) (by simp)).1 (HM.out.lists (AS, cS, SP) (by simp)).2 (HM.out.lists (AS2, cS2, SP) (by simp)).1 (HM.out.lists (AS2, cS2, SP) (by simp)).2 HE1.out).mono ?_); rintro e w19 ⟨rfl, hd19⟩; have N_ := Aside0.mk (HM.out.drawn hd19); clear HM; have HM := N_; clear N_ hd19; (try clear hcx); have hcx := HM.out.boxes (w3.heap.size, .slice AR R.length cR) (by simp); (try clear hcy); have hcy := HM.out.boxes (w7.heap.size, .slice AY Y.length cY) (by simp); (try clear hcb); have hcb := HM.out.boxes (w18.heap.size, .slice AB R.length cB) (by simp); clear M17; have M18 := Aside0.mk trivial)
    | (have q_ := M18; clear q_; go_at_call 17; (with_reducible refine (laws_r8Same.calls kE2 AK cK K AK2 cK2 K true _ (HM.out.lists (AK, cK, K) (by simp)).1 (HM.out.lists (AK, cK, K) (by simp)).2 (HM.out.lists (AK2, cK2, K) (by simp)).1 (HM.out.lists (AK2, cK2, K) (by simp)).2 HE2.out).mono ?_); rintro e w20 ⟨rfl, hd20⟩; have N_ := Aside0.mk (HM.out.drawn hd20); clear HM; have HM := N_; clear N_ hd20; (try clear hcx); have hcx := HM.out.boxes (w3.heap.size, .slice AR R.length cR) (by simp); (try clear hcy); have hcy := HM.out.boxes (w7.heap.size, .slice AY Y.length cY) (by simp); (try clear hcb); have hcb := HM.out.boxes (w18.heap.size, .slice AB R.length cB) (by simp); clear M18; have M19 := Aside0.mk trivial)
    | (have q_ := M19; clear q_; go_at_call 17; (with_reducible refine (laws_r8Same.calls kE3 AB cB R AR cR R true _ (HM.out.lists (AB, cB, R) (by simp)).1 (HM.out.lists (AB, cB, R) (by simp)).2 (HM.out.lists (AR, cR, R) (by simp)).1 (HM.out.lists (AR, cR, R) (by simp)).2 HE3.out).mono ?_); rintro e w21 ⟨rfl, hd21⟩; have N_ := Aside0.mk (HM.out.drawn hd21); clear HM; have HM := N_; clear N_ hd21; (try clear hcx); have hcx := HM.out.boxes (w3.heap.size, .slice AR R.length cR) (by simp); (try clear hcy); have hcy := HM.out.boxes (w7.heap.size, .slice AY Y.length cY) (by simp); (try clear hcb); have hcb := HM.out.boxes (w18.heap.size, .slice AB R.length cB) (by simp); clear M19; have M20 := Aside0.mk trivial))
  go_wp2_with (fail)
  go_loopg [33] 64 (fun gg s33 wr => ∃ i : Nat, s33 = .int .i64 i ∧ Aside0 (i ≤ 64 ∧ 64 - i ≤ gg) ∧ Aside0 (Mem w wr [(AB, cB, R), (AT, cT, ST), (AK2, cK2, K), (AK, cK, K), (AS2, cS2, SP), (AS, cS, SP), (AY, cY, Y), (AU, cU, U), (AR, cR, R)] [(w18.heap.size, .slice AB R.length cB), (w7.heap.size, .slice AY Y.length cY), (w3.heap.size, .slice AR R.length cR)]))
  case atStart => exact ⟨0, rfl, ⟨⟨Nat.zero_le _, by omega⟩⟩, ⟨HM.out⟩⟩
  case round =>
    clear HM hcx hcy hcb hyr0 hyr3 hlen1 hmin hsh hdv M20
    obtain ⟨i, rfl, HK, HM⟩ := hrel
    have hcx := HM.out.boxes (w3.heap.size, .slice AR R.length cR) (by simp)
    by_cases hlt : i < 64
    · have hltz : (i : Int) < 64 := by omega
      have hn : 0 ≤ (i : Int) ∧ (i : Int) ≤ 63 := by omega
      obtain ⟨kv, ev⟩ := HVN.out (i : Int) hn
      obtain ⟨h1, h2⟩ := HHAS.out (i : Int) hn
      obtain ⟨kh, eh⟩ := ev_r8Has ST (i : Int) (by have := HSE.out; have := HSZ.out; have := HK64.out; omega)
      obtain ⟨kk, ek⟩ := ev_r8Has K (xo (i : Int) (a : Int)) (by have := HK64.out; omega)
      have hxor := (xor_xo hn HA63.out).1
      obtain ⟨q, hq⟩ : ∃ q, q = xo (i : Int) (a : Int) := ⟨_, rfl⟩
      rw [← hq] at hxor h2 ek
      obtain ⟨ov, hov⟩ : ∃ ov, ov = setVal R (i : Int) := ⟨_, rfl⟩
      have ev := ev kv (Nat.le_refl _)
      have eh := eh kh (Nat.le_refl _)
      have ek := ek kk (Nat.le_refl _)
      rw [← hov] at ev h1 h2
      have hb : (ov == num) = decide (ov = num) := rfl
      rw [decide_eq_decide.2 h1] at eh
      rw [decide_eq_decide.2 h2] at ek
      generalize decide (ov = num) = b at hb eh ek
      have HEV := Aside0.mk ev
      have HEH := Aside0.mk eh
      have HEK := Aside0.mk ek
      clear ev eh ek h1 h2 hq hov hn
      have N0 := Aside0.mk trivial
      go_wp2_with (first
        | (have q_ := N0; clear q_; go_at_call 14; (with_reducible refine (impl_SetOf.calls kv AR cR R (i : Int) ov true _ (HM.out.lists (AR, cR, R) (by simp)).1 (HM.out.lists (AR, cR, R) (by simp)).2 HEV.out).mono ?_); rintro e w31 ⟨rfl, hb31⟩; have N_ := Aside0.mk (HM.out.below hb31); clear HM; have HM := N_; clear N_; clear hb31 hcx N0; have N1 := Aside0.mk trivial)
        | (have q_ := N1; clear q_; go_at_call 18; (with_reducible refine (laws_r8Has.calls kh AT cT ST (i : Int) b _ (HM.out.lists (AT, cT, ST) (by simp)).1 (HM.out.lists (AT, cT, ST) (by simp)).2 HEH.out).mono ?_); rintro e w32 ⟨rfl, hd32⟩; have N_ := Aside0.mk (HM.out.drawn hd32); clear HM; have HM := N_; clear N_; clear hd32 N1; have N2 := Aside0.mk trivial)
        | (have q_ := N2; clear q_; go_at_call 18; (with_reducible refine (laws_r8Has.calls kh AT cT ST (i : Int) b _ (HM.out.lists (AT, cT, ST) (by simp)).1 (HM.out.lists (AT, cT, ST) (by simp)).2 HEH.out).mono ?_); rintro e w33 ⟨rfl, hd33⟩; have N_ := Aside0.mk (HM.out.drawn hd33); clear HM; have HM := N_; clear N_; clear hd33 N2; have N3 := Aside0.mk trivial)
        | (have q_ := N3; clear q_; go_at_call 18; (with_reducible refine (laws_r8Has.calls kk AK cK K q b _ (HM.out.lists (AK, cK, K) (by simp)).1 (HM.out.lists (AK, cK, K) (by simp)).2 HEK.out).mono ?_); rintro e w34 ⟨rfl, hd34⟩; have N_ := Aside0.mk (HM.out.drawn hd34); clear HM; have HM := N_; clear N_; clear hd34 N3; have N4 := Aside0.mk trivial))
      go_roundg (64 - (i + 1))
      case measure => have := HK.out; omega
      case rel => exact ⟨i + 1, by go_num, ⟨by have := HK.out; omega⟩, ⟨HM.out⟩⟩
    · have hltz : ¬ (i : Int) < 64 := by omega
      go_wp2_with (fail)
      go_ret
      exact ⟨rfl, HM.out.bel⟩
end Go.Proofs.YtdhkcnhmmiigoaaGreatDoor.Q
