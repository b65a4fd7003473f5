/- The misses of a valid index with places; no conditions. -/
import Derived.Test.YtdhkcnhmmiigoaaQx0
import Derived.Test.YtdhkcnhmmiigoaaHsetOf
import Derived.Test.YtdhkcnhmmiigoaaQx1
import Derived.Test.YtdhkcnhmmiigoaaQx2
import Derived.Test.YtdhkcnhmmiigoaaSupto
import Derived.Test.YtdhkcnhmmiigoaaSdelfunc
import Derived.Test.YtdhkcnhmmiigoaaSlu
import Derived.Test.YtdhkcnhmmiigoaaSokrows
import Derived.Test.YtdhkcnhmmiigoaaSsetl
import Derived.Test.YtdhkcnhmmiigoaaSidxf
import Derived.Test.YtdhkcnhmmiigoaaSsetval
import Derived.Deep.RegionHeld3
import Derived.BigQuiet
namespace Go.Proofs.Ytdhkcnhmmiigoaa.Q
open Go.RowKit Go.Proofs.YtdhkcnhmmiigoaaW.PrintWords Go.Proofs.YtdhkcnhmmiigoaaW.PrintLast Go.Proofs.YtdhkcnhmmiigoaaW.PrintMore
attribute [local go_sem] max2_int min2_int max_two min_two max_three min_three max_four min_four   -- for this text's walks alone
set_option linter.unusedVariables false
set_option linter.unusedSimpArgs false

def impl_Index_setMisses.f (l0_0 : List Int) (a1 : Int) (l2 : List Int) : Option Int := if okRows l0_0 = true then (if okUses l2 = true then some (misN l0_0 a1 l2 l2.length : Int) else none) else none
set_option maxHeartbeats 8000000 in
set_option maxRecDepth 100000 in
theorem setMisses_1.pred (A : Option Addr) (c : Nat) (l0 : List Int) (a : Int) (hok : okRows l0 = true) (ha : 0 ≤ a ∧ a ≤ 63) (hc : l0.length ≤ c) (l : List Int) (hl : ∀ x ∈ l, 0 ≤ x ∧ x ≤ 63) (w : World) (row : Option Nat) (B B2 : Nat)
    (hB : ∀ W, w.grownBy W row → W.cell? ⟨B, 0, none⟩ = some (.slice A l0.length c) ∧ W.cell? ⟨B2, 0, none⟩ = some (.int .i64 a) ∧ Kd.C (Kd.int .i64) W A l0.length l0) :
    PredOverI 92 #[.pointer (some ⟨B, 0, none⟩), .pointer (some ⟨B2, 0, none⟩)] l (fun b => !decide (setVal l0 a = setVal l0 b)) w row := fun W x hW hx => by
  obtain ⟨hcell, hcell2, hC⟩ := hB W hW
  obtain ⟨K, hK⟩ := ev_Index_set l0 x ((okRows_iff l0).1 hok).2 ((okRows_iff l0).1 hok).1 (hl x hx).1 (hl x hx).2
  obtain ⟨K2, hK2⟩ := ev_Index_set l0 a ((okRows_iff l0).1 hok).2 ((okRows_iff l0).1 hok).1 ha.1 ha.2
  have HX := Aside0.mk (fun (W' : World) (hb : Below W.heap.size W W') => impl_Index_set.calls K A c l0 x (setVal l0 x) W' (Kd.C_below hC hb) hc (hK K (Nat.le_refl _)))
  have HY := Aside0.mk (fun (W' : World) (hb : Below W.heap.size W W') => impl_Index_set.calls K2 A c l0 a (setVal l0 a) W' (Kd.C_below hC hb) hc (hK2 K2 (Nat.le_refl _)))
  have HB := Aside0.mk (Below.refl W.heap.size W)
  have hu := Try.underlying26
  clear hK hK2 hB hC
  have HG := Aside0.mk (show ∀ w', Below W.heap.size W w' → w'.cell? ⟨B, 0, none⟩ = some (.slice A l0.length c) ∧ w'.cell? ⟨B2, 0, none⟩ = some (.int .i64 a) from fun w' hb => ⟨(hb.cell (World.block_lt_of_cell? _ _ hcell)).trans hcell, (hb.cell (World.block_lt_of_cell? _ _ hcell2)).trans hcell2⟩)
  show Calls Try.prog 92 #[.int .i64 x, .pointer (some ⟨B, 0, none⟩), .pointer (some ⟨B2, 0, none⟩)] W _
  obtain ⟨q, hq⟩ : ∃ q, q = setVal l0 x := ⟨_, rfl⟩
  obtain ⟨q2, hq2⟩ : ∃ q, q = setVal l0 a := ⟨_, rfl⟩
  rw [← hq] at HX
  rw [← hq2] at HY
  have HQ := Aside0.mk hq
  have HQ2 := Aside0.mk hq2
  clear hq hq2
  go_enter Try.func92, Try.ntmps92
  go_wp2_with (fail)
  go_region_held3 (fun w' => w'.cell? ⟨B, 0, none⟩ = some (.slice A l0.length c) ∧ w'.cell? ⟨B2, 0, none⟩ = some (.int .i64 a)) (first | exact HG.out _ (by repeat (first | (with_reducible first | exact HB.out | apply below_alloc | apply pw_below_drewN | apply below_drew1) | exact HB.out))) (first | (go_at_call 93; (first | with_reducible refine (HX.out _ (by repeat (first | (with_reducible first | exact HB.out | apply below_alloc | apply pw_below_drewN | apply below_drew1) | exact HB.out))).mono ?_ | with_reducible refine (HY.out _ (by repeat (first | (with_reducible first | exact HB.out | apply below_alloc | apply pw_below_drewN | apply below_drew1) | exact HB.out))).mono ?_); rintro e w' ⟨rfl, hb⟩; have HBn := Aside0.mk (below_step (by repeat (first | (with_reducible first | exact HB.out | apply below_alloc | apply pw_below_drewN | apply below_drew1) | exact HB.out)) hb); clear HB; have HB := HBn; clear HBn hb))
  all_goals go_wp2
  all_goals go_ret
  all_goals exact ⟨ret_bool (by rw [← HQ.out, ← HQ2.out]; by_cases h : q2 = q <;> simp [h]), (by repeat (first | (with_reducible first | exact HB.out | apply below_alloc | apply pw_below_drewN | apply below_drew1) | exact HB.out))⟩
set_option maxHeartbeats 8000000 in
set_option maxRecDepth 100000 in
theorem impl_Index_setMisses.calls (A0_0 : Option Addr) (c0_0 : Nat) (l0_0 : List Int) (a1 : Int) (A2 : Option Addr) (c2 : Nat) (l2 : List Int) (r : Int) (w : World) (hr0_0 : Kd.C (Kd.int .i64) w A0_0 l0_0.length l0_0) (hc0_0 : l0_0.length ≤ c0_0) (hr2 : Kd.C (Kd.int .i64) w A2 l2.length l2) (hc2 : l2.length ≤ c2) (h : impl_Index_setMisses.f l0_0 a1 l2 = some r) :
    Calls Try.prog 58 #[.agg #[.slice A0_0 l0_0.length c0_0], .int .i64 a1, .slice A2 l2.length c2] w fun e w' => e = .returned (.int .i64 r) ∧ Below w.heap.size w w' := by
  unfold impl_Index_setMisses.f at h
  cases hok : okRows l0_0 with
  | false => rw [hok, if_neg (by simp)] at h; cases h
  | true =>
  cases hou : okUses l2 with
  | false => rw [hok, hou, if_pos rfl, if_neg (by simp)] at h; cases h
  | true =>
  rw [hok, hou, if_pos rfl, if_pos rfl] at h
  obtain rfl := Option.some.inj h
  obtain ⟨hU, hl⟩ := (okUses_iff l2).1 hou
  have hu := Try.underlying26
  have hb : Below w.heap.size w (w.alloc (.cells #[.slice A0_0 l0_0.length c0_0] 26)) := below_alloc (Below.refl _ _) _
  have hbx : (w.alloc (.cells #[.slice A0_0 l0_0.length c0_0] 26)).cell? ⟨w.heap.size, 0, none⟩ = some (.slice A0_0 l0_0.length c0_0) := by simp
  have HBX := Aside0.mk (show ∀ W, Below (w.alloc (.cells #[.slice A0_0 l0_0.length c0_0] 26)).heap.size (w.alloc (.cells #[.slice A0_0 l0_0.length c0_0] 26)) W → W.cell? ⟨w.heap.size, 0, none⟩ = some (.slice A0_0 l0_0.length c0_0) from fun W h => (h.cell (World.block_lt_of_cell? _ _ hbx)).trans hbx)
  have HR0 := Aside0.mk (Kd.C_below hr0_0 hb)
  have HC0 := Aside0.mk hc0_0
  have HR2 := Aside0.mk (Kd.C_below hr2 hb)
  have HC2 := Aside0.mk hc2
  have HU := Aside0.mk hU
  have HL := Aside0.mk hl
  have HOK := Aside0.mk hok
  have HB0 := Aside0.mk hb
  have HSZ : Aside0 (w.heap.size < (w.alloc (.cells #[.slice A0_0 l0_0.length c0_0] 26)).heap.size) := ⟨by simp⟩
  obtain ⟨w1, hw1⟩ : ∃ w1, w1 = w.alloc (.cells #[.slice A0_0 l0_0.length c0_0] 26) := ⟨_, rfl⟩
  rw [← hw1] at HBX HR0 HR2 HB0 HSZ
  have HB := Aside0.mk (Below.refl w1.heap.size w1)
  clear h hok hou hU hl hr0_0 hc0_0 hr2 hc2 hb hbx
  go_enter Try.func58, Try.ntmps58
  go_wp2_with (fail)
  rw [← hw1]
  clear hw1
  go_loopg [7, 14] l2.length (fun gg s7 s14 wr => ∃ i : Nat, s14 = .int .i64 i ∧ s7 = .int .i64 (misN l0_0 a1 l2 i : Nat) ∧ Aside0 (i ≤ l2.length ∧ l2.length - i ≤ gg) ∧ Aside0 (Below w1.heap.size w1 wr))
  case atStart => exact ⟨0, rfl, rfl, ⟨⟨Nat.zero_le _, by omega⟩⟩, ⟨HB.out⟩⟩
  case round =>
    clear HB
    obtain ⟨i, rfl, rfl, HK, HB⟩ := hrel
    by_cases hlt : i < l2.length
    · have hltz : (i : Int) < (l2.length : Int) := by omega
      have h0z : (0 : Int) ≤ (i : Int) := by omega
      obtain ⟨ad, e, hx0⟩ := Kd.at_int HR2.out (i : Int) h0z hltz
      cases e
      simp only [Int.toNat_natCast] at hx0
      have hx := (HB.out.cell (World.block_lt_of_cell? _ _ hx0)).trans hx0
      clear hx0
      obtain ⟨i0, hi0, _, hsz0, _⟩ := info_parts info2
      obtain ⟨hcut1, hA1, hC1⟩ := print_take_of (P := Try.prog) (Value.int .i64) 0 24 2 .i64 Try.underlying24 hi0 hsz0 (some ad) c2 l2 (i : Int) h0z (by omega) HC2.out
      have HRT := Aside0.mk (Kd.C_of_reads (h1 := fun _ => rfl) (hA1 _ (Kd.reads_of_C HR2.out)))
      have HCT := Aside0.mk hC1
      have HN := Aside0.mk (misN_le l0_0 a1 l2 i)
      have hst : misN l0_0 a1 l2 (i + 1) = misN l0_0 a1 l2 i + if missAt l0_0 a1 l2 i = true then 1 else 0 := rfl
      have HST := Aside0.mk hst
      have ha : 0 ≤ rd l2 (i : Int) ∧ rd l2 (i : Int) ≤ 63 := by rw [rd_lt l2 i hlt]; exact HU.out _ (List.getElem_mem hlt)
      have HA := Aside0.mk ha
      obtain ⟨K, hK⟩ := ev_lastUse_take l2 (rd l2 (i : Int)) i (by omega) (by have := HL.out; omega)
      have htl : (l2.take (i : Int).toNat).length = i := by rw [Int.toNat_natCast, List.length_take]; omega
      have hlu := (fun (W : World) (hb : Below w1.heap.size w1 W) => impl_lastUse.calls K (some ad) c2 (l2.take (i : Int).toNat) (rd l2 (i : Int)) (lu l2 (rd l2 (i : Int)) i) W (Kd.C_below HRT.out hb) HCT.out (by rw [Int.toNat_natCast]; exact hK K (Nat.le_refl _)))
      rw [htl] at hlu hcut1
      have HLU := Aside0.mk hlu
      have HLR := Aside0.mk (lu_range l2 (rd l2 (i : Int)) i)
      have HMA : Aside0 (missAt l0_0 a1 l2 i = (!decide (0 ≤ lu l2 (rd l2 (i : Int)) i) || decide (a1 ≤ ((othersOf l0_0 l2 i).length : Int)))) := ⟨rfl⟩
      obtain ⟨k, hk⟩ : ∃ k, k = lu l2 (rd l2 (i : Int)) i := ⟨_, rfl⟩
      rw [← hk] at HLU HLR HMA
      have HKK := Aside0.mk hk
      obtain ⟨a, hae⟩ : ∃ a, a = rd l2 (i : Int) := ⟨_, rfl⟩
      rw [← hae] at HLU HA hx HKK
      have HAE := Aside0.mk hae
      clear hA1 hC1 hi0 hsz0 hst ha hK hk hae hlu htl
      go_wp2_with (fail)
      have hbox : (wr.alloc (.cells #[.int .i64 a] 2)).cell? ⟨wr.heap.size, 0, none⟩ = some (.int .i64 a) := by simp
      have HBA := Aside0.mk (show Below w1.heap.size w1 (wr.alloc (.cells #[.int .i64 a] 2)) from HB.out.alloc HB.out.size _)
      have HSW := Aside0.mk (show w1.heap.size ≤ wr.heap.size from HB.out.size)
      have HSA : Aside0 ((wr.alloc (.cells #[.int .i64 a] 2)).heap.size = wr.heap.size + 1) := ⟨by simp⟩
      obtain ⟨nb, hnb⟩ : ∃ nb, nb = wr.heap.size := ⟨_, rfl⟩
      obtain ⟨wa, hwa⟩ : ∃ wa, wa = wr.alloc (.cells #[.int .i64 a] 2) := ⟨_, rfl⟩
      rw [← hwa] at hbox HBA HSA ⊢
      rw [← hnb] at hbox HSW HSA ⊢
      clear hwa hnb hx HB
      have HB := HBA
      clear HBA
      go_quiet (first | (go_at_call 90; with_reducible refine (HLU.out _ (by repeat (first | (with_reducible first | exact HB.out | apply below_alloc | apply pw_below_drewN | apply below_drew1) | exact HB.out))).mono ?_; rintro e w' ⟨rfl, ⟨nd, rfl⟩⟩; (try first | exact ⟨rfl, _, World.drewN_drewN _ _ _⟩ | exact ⟨rfl, _, Eq.trans (World.drewN_drewN _ _ _) (congrArg (World.drewN _) (Nat.add_assoc _ _ _))⟩)))
      by_cases hneg : k < 0
      · have HM1 : Aside0 (misN l0_0 a1 l2 (i + 1) = misN l0_0 a1 l2 i + 1) := ⟨by rw [HST.out, HMA.out, decide_eq_false (by omega)]; simp⟩
        go_wp2_with (fail)
        go_roundg (l2.length - (i + 1))
        case measure => have := HK.out; omega
        case rel => exact ⟨i + 1, by have := HL.out; rw [wrap64_succ (by omega)], by have := HL.out; have := HN.out; rw [HM1.out, wrap64_succ (by omega)], ⟨by have := HK.out; omega⟩, ⟨(by repeat (first | (with_reducible first | exact HB.out | apply below_alloc | apply pw_below_drewN | apply below_drew1) | exact HB.out))⟩⟩
      · have hk0 : 0 ≤ k := by omega
        have hlr := HLR.out
        have hw : wrap64 (k + 1) = k + 1 := wrap64_id (by omega) (by have := HL.out; omega)
        obtain ⟨i0, hi0, _, hsz0, _⟩ := info_parts info2
        obtain ⟨A3, hcut2, hA3, hC3⟩ := print_mid_of (P := Try.prog) (Value.int .i64) 0 24 2 .i64 .i64 Try.underlying24 hi0 hsz0 (some ad) c2 l2 (wrap64 (k + 1)) (i : Int) (by omega) (by omega) (by omega) HC2.out
        have hM : between l2 i = setL ((l2.take (i : Int).toNat).drop (wrap64 (k + 1)).toNat) := by unfold between; rw [← HAE.out, ← HKK.out, hw, Int.toNat_natCast]
        have HRM := Aside0.mk (Kd.C_of_reads (h1 := fun _ => rfl) (hA3 _ (Kd.reads_of_C HR2.out)))
        have hml : ((l2.take (i : Int).toNat).drop (wrap64 (k + 1)).toNat).length ≤ 60 := by rw [List.length_drop, List.length_take]; have := HL.out; omega
        have hso := (fun (W : World) (hb : Below wa.heap.size wa W) => impl_setOf.calls A3 (c2 - (wrap64 (k + 1)).toNat) ((l2.take (i : Int).toNat).drop (wrap64 (k + 1)).toNat) (setL ((l2.take (i : Int).toNat).drop (wrap64 (k + 1)).toNat)) W (Kd.C_below HRM.out (HB.out.trans (hb.mono HB.out.size))) hC3 (impl_setOf_f _ (by omega)))
        rw [← hM] at hso
        obtain ⟨m, hm⟩ : ∃ m, m = ((l2.take (i : Int).toNat).drop (wrap64 (k + 1)).toNat).length := ⟨_, rfl⟩
        rw [← hm] at hso hcut2
        have HSO := Aside0.mk hso
        have hbm : ∀ x ∈ between l2 i, 0 ≤ x ∧ x ≤ 63 := fun x hx => by
          rw [hM] at hx
          exact HU.out x (List.mem_of_mem_take (List.mem_of_mem_drop (((setL_facts _).2 x).1 hx)))
        have eg : ∀ args w, (callFunc 92 args).run Try.prog w = .ok (.enter 92 args) w := enters_of Try.func92 (by kernel_rfl) rfl
        have HDL : Aside0 (∀ (v : Value) (W : World), Kd.R (Kd.int .i64) 2 W wa.heap.size (fun _ => True) v (between l2 i) → Below wa.heap.size wa W →
            Calls Try.prog 91 #[v, .func (.func 92) #[] #[.pointer (some ⟨w.heap.size, 0, none⟩), .pointer (some ⟨nb, 0, none⟩)]] W fun e w' => ∃ v', e = .returned v' ∧ Kd.R (Kd.int .i64) 2 w' wa.heap.size (fun _ => True) v' (othersOf l0_0 l2 i) ∧ Below w1.heap.size w1 w') := ⟨fun v W hv hbW => by
          have ho := own_of_R hv
          have hsw := HSW.out
          have hsa := HSA.out
          have hszz := HSZ.out
          have hblk : ∀ k, v.ownBlock = some k → wa.heap.size ≤ k := own_base ho
          have hbw : Below w1.heap.size w1 W := HB.out.trans (hbW.mono HB.out.size)
          have hd1 := HBX.out W hbw
          have hd2 := (hbW.cell (World.block_lt_of_cell? _ _ hbox)).trans hbox
          have hn1 : v.ownBlock ≠ some w.heap.size := fun e => by have := hblk _ e; omega
          have hn2 : v.ownBlock ≠ some nb := fun e => by have := hblk _ e; omega
          have e : othersOf l0_0 l2 i = (between l2 i).filter fun x => !((fun b => !decide (setVal l0_0 a = setVal l0_0 b)) x) := by unfold othersOf; rw [← HAE.out]
          rw [e]
          refine (slices_DeleteFunc_i64 92 #[.pointer (some ⟨w.heap.size, 0, none⟩), .pointer (some ⟨nb, 0, none⟩)] eg (fun b => !decide (setVal l0_0 a = setVal l0_0 b)) _ v _ W ho
            (setMisses_1.pred A0_0 c0_0 l0_0 a HOK.out HA.out HC0.out _ hbm W v.ownBlock w.heap.size nb (fun W2 hW => ⟨?_, ?_, ?_⟩))).mono ?_
          · rw [← hd1]
            exact World.cell?_of_block (hW.block w.heap.size (World.block_lt_of_cell? _ _ hd1) (fun e => hn1 e.symm))
          · rw [← hd2]
            exact World.cell?_of_block (hW.block nb (World.block_lt_of_cell? _ _ hd2) (fun e => hn2 e.symm))
          · exact Kd.C_below HR0.out (hbw.grown hW hbw.size (fun k hk => by have := hblk k hk; omega))
          · rintro e w' ⟨v', rfl, h1, h2, h3⟩
            exact ⟨v', rfl, R_of_own h1, hbw.grown h2 hbw.size (fun k hk => by have := hblk k hk; omega)⟩⟩
        clear hA3 hC3 hi0 hsz0 hM hml hso hm hbm eg hlr hw
        have hcb : ∀ n, (wa.drewN n).cell? ⟨nb, 0, none⟩ = some (.int .i64 a) := fun n => hbox
        by_cases hge : a1 ≤ ((othersOf l0_0 l2 i).length : Int)
        · have HM1 : Aside0 (misN l0_0 a1 l2 (i + 1) = misN l0_0 a1 l2 i + 1) := ⟨by rw [HST.out, HMA.out, decide_eq_true hge]; simp⟩
          have hge2 : ((othersOf l0_0 l2 i).length : Int) ≥ a1 := hge
          go_wp2_with (first | (go_at_call 73; with_reducible refine (HSO.out _ (by repeat (first | exact Below.refl _ _ | apply pw_below_drewN | apply below_drew1))).mono ?_; rintro e w4 ⟨v, rfl, hv, hb4⟩; have HV := Aside0.mk (Kd.R_lower hv (by first | exact Nat.le_refl _ | simp)); have HB4 := Aside0.mk (show Below wa.heap.size wa w4 from (by repeat (first | exact Below.refl _ _ | apply pw_below_drewN | apply below_drew1) : Below wa.heap.size wa _).trans (hb4.mono (by first | exact Nat.le_refl _ | simp))); clear hv hb4) | (go_at_call 91; with_reducible refine (HDL.out v _ HV.out HB4.out).mono ?_; rintro e w5 ⟨v', rfl, h1, h2⟩; obtain ⟨Av, cv, rfl, hcv, hCv⟩ := Kd.R_reads h1; have HCV := Aside0.mk hCv; have HCC := Aside0.mk hcv; have HB5 := Aside0.mk h2; clear h1 h2 hcv hCv) | (go_at_call 52; with_reducible refine (impl_length_int64.calls Av cv (othersOf l0_0 l2 i) ((othersOf l0_0 l2 i).length : Int) _ HCV.out HCC.out rfl).mono ?_; rintro e w6 ⟨rfl, ⟨nd6, rfl⟩⟩))
          go_roundg (l2.length - (i + 1))
          case measure => have := HK.out; omega
          case rel => exact ⟨i + 1, by have := HL.out; rw [wrap64_succ (by omega)], by have := HL.out; have := HN.out; rw [HM1.out, wrap64_succ (by omega)], ⟨by have := HK.out; omega⟩, ⟨(by repeat (first | exact HB5.out | apply pw_below_drewN | apply below_drew1))⟩⟩
        · have HM1 : Aside0 (misN l0_0 a1 l2 (i + 1) = misN l0_0 a1 l2 i) := ⟨by rw [HST.out, HMA.out, decide_eq_false hge, decide_eq_true hk0]; simp⟩
          have hge2 : ¬ ((othersOf l0_0 l2 i).length : Int) ≥ a1 := hge
          go_wp2_with (first | (go_at_call 73; with_reducible refine (HSO.out _ (by repeat (first | exact Below.refl _ _ | apply pw_below_drewN | apply below_drew1))).mono ?_; rintro e w4 ⟨v, rfl, hv, hb4⟩; have HV := Aside0.mk (Kd.R_lower hv (by first | exact Nat.le_refl _ | simp)); have HB4 := Aside0.mk (show Below wa.heap.size wa w4 from (by repeat (first | exact Below.refl _ _ | apply pw_below_drewN | apply below_drew1) : Below wa.heap.size wa _).trans (hb4.mono (by first | exact Nat.le_refl _ | simp))); clear hv hb4) | (go_at_call 91; with_reducible refine (HDL.out v _ HV.out HB4.out).mono ?_; rintro e w5 ⟨v', rfl, h1, h2⟩; obtain ⟨Av, cv, rfl, hcv, hCv⟩ := Kd.R_reads h1; have HCV := Aside0.mk hCv; have HCC := Aside0.mk hcv; have HB5 := Aside0.mk h2; clear h1 h2 hcv hCv) | (go_at_call 52; with_reducible refine (impl_length_int64.calls Av cv (othersOf l0_0 l2 i) ((othersOf l0_0 l2 i).length : Int) _ HCV.out HCC.out rfl).mono ?_; rintro e w6 ⟨rfl, ⟨nd6, rfl⟩⟩))
          go_roundg (l2.length - (i + 1))
          case measure => have := HK.out; omega
          case rel => exact ⟨i + 1, by have := HL.out; rw [wrap64_succ (by omega)], by rw [HM1.out], ⟨by have := HK.out; omega⟩, ⟨(by repeat (first | exact HB5.out | apply pw_below_drewN | apply below_drew1))⟩⟩
    · have hltz : ¬ (i : Int) < (l2.length : Int) := by omega
      have hi2 : i = l2.length := by have := HK.out; omega
      rw [hi2] at hltz ⊢
      clear hlt hi2
      go_wp2_with (fail)
      go_ret
      exact ⟨rfl, (HB0.out.trans (HB.out.mono (Nat.le_of_lt HSZ.out)))⟩
end Go.Proofs.Ytdhkcnhmmiigoaa.Q
