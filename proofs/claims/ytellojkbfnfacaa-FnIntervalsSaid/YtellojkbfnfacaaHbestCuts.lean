/- impl.BestCuts answers the best cuts; no conditions. -/
import Derived.Test.YtellojkbfnfacaaQx0
import Derived.Test.YtellojkbfnfacaaHconcat
import Derived.Test.YtellojkbfnfacaaQx1
import Derived.Test.YtellojkbfnfacaaQx2
import Derived.Test.YtellojkbfnfacaaSbase
import Derived.Test.YtellojkbfnfacaaSkeptiv
import Derived.Test.YtellojkbfnfacaaSsetlimpl
import Derived.Test.YtellojkbfnfacaaSsetldef
import Derived.Test.YtellojkbfnfacaaScutdef
import Derived.Test.YtellojkbfnfacaaSsortl
import Derived.Test.YtellojkbfnfacaaSslidx
import Derived.Test.YtellojkbfnfacaaSivsimpl
import Derived.Test.YtellojkbfnfacaaSlenalias
import Derived.Deep.RegionWith
namespace Go.Proofs.Ytellojkbfnfacaa.Q
open Go.RowKit Go.Proofs.YtellojkbfnfacaaW.PrintWords Go.Proofs.YtellojkbfnfacaaW.PrintLast Go.Proofs.YtellojkbfnfacaaW.PrintMore
attribute [local go_sem] max2_int min2_int max_two min_two max_three min_three max_four min_four   -- for this text's walks alone
set_option linter.unusedVariables false
set_option linter.unusedSimpArgs false

def impl_BestCuts.f (l0 : List Int) (a1 : Int) : Option (List Int × Bool) := if (okUses l0 && isIn 1 6 a1) = true then some (bestC (ivs l0) a1 l0.length, true) else some ([], false)
set_option maxHeartbeats 16000000 in
set_option maxRecDepth 100000 in
theorem impl_BestCuts.calls (A0 : Option Addr) (c0 : Nat) (l0 : List Int) (a1 : Int) (r1 : List Int) (r2 : Bool) (w : World) (hr0 : Kd.C (Kd.int .i64) w A0 l0.length l0) (hc0 : l0.length ≤ c0) (h : impl_BestCuts.f l0 a1 = some (r1, r2)) :
    Calls Try.prog 16 #[.slice A0 l0.length c0, .int .i64 a1] w fun e w' => ∃ v0_ : Value, e = .returned (.tuple #[v0_, .bool r2]) ∧ Kd.R (Kd.int .i64) 2 w' w.heap.size (fun _ => True) v0_ r1 ∧ Below w.heap.size w w' := by
  unfold impl_BestCuts.f at h
  have eg : ∀ args w, (callFunc 40 args).run Try.prog w = .ok (.enter 40 args) w := enters_of Try.func40 (by kernel_rfl) rfl
  have HOP := Aside0.mk (impl_isOptimal.calls A0 c0 l0 a1 (okUses l0 && isIn 1 6 a1) w hr0 hc0 (impl_isOptimal_f l0 a1))
  cases hg : okUses l0 && isIn 1 6 a1 with
  | false =>
    rw [hg] at HOP
    rw [hg, if_neg (by simp)] at h
    obtain ⟨e1, e2⟩ := Prod.mk.inj (Option.some.inj h)
    subst e1 e2
    clear h hg hr0 hc0
    go_enter Try.func16, Try.ntmps16
    go_wp2_with (go_at_call 34; (with_reducible refine HOP.out.mono ?_); rintro e w2 ⟨rfl, hb2⟩; have HB := Aside0.mk hb2; clear hb2)
    go_ret2
    exact ⟨_, rfl, Kd.R_nil _ _ _ _ _, HB.out⟩
  | true =>
    rw [hg] at HOP
    rw [hg, if_pos rfl] at h
    obtain ⟨e1, e2⟩ := Prod.mk.inj (Option.some.inj h)
    subst e1 e2
    obtain ⟨h1, h2⟩ := Bool.and_eq_true_iff.1 hg
    obtain ⟨hU, hul⟩ := (okUses_iff l0).1 h1
    obtain ⟨hw1, hw6⟩ := ways_range h2
    obtain ⟨KI, hKI⟩ := ev_intervalsOf l0 (by omega)
    have hvl : (ivs l0).length ≤ 60 := Nat.le_trans (ivsTo_length l0 l0.length) hul
    have HIV := Aside0.mk (fun (W : World) (hb : Below w.heap.size w W) => impl_intervalsOf.calls KI A0 c0 l0 (ivs l0) W (Kd.C_below hr0 hb) hc0 (hKI KI (Nat.le_refl _)))
    have HLN := Aside0.mk (fun (W : World) (hb : Below w.heap.size w W) => impl_length_int64.calls A0 c0 l0 (l0.length : Int) W (Kd.C_below hr0 hb) hc0 rfl)
    have HV2 := Aside0.mk (show ∀ i : Nat, i < (ivs l0).length → (rd_L2 (ivs l0) (i : Int)).length = 2 from fun i hi => ivs_two (l := l0) (n := (i : Int)) (by omega) (by omega))
    have HVL := Aside0.mk hvl
    have HUL := Aside0.mk hul
    have HW := Aside0.mk (And.intro hw1 hw6)
    obtain ⟨n, hn⟩ : ∃ n, n = l0.length := ⟨_, rfl⟩
    rw [← hn] at HOP HIV HLN HUL
    rw [← hn]
    obtain ⟨iv, hiv⟩ : ∃ iv, iv = ivs l0 := ⟨_, rfl⟩
    rw [← hiv] at HIV HV2 HVL
    rw [← hiv]
    have hmk := fun (W : World) => make_cut W (n + 1) (by have := HUL.out; omega) (wrap64 ((n : Int) + 1)) (wrap64_succ (by have := HUL.out; omega))
    clear h hg h1 h2 hU hul hw1 hw6 hKI hvl hr0 hc0 hn hiv
    go_enter Try.func16, Try.ntmps16
    go_wp2_with (first | (go_at_call 34; (with_reducible refine HOP.out.mono ?_); rintro e w2 ⟨rfl, hb2⟩; have HB := Aside0.mk hb2; clear hb2) | (go_at_call 39; (with_reducible refine (HLN.out _ HB.out).mono ?_); rintro e w3 ⟨rfl, ⟨nd3, hw3⟩⟩; have HBn := Aside0.mk (below_at hw3.symm HB.out); clear HB; have HB := HBn; clear HBn hw3) | (go_at_call 36; (with_reducible refine (HIV.out _ HB.out).mono ?_); rintro e w4 ⟨v4, rfl, hv4, hb4⟩; obtain ⟨Ai, ci, rfl, hci, hCi⟩ := Kd.R_reads (Kd.S_R hv4); have HR4 := Aside0.mk (Kd.R_lower (Kd.S_R hv4) HB.out.size); have HB4 := Aside0.mk (below_step HB.out hb4); clear hv4 hb4 hCi))
    have HC0 := Aside0.mk (cut_start n (tabK iv a1 n) HR4.out HB4.out)
    obtain ⟨bx, hbx⟩ : ∃ bx, bx = w4.heap.size := ⟨_, rfl⟩
    obtain ⟨W5, hW5⟩ : ∃ W5, W5 = ((w4.alloc (.cells #[.slice Ai iv.length ci] 29)).alloc (.cells (madeCells #[.int .i64 0, .slice none 0 0] ((n + 1) * 2)) 53)) := ⟨_, rfl⟩
    rw [← hW5, ← hbx] at HC0 ⊢
    clear hW5 HB4 HR4 hmk hbx
    go_loopg [10] (n + 1) (fun gg s10 wr => ∃ lo : Nat, s10 = .int .i64 ((lo : Int) - 2) ∧ Aside0 (lo ≤ n + 1 ∧ lo ≤ gg) ∧ Aside0 (CutW w bx (bx + 1) Ai ci iv n lo (tabK iv a1 n) wr))
    case atStart => exact ⟨n + 1, by have := HUL.out; rw [wrap64_id (by omega) (by omega)]; exact congrArg (Value.int .i64) (by omega), ⟨⟨Nat.le_refl _, Nat.le_refl _⟩⟩, ⟨HC0.out⟩⟩
    case round =>
      clear HC0
      obtain ⟨lo, rfl, HK, HC⟩ := hrel
      obtain ⟨wo, hwo⟩ : ∃ wo, wo = wr := ⟨_, rfl⟩
      rw [← hwo] at HC ⊢
      clear hwo
      cases lo with
      | zero =>
        obtain ⟨A, c, _, he1, he2⟩ := HC.out.ent 0 (Nat.le_refl _) (Nat.zero_le _)
        have he3 : (wo.alloc (.cells #[] 2)).cell? ⟨bx + 1, 1, none⟩ = some (.slice A (tabK iv a1 n 0).2.length c) := ((below_alloc (Below.refl wo.heap.size wo) _).cell (World.block_lt_of_cell? _ _ he1)).trans he1
        have HE2 := Aside0.mk he2
        have hfl : (1 : Nat) = 1 := rfl
        have hsm := (tabK_small iv a1 HW.out.1 n n 0 (Nat.zero_add n)).2.2
        obtain ⟨X, hX⟩ : ∃ X, X = (tabK iv a1 n 0).2 := ⟨_, rfl⟩
        rw [← hX] at he3 HE2 hsm
        have HX := Aside0.mk (show bestC iv a1 n = X by rw [bestC_tab, hX])
        have HWB := Aside0.mk (below_alloc (below_alloc (Below.refl wo.heap.size wo) (.cells #[] 2)) (.cells #[.slice (some ⟨wo.heap.size, 0, none⟩) 0 0, .slice A X.length c] 24))
        have hnb := blk_new (wo.alloc (.cells #[] 2)) (.cells #[.slice (some ⟨wo.heap.size, 0, none⟩) 0 0, .slice A X.length c] 24)
        rw [World.size_alloc] at hnb
        have hCX := Kd.R_reads' (Kd.R_below HE2.out HWB.out)
        have hrows := two_rows (W := (wo.alloc (.cells #[] 2)).alloc (.cells #[.slice (some ⟨wo.heap.size, 0, none⟩) 0 0, .slice A X.length c] 24)) (x := []) (y := X) (Ax := some ⟨wo.heap.size, 0, none⟩) (cx := 0) hnb ⟨rfl, Nat.zero_le _, fun h => absurd h (Nat.lt_irrefl 0)⟩ (Nat.le_refl _) hCX.2.2 hCX.2.1
        have HCO := Aside0.mk (show Calls Try.prog 41 #[.slice (some ⟨wo.heap.size + 1, 0, none⟩) 2 2] _ _ from slices_Concat_int64_int64.calls (some ⟨wo.heap.size + 1, 0, none⟩) 2 [[], X] X _ hrows (Nat.le_refl _) (by unfold slices_Concat_int64_int64.f; rw [if_pos (by simp; have := HUL.out; omega)]; simp))
        clear he1 he2 hX hsm hnb hCX hrows
        go_wp2_with (go_at_call 41; (with_reducible refine HCO.out.mono ?_); rintro e w9 ⟨v9, rfl, hv9, hb9⟩; have HV9 := Aside0.mk (Kd.R_lower hv9 (Nat.le_trans HC.out.bel.size HWB.out.size)); have HB9 := Aside0.mk (below_step HC.out.bel (below_step HWB.out hb9)); clear hv9 hb9)
        go_ret2
        exact ⟨_, rfl, by rw [HX.out]; exact HV9.out, HB9.out⟩
      | succ a =>
        have hge : (-1 : Int) ≤ (a : Int) - 1 := by omega
        have hta : (((a + 1 : Nat) : Int) - 2) = (a : Int) - 1 := by omega
        rw [hta]
        have HAN := Aside0.mk (show a ≤ n by have := HK.out; omega)
        have HANZ : Aside0 ((0 : Int) ≤ (a : Int) ∧ (a : Int) < (n : Int) + 1) := ⟨⟨by omega, by have := HAN.out; omega⟩⟩
        have HBT := Aside0.mk (fun (W : World) (hW : CutW w bx (bx + 1) Ai ci iv n (a + 1) (tabK iv a1 n) W) (b : Int) => between_calls bx Ai ci iv W hW.reads.1 hW.reads.2 HV2.out HVL.out ((a : Int) - 1) b)
        go_wp2_with (go_at_fn 40; refine (HBT.out _ HC.out _).mono ?_; rintro e w6 ⟨rfl, hb6⟩; have HC6 := Aside0.mk (HC.out.below hb6); clear hb6)
        have hgp := HC6.out.tab
        have HGP := Aside0.mk (show bx + 1 ≠ w6.heap.size ∧ w.heap.size ≤ w6.heap.size from ⟨by obtain ⟨_, h9, _⟩ := hgp; have := blk_lt h9; omega, HC6.out.bel.size⟩)
        have HC7 := Aside0.mk (HC6.out.below (below_alloc (Below.refl w6.heap.size w6) (.cells #[.int .i64 (btI iv ((a : Int) - 1) (n : Int) : Nat), .slice none 0 0] 53)))
        have HX7 : Aside0 (BoxC w w6.heap.size (cpick iv a1 n a (tabK iv a1 n) 0) (w6.alloc (.cells #[.int .i64 (btI iv ((a : Int) - 1) (n : Int) : Nat), .slice none 0 0] 53))) := ⟨⟨none, 0, blk_new w6 _, Kd.R_nil _ _ _ _ _⟩⟩
        obtain ⟨W7, hW7⟩ : ∃ W7, W7 = w6.alloc (.cells #[.int .i64 (btI iv ((a : Int) - 1) (n : Int) : Nat), .slice none 0 0] 53) := ⟨_, rfl⟩
        obtain ⟨bp, hbp⟩ : ∃ bp, bp = w6.heap.size := ⟨_, rfl⟩
        rw [← hW7] at HC7 HX7 ⊢
        rw [← hbp] at HX7 HGP ⊢
        clear hW7 hbp hgp HC6
        have hwa : wrap64 (a : Int) = (a : Int) := wrap64_id (by omega) (by have := HAN.out; have := HUL.out; omega)
        have HWA := Aside0.mk hwa
        clear hwa
        go_loopg [12] (n - a) (fun gg s12 wr => ∃ k : Nat, s12 = .int .i64 ((a + k : Nat) : Int) ∧ Aside0 (k ≤ n - a ∧ n - a - k ≤ gg) ∧ Aside0 (CutW w bx (bx + 1) Ai ci iv n (a + 1) (tabK iv a1 n) wr) ∧ Aside0 (BoxC w bp (cpick iv a1 n a (tabK iv a1 n) k) wr))
        case atStart => exact ⟨0, by rw [HWA.out]; rfl, ⟨⟨Nat.zero_le _, by omega⟩⟩, ⟨HC7.out⟩, ⟨HX7.out⟩⟩
        case round =>
          clear HC7 HX7
          obtain ⟨k, rfl, HK2, HC7, HX7⟩ := hrel
          obtain ⟨x, hx⟩ : ∃ x, x = a + k := ⟨_, rfl⟩
          have HXE := Aside0.mk hx
          rw [← hx]
          clear hx
          by_cases hlt : k < n - a
          · have hltz : (x : Int) < (n : Int) := by have := HXE.out; omega
            have h0z : (0 : Int) ≤ (x : Int) := by omega
            have hws : wrap64 ((x : Int) + 1) = (x : Int) + 1 := wrap64_id (by omega) (by have := HUL.out; omega)
            have hb1 : (x : Int) + 1 < (n : Int) + 1 := by omega
            obtain ⟨A8, c8, he1, he2, he3⟩ := HC7.out.ent (x + 1) (by have := HXE.out; omega) (by omega)
            obtain ⟨r1, hr1⟩ : ∃ r, r = (tabK iv a1 n (x + 1)).1 := ⟨_, rfl⟩
            obtain ⟨X, hX⟩ : ∃ X, X = (tabK iv a1 n (x + 1)).2 := ⟨_, rfl⟩
            rw [← hr1] at he1
            rw [← hX] at he2 he3
            have HR1 := Aside0.mk hr1
            have HXX := Aside0.mk hX
            have HE3 := Aside0.mk he3
            have hsm := (tabK_small iv a1 HW.out.1 n (n - (x + 1)) (x + 1) (by omega)).2.2
            rw [← hX] at hsm
            have HSM := Aside0.mk (show X.length ≤ 100 by have := HUL.out; omega)
            clear hr1 hX he3 hlt hsm
            go_wp2_with (fail)
            have HWR := Aside0.mk (Below.refl wr.heap.size wr)
            have HBA := Aside0.mk (below_alloc (Below.refl wr.heap.size wr) (.cells #[.int .i64 r1, .slice A8 X.length c8] 53))
            have HBT2 := Aside0.mk (fun (W : World) (hb : Below wr.heap.size wr W) => HBT.out W (HC7.out.below hb) (x : Int))
            have hst : cpick iv a1 n a (tabK iv a1 n) (k + 1) = if betC ((btI iv ((a : Int) - 1) (x : Int) : Int) + (a1 - 1) + r1, (x : Int) :: X) (cpick iv a1 n a (tabK iv a1 n) k) = true then ((btI iv ((a : Int) - 1) (x : Int) : Int) + (a1 - 1) + r1, (x : Int) :: X) else cpick iv a1 n a (tabK iv a1 n) k := by
              have h9 : cpick iv a1 n a (tabK iv a1 n) (k + 1) = if betC ((btI iv ((a : Int) - 1) ((a + k : Nat) : Int) : Int) + (a1 - 1) + (tabK iv a1 n (a + k + 1)).1, ((a + k : Nat) : Int) :: (tabK iv a1 n (a + k + 1)).2) (cpick iv a1 n a (tabK iv a1 n) k) = true then ((btI iv ((a : Int) - 1) ((a + k : Nat) : Int) : Int) + (a1 - 1) + (tabK iv a1 n (a + k + 1)).1, ((a + k : Nat) : Int) :: (tabK iv a1 n (a + k + 1)).2) else cpick iv a1 n a (tabK iv a1 n) k := rfl
              rw [← HXE.out, ← HR1.out, ← HXX.out] at h9
              exact h9
            have hbq := btI_le iv ((a : Int) - 1) (x : Int)
            have hbr1 := (tabK_small iv a1 HW.out.1 n (n - (x + 1)) (x + 1) (by omega)).1
            have hbr2 := (tabK_small iv a1 HW.out.1 n (n - (x + 1)) (x + 1) (by omega)).2.1
            rw [← HR1.out] at hbr1 hbr2
            obtain ⟨q, hq⟩ : ∃ q, q = btI iv ((a : Int) - 1) (x : Int) := ⟨_, rfl⟩
            rw [← hq] at HBT2 hst hbq
            have hs1 : IntKind.i64.wrap ((q : Int) + a1) = (q : Int) + a1 := by rw [IntKind.wrap_i64]; have := HVL.out; have := HW.out; omega
            have hs2 : IntKind.i64.wrap ((q : Int) + a1 - 1) = (q : Int) + a1 - 1 := by rw [IntKind.wrap_i64]; have := HVL.out; have := HW.out; omega
            have hs3 : IntKind.i64.wrap ((q : Int) + a1 - 1 + r1) = (q : Int) + a1 - 1 + r1 := by rw [IntKind.wrap_i64]; have := HVL.out; have := HW.out; omega
            have hcv : (q : Int) + (a1 - 1) + r1 = (q : Int) + a1 - 1 + r1 := by omega
            rw [hcv] at hst
            have HST := Aside0.mk hst
            obtain ⟨E, hE⟩ : ∃ E, E = cpick iv a1 n a (tabK iv a1 n) k := ⟨_, rfl⟩
            rw [← hE] at HST HX7
            obtain ⟨KB, hKB⟩ := ev_better ((q : Int) + a1 - 1 + r1, (x : Int) :: X) E (by rw [List.length_cons]; have := HSM.out; omega)
            have HKB := Aside0.mk (hKB KB (Nat.le_refl _))
            have HX1 := Aside0.mk (show ((x : Int) :: X).length = X.length + 1 from rfl)
            clear hst hbq hbr1 hbr2 hq hcv hE hKB
            have HRB := Aside0.mk (blk_new wr (.cells #[.int .i64 r1, .slice A8 X.length c8] 53))
            have hro1 : ∀ W, Below (wr.alloc (.cells #[.int .i64 r1, .slice A8 X.length c8] 53)).heap.size (wr.alloc (.cells #[.int .i64 r1, .slice A8 X.length c8] 53)) W → W.cell? ⟨wr.heap.size, 0, none⟩ = some (.int .i64 r1) ∧ W.cell? ⟨wr.heap.size, 1, none⟩ = some (.slice A8 X.length c8) := fun W hb => ⟨blk_cell (blk_below HRB.out hb) 0, blk_cell (blk_below HRB.out hb) 1⟩
            have HRO := Aside0.mk hro1
            clear hro1
            obtain ⟨W8, hW8⟩ : ∃ W8, W8 = wr.alloc (.cells #[.int .i64 r1, .slice A8 X.length c8] 53) := ⟨_, rfl⟩
            obtain ⟨br, hbr⟩ : ∃ br, br = wr.heap.size := ⟨_, rfl⟩
            rw [← hW8, ← hbr] at HRO
            rw [← hW8] at HBA
            rw [← hW8, ← hbr]
            clear hW8
            have HBR := Aside0.mk hbr
            have hh1 := (HRO.out _ (Below.refl _ _)).1
            have hh2 := (HRO.out _ (Below.refl _ _)).2
            have HB := Aside0.mk (Below.refl W8.heap.size W8)
            clear hbr he1 he2 HRB
            have HCAT := Aside0.mk (fun (W : World) (g gx : Nat) (h1 : W.heap[g]? = some (.cells #[.slice (some ⟨gx, 0, none⟩) 1 1, .slice A8 X.length c8] 24 (0, 0))) (h2 : W.heap[gx]? = some (.cells #[.int .i64 (x : Int)] 2 (0, 0))) (hb : Below W8.heap.size W8 W) => cat_call (x : Int) X A8 c8 W g gx h1 h2 (Kd.R_reads' (Kd.R_below HE3.out (below_step HBA.out hb))).2.2 (Kd.R_reads' HE3.out).2.1 HSM.out)
            go_region_held3 (fun w' => w'.cell? ⟨br, 0, none⟩ = some (.int .i64 r1) ∧ w'.cell? ⟨br, 1, none⟩ = some (.slice A8 X.length c8)) (first | exact HRO.out _ (by repeat (first | (with_reducible first | exact HB.out | apply below_alloc | apply pw_below_drewN | apply below_drew1 | refine below_set ?_ (by have := HS8.out; omega)) | exact HB.out))) (first | (go_at_fn 40; refine (HBT2.out _ (below_step HBA.out (by repeat (first | (with_reducible first | exact HB.out | apply below_alloc | apply pw_below_drewN | apply below_drew1) | exact HB.out)))).mono ?_; rintro e w8 ⟨rfl, hb8⟩; have HB8 := Aside0.mk hb8; have HS8 := Aside0.mk (below_size (below_step (by repeat (first | (with_reducible first | exact HB.out | apply below_alloc | apply pw_below_drewN | apply below_drew1) | exact HB.out)) hb8)); have HBn := Aside0.mk (below_step (by repeat (first | (with_reducible first | exact HB.out | apply below_alloc | apply pw_below_drewN | apply below_drew1) | exact HB.out)) hb8); clear HB; have HB := HBn; clear HBn hb8) | (go_at_call 41; refine (HCAT.out _ _ _ (by with_reducible repeat (first | exact blk_new _ _ | exact blk_new1 _ _ _ | exact blk_new2 _ _ _ _ | refine blk_drew ?_ | refine blk_alloc ?_ _ | refine blk_below ?_ HB8.out)) (by with_reducible repeat (first | exact blk_new _ _ | exact blk_new1 _ _ _ | exact blk_new2 _ _ _ _ | refine blk_drew ?_ | refine blk_alloc ?_ _ | refine blk_below ?_ HB8.out)) (by repeat (first | (with_reducible first | exact HB.out | apply below_alloc | apply pw_below_drewN | apply below_drew1) | exact HB.out))).mono ?_; rintro e w9 ⟨v9, rfl, hv9, hb9⟩; obtain ⟨A9, c9, ev9⟩ := Kd.R_slice hv9; subst ev9; have HV9 := Aside0.mk hv9; have HB9 := Aside0.mk hb9; (first | (refine cbox_use hb9 W8.heap.size ?_ ?_; (focus ((with_reducible repeat (first | exact blk_new _ _ | exact blk_new1 _ _ _ | exact blk_new2 _ _ _ _ | refine blk_drew ?_ | refine blk_alloc ?_ _ | refine blk_below ?_ HB8.out)); done)); rintro ⟨hy1, hy2, hy3, hy4, hy5, hy6, hy7⟩; have HY7 := Aside0.mk hy7; clear hy7) | (refine cbox_use hb9 (W8.heap.size + 1) ?_ ?_; (focus ((with_reducible repeat (first | exact blk_new _ _ | exact blk_new1 _ _ _ | exact blk_new2 _ _ _ _ | refine blk_drew ?_ | refine blk_alloc ?_ _ | refine blk_below ?_ HB8.out)); done)); rintro ⟨hy1, hy2, hy3, hy4, hy5, hy6, hy7⟩; have HY7 := Aside0.mk hy7; clear hy7) | (refine cbox_use hb9 (W8.heap.size + 1 + 1) ?_ ?_; (focus ((with_reducible repeat (first | exact blk_new _ _ | exact blk_new1 _ _ _ | exact blk_new2 _ _ _ _ | refine blk_drew ?_ | refine blk_alloc ?_ _ | refine blk_below ?_ HB8.out)); done)); rintro ⟨hy1, hy2, hy3, hy4, hy5, hy6, hy7⟩; have HY7 := Aside0.mk hy7; clear hy7) | (refine cbox_use hb9 w8.heap.size ?_ ?_; (focus ((with_reducible repeat (first | exact blk_new _ _ | exact blk_new1 _ _ _ | exact blk_new2 _ _ _ _ | refine blk_drew ?_ | refine blk_alloc ?_ _ | refine blk_below ?_ HB8.out)); done)); rintro ⟨hy1, hy2, hy3, hy4, hy5, hy6, hy7⟩; have HY7 := Aside0.mk hy7; clear hy7) | (refine cbox_use hb9 (w8.heap.size + 1) ?_ ?_; (focus ((with_reducible repeat (first | exact blk_new _ _ | exact blk_new1 _ _ _ | exact blk_new2 _ _ _ _ | refine blk_drew ?_ | refine blk_alloc ?_ _ | refine blk_below ?_ HB8.out)); done)); rintro ⟨hy1, hy2, hy3, hy4, hy5, hy6, hy7⟩; have HY7 := Aside0.mk hy7; clear hy7) | (refine cbox_use hb9 (w8.heap.size + 1 + 1) ?_ ?_; (focus ((with_reducible repeat (first | exact blk_new _ _ | exact blk_new1 _ _ _ | exact blk_new2 _ _ _ _ | refine blk_drew ?_ | refine blk_alloc ?_ _ | refine blk_below ?_ HB8.out)); done)); rintro ⟨hy1, hy2, hy3, hy4, hy5, hy6, hy7⟩; have HY7 := Aside0.mk hy7; clear hy7) | skip); have HBn := Aside0.mk (below_step (by repeat (first | (with_reducible first | exact HB.out | apply below_alloc | apply pw_below_drewN | apply below_drew1) | exact HB.out)) hb9); clear HB; have HB := HBn; clear HBn hb9 hv9))
            all_goals (first | (obtain ⟨W9, gc, hW9, hgc, hcb9, hvc9, hbz9⟩ := cbox_all HY7.out HB.out (by have := HS8.out; omega) HV9.out ((q : Int) + a1 - 1 + r1) (.slice A9 (X.length + 1) c9); rw [← hW9, ← hgc]; clear hW9 hgc) | (obtain ⟨W9, gc, hW9, hgc, hcb9, hvc9, hbz9⟩ := cbox_new HB.out HV9.out ((q : Int) + a1 - 1 + r1) (.slice A9 (X.length + 1) c9); rw [← hW9, ← hgc]; clear hW9 hgc))
            all_goals (
              have HCB := Aside0.mk hcb9
              have HBZ := Aside0.mk (below_step HBA.out hbz9)
              have HLB := Aside0.mk (Nat.le_trans (below_step HC7.out.bel HBZ.out).size (Nat.le_refl _))
              have HVC := Aside0.mk (Kd.R_lower hvc9 (show w.heap.size ≤ _ from Nat.le_trans HC7.out.bel.size (by have := HBA.out.size; have := HS8.out; first | omega | (simp; omega))))
              have HC9 := Aside0.mk (HC7.out.below HBZ.out)
              have HX9 := Aside0.mk (HX7.out.below HBZ.out)
              clear hcb9 hvc9 hbz9
              obtain ⟨AE, cE, hE1, hE2⟩ := HX9.out
              have HE1 := Aside0.mk hE1
              have hrE := Kd.R_reads' hE2
              have hrV := Kd.R_reads' HVC.out
              obtain ⟨hk1, hk2, hk3, hk4, hk5, hk6⟩ := cbox_reads HCB.out
              obtain ⟨hm1, hm2, hm3, hm4, hm5, hm6⟩ := cbox_reads HE1.out
              have hbc := impl_cutList_better.calls KB ((q : Int) + a1 - 1 + r1) A9 c9 ((x : Int) :: X) E.1 AE cE E.2 (betC ((q : Int) + a1 - 1 + r1, (x : Int) :: X) E) W9 hrV.2.2 (by rw [HX1.out]; exact hrV.2.1) hrE.2.2 hrE.2.1 HKB.out
              rw [HX1.out] at hbc
              have HBC := Aside0.mk hbc
              clear hE1 hE2 hrE hrV hbc
              obtain ⟨e1, he1⟩ : ∃ e, e = E.1 := ⟨_, rfl⟩
              obtain ⟨e2, he2⟩ : ∃ e, e = E.2.length := ⟨_, rfl⟩
              rw [← he1, ← he2] at HBC
              rw [← he1] at hm1
              rw [← he2] at hm2 hm5
              have HE9 := Aside0.mk (And.intro he1 he2)
              clear he1 he2
              cases hbet : betC ((q : Int) + a1 - 1 + r1, (x : Int) :: X) E with
              | false =>
                rw [hbet] at HBC HST
                have HS2 : Aside0 (cpick iv a1 n a (tabK iv a1 n) (k + 1) = E) := ⟨by rw [HST.out, if_neg (by simp)]⟩
                clear hbet
                go_wp2_with (go_at_call 42; (with_reducible refine HBC.out.mono ?_); rintro e w10 ⟨rfl, hb10⟩; have HB10 := Aside0.mk hb10; clear hb10)
                go_roundg (n - a - (k + 1))
                case measure => have := HK2.out; have := HXE.out; omega
                case rel => exact ⟨k + 1, by have := HXE.out; exact congrArg (Value.int .i64) (by first | omega | (rw [hws]; omega)), ⟨by have := HK2.out; have := HXE.out; omega⟩, ⟨HC9.out.below HB10.out⟩, ⟨by rw [HS2.out]; exact HX9.out.below HB10.out⟩⟩
              | true =>
                rw [hbet] at HBC HST
                have HS2 : Aside0 (cpick iv a1 n a (tabK iv a1 n) (k + 1) = ((q : Int) + a1 - 1 + r1, (x : Int) :: X)) := ⟨by rw [HST.out, if_pos rfl]⟩
                clear hbet
                go_wp2_with (go_at_call 42; (with_reducible refine HBC.out.mono ?_); rintro e w10 ⟨rfl, hb10⟩; have HB10 := Aside0.mk hb10; obtain ⟨hn1, hn2, hn3, hn4, hn5, hn6⟩ := cbox_reads (blk_below HCB.out hb10); obtain ⟨ho1, ho2, ho3, ho4, ho5, ho6⟩ := cbox_reads (blk_below HE1.out hb10); clear hb10)
                go_roundg (n - a - (k + 1))
                case measure => have := HK2.out; have := HXE.out; omega
                case rel => exact ⟨k + 1, by have := HXE.out; exact congrArg (Value.int .i64) (by first | omega | (rw [hws]; omega)), ⟨by have := HK2.out; have := HXE.out; omega⟩, ⟨(HC9.out.below HB10.out).stored (blk_below HE1.out HB10.out) HGP.out.1 HGP.out.2 _ _⟩, ⟨by rw [HS2.out]; exact (HX9.out.below HB10.out).store (e2 := ((q : Int) + a1 - 1 + r1, (x : Int) :: X)) A9 c9 (Kd.R_below HVC.out HB10.out)⟩⟩)
          · have hltz : ¬ (x : Int) < (n : Int) := by have := HK2.out; have := HXE.out; omega
            have hke : k = n - a := by have := HK2.out; omega
            have hta := tabK_at iv a1 n a HAN.out
            rw [hke, hta] at HX7
            obtain ⟨A9, c9, hb9, hR9⟩ := HX7.out
            have HR9 := Aside0.mk hR9
            have HB9 := Aside0.mk hb9
            have HPUT := Aside0.mk (HC7.out.put HAN.out A9 c9 hR9)
            obtain ⟨⟨z1, hz1⟩, ⟨A7, l7, c7, hz2⟩, hfz⟩ := HC7.out.some_ a HAN.out
            obtain ⟨r1, hr1⟩ : ∃ r, r = (tabK iv a1 n a).1 := ⟨_, rfl⟩
            obtain ⟨m1, hm1⟩ : ∃ m, m = (tabK iv a1 n a).2.length := ⟨_, rfl⟩
            rw [← hr1, ← hm1] at HB9 HPUT
            have hq1 : wr.cell? ⟨bp, 0, none⟩ = some (.int .i64 r1) := blk_cell HB9.out 0
            have hq2 : wr.cell? ⟨bp, 1, none⟩ = some (.slice A9 m1 c9) := blk_cell HB9.out 1
            have hz3 : (wr.setCell ⟨bx + 1, a * 2, none⟩ (.int .i64 r1)).cell? ⟨bx + 1, a * 2 + 1, none⟩ = some (.slice A7 l7 c7) := by
              obtain ⟨cur, t1, _⟩ := HC7.out.tab
              rw [blk_cell (blk_set t1 _ _), Array.getElem?_setIfInBounds_ne (by omega), ← blk_cell t1, hz2]
            have hfz2 : (wr.setCell ⟨bx + 1, a * 2, none⟩ (.int .i64 r1)).frozen? ⟨bx + 1, a * 2 + 1, none⟩ = false := by
              obtain ⟨cur, t1, _⟩ := HC7.out.tab
              exact blk_frozen (blk_set t1 _ _) _
            have hfz1 := hfz (a * 2)
            have hwa := HWA.out
            have ha0 := HANZ.out.1
            have han := HANZ.out.2
            clear hfz hb9 hR9 hr1 hm1 hke hta hlt
            go_wp2_with (fail)
            go_roundg a
            case measure => have := HK.out; omega
            case rel => exact ⟨a, by have := HUL.out; have := HAN.out; rw [wrap64_id (by omega) (by omega)]; exact congrArg (Value.int .i64) (by omega), ⟨⟨by have := HAN.out; omega, Nat.le_refl _⟩⟩, ⟨HPUT.out⟩⟩
end Go.Proofs.Ytellojkbfnfacaa.Q
