/- impl.ValidPolicy answers whether a policy is valid; no conditions. -/
import Derived.Test.YthaipkhgemachaaGreatDoorQx0
import Derived.Test.YthaipkhgemachaaGreatDoorHisOrderOf
import Derived.Test.YthaipkhgemachaaGreatDoorQx2
import Derived.Test.YthaipkhgemachaaGreatDoorSbase
import Derived.Test.YthaipkhgemachaaGreatDoorSpoldef
import Derived.Test.YthaipkhgemachaaGreatDoorSupto
import Derived.Test.YthaipkhgemachaaGreatDoorSlawptmem
import Derived.Deep.QuietTactic
namespace Go.Proofs.YthaipkhgemachaaGreatDoor.Q
open Go.RowKit Go.Proofs.YthaipkhgemachaaGreatDoorW.PrintWords Go.Proofs.YthaipkhgemachaaGreatDoorW.PrintLast Go.Proofs.YthaipkhgemachaaGreatDoorW.PrintMore
attribute [local go_sem] max2_int min2_int max_two min_two max_three min_three max_four min_four   -- for this text's walks alone
set_option linter.unusedVariables false
set_option linter.unusedSimpArgs false

def impl_ValidPolicy.f (l0_0 : List (List Int)) (l0_1 : List Int) : Option Bool := some (okPol l0_0 l0_1)
theorem isOrderOf_f (n : Nat) (hn : n ≤ 6) (l : List Int) : impl_isOrderOf.f l (n : Int) = some (okOrd n l) := by
  unfold impl_isOrderOf.f okOrd
  by_cases h : l.length = n
  · rw [if_pos (by omega), if_pos (by omega), decide_eq_true h]; rfl
  · rw [if_neg (by omega), decide_eq_false h]; rfl
theorem ValidPolicy_1.pred (n : Nat) (hn : n ≤ 6) (l : List (List Int)) (w : World) (B : Nat) (hB : w.cell? ⟨B, 0, none⟩ = some (.int .i64 n)) : PredRows 40 #[.pointer (some ⟨B, 0, none⟩)] l (fun x => !(okOrd n x)) w := fun W x A c hb _ hc hC => by
  have hcell := (hb.cell (World.block_lt_of_cell? w _ hB)).trans hB
  have HV := Aside0.mk (impl_isOrderOf.calls A c x (n : Int) (okOrd n x) W hC hc (isOrderOf_f n hn x))
  clear hb hC hc hB
  show Calls Tryz.prog 40 #[.slice A x.length c, .pointer (some ⟨B, 0, none⟩)] W (fun e w' => e = .returned (.bool (!okOrd n x)) ∧ Below W.heap.size W w')
  obtain ⟨q, hq⟩ : ∃ q, q = okOrd n x := ⟨_, rfl⟩
  rw [← hq] at HV ⊢
  clear hq
  cases q
  all_goals
    go_enter Tryz.func40, Tryz.ntmps40
    go_wp2_with (go_at_call 38; with_reducible refine HV.out.mono ?_; rintro e w' ⟨rfl, hb⟩; have HB1 := Aside0.mk hb; clear hb)
    go_ret
    exact ⟨rfl, HB1.out⟩
set_option maxHeartbeats 8000000 in
set_option maxRecDepth 100000 in
theorem impl_ValidPolicy.calls (A0_0 : Option Addr) (c0_0 : Nat) (l0_0 : List (List Int)) (A0_1 : Option Addr) (c0_1 : Nat) (l0_1 : List Int) (r : Bool) (w : World) (hr0_0 : Kd.C (Kd.slice 2 (Kd.int .i64)) w A0_0 l0_0.length l0_0) (hc0_0 : l0_0.length ≤ c0_0) (hr0_1 : Kd.C (Kd.int .i64) w A0_1 l0_1.length l0_1) (hc0_1 : l0_1.length ≤ c0_1) (h : impl_ValidPolicy.f l0_0 l0_1 = some r) :
    Calls Tryz.prog 14 #[.agg #[.slice A0_0 l0_0.length c0_0, .slice A0_1 l0_1.length c0_1]] w fun e w' => e = .returned (.bool r) ∧ Below w.heap.size w w' := by
  obtain rfl : okPol l0_0 l0_1 = r := Option.some.inj h
  clear h
  have hu := Tryz.underlying27
  have eg : ∀ args w, (callFunc 40 args).run Tryz.prog w = .ok (.enter 40 args) w := enters_of Tryz.func40 (by kernel_rfl) rfl
  obtain ⟨w1, hw1⟩ : ∃ w1, w1 = w.alloc (.cells #[.slice A0_0 l0_0.length c0_0, .slice A0_1 l0_1.length c0_1] 27) := ⟨_, rfl⟩
  have hb1 : Below w.heap.size w w1 := by rw [hw1]; exact below_alloc (Below.refl _ _) _
  have hs1 : w1.heap.size = w.heap.size + 1 := by rw [hw1]; simp
  have hx0 : w1.cell? ⟨w.heap.size, 0, none⟩ = some (.slice A0_0 l0_0.length c0_0) := by rw [hw1]; simp
  have hx1 : w1.cell? ⟨w.heap.size, 1, none⟩ = some (.slice A0_1 l0_1.length c0_1) := by rw [hw1]; simp
  have HLN := Aside0.mk (fun (W : World) (hb : Below w1.heap.size w1 W) => impl_length_int64.calls A0_1 c0_1 l0_1 (l0_1.length : Int) W (Kd.C_below (Kd.C_below hr0_1 hb1) hb) hc0_1 rfl)
  have HR0 := Aside0.mk (Kd.C_below hr0_0 hb1)
  have HR1 := Aside0.mk (Kd.C_below hr0_1 hb1)
  have HC0 := Aside0.mk hc0_0
  have HC1 := Aside0.mk hc0_1
  have HX0 := Aside0.mk (show ∀ W, Below w1.heap.size w1 W → W.cell? ⟨w.heap.size, 0, none⟩ = some (.slice A0_0 l0_0.length c0_0) from fun W h => (h.cell (World.block_lt_of_cell? _ _ hx0)).trans hx0)
  have HX1 := Aside0.mk (show ∀ W, Below w1.heap.size w1 W → W.cell? ⟨w.heap.size, 1, none⟩ = some (.slice A0_1 l0_1.length c0_1) from fun W h => (h.cell (World.block_lt_of_cell? _ _ hx1)).trans hx1)
  have HWB := Aside0.mk hb1
  have HWS := Aside0.mk (show w.heap.size ≤ w1.heap.size by omega)
  clear hr0_0 hr0_1 hc0_0 hc0_1
  have hL6 : impl_isWays.f (l0_1.length : Int) = some (decide (1 ≤ (l0_1.length : Int)) && decide ((l0_1.length : Int) ≤ 6)) := by
    unfold impl_isWays.f impl_inRange.f
    by_cases h1 : 1 ≤ (l0_1.length : Int) <;> simp [h1]
  have HIW := Aside0.mk hL6
  obtain ⟨ways, hways⟩ : ∃ n : Nat, n = l0_1.length := ⟨_, rfl⟩
  have HWY := Aside0.mk hways
  clear hL6
  go_enter Tryz.func14, Tryz.ntmps14
  rw [hw1] at hx0 hx1
  go_wp2_with (go_at_call 35; rw [← hw1]; with_reducible refine (HLN.out w1 (Below.refl _ _)).mono ?_; rintro e w2 ⟨rfl, ⟨nd2, hw2⟩⟩; have HB2 := Aside0.mk (below_at hw2.symm (Below.refl w1.heap.size w1)); clear hw2 hw1 hx0 hx1)
  have hb2 : Below w1.heap.size w1 w2 := HB2.out
  obtain ⟨w3, hw3⟩ : ∃ w3, w3 = w2.alloc (.cells #[.int .i64 (l0_1.length : Int)] 2) := ⟨_, rfl⟩
  have hb3 : Below w1.heap.size w1 w3 := by rw [hw3]; exact below_alloc hb2 _
  have hy : w3.cell? ⟨w2.heap.size, 0, none⟩ = some (.int .i64 (l0_1.length : Int)) := by rw [hw3]; simp
  rw [← hw3]
  have HB := Aside0.mk hb3
  have HY := Aside0.mk (show ∀ W, Below w3.heap.size w3 W → W.cell? ⟨w2.heap.size, 0, none⟩ = some (.int .i64 (l0_1.length : Int)) from fun W h => (h.cell (World.block_lt_of_cell? _ _ hy)).trans hy)
  have HX := Aside0.mk (Below.refl w3.heap.size w3)
  have hp0 := HX0.out _ hb3
  have hp1 := HX1.out _ hb3
  clear hb2 hb3 hw3 hb1 HLN HB2
  have hcv := fun (W : World) (h : Below w3.heap.size w3 W) => And.intro ((h.cell (World.block_lt_of_cell? _ _ hp0)).trans hp0) (And.intro ((h.cell (World.block_lt_of_cell? _ _ hp1)).trans hp1) ((h.cell (World.block_lt_of_cell? _ _ hy)).trans hy))
  have HS := Aside0.mk hcv
  have HF3 := Aside0.mk (Kd.C_below HR0.out HB.out)
  have HF4 := Aside0.mk (Kd.C_below HR1.out HB.out)
  have HLH := Aside0.mk (fun (m : Nat) => impl_length_int64_37.calls A0_0 c0_0 l0_0 (l0_0.length : Int) (w3.drewN m) (Kd.C_drewN HF3.out m) HC0.out rfl)
  have HIW2 := Aside0.mk (fun (b : Bool) (hb : impl_isWays.f (l0_1.length : Int) = some b) (m : Nat) => impl_isWays.calls (l0_1.length : Int) b (w3.drewN m) hb)
  clear hcv
  cases hA : decide (1 ≤ (l0_1.length : Int)) && decide ((l0_1.length : Int) ≤ 6) with
  | false =>
    rw [hA] at HIW
    have HF := Aside0.mk (show okPol l0_0 l0_1 = false by unfold okPol; rw [hA]; rfl)
    clear hA
    go_quiet (first | (go_at_call 36; with_reducible refine (impl_isWays.calls (l0_1.length : Int) false _ HIW.out).mono ?_; rintro e w' ⟨rfl, ⟨nd, rfl⟩⟩; (try first | exact ⟨rfl, _, World.drewN_drewN _ _ _⟩ | exact ⟨rfl, _, Eq.trans (World.drewN_drewN _ _ _) (congrArg (World.drewN _) (Nat.add_assoc _ _ _))⟩)))
    go_wp2_with (fail)
    go_ret
    exact ⟨ret_bool HF.out.symm, HWB.out.trans ((pw_below_drewN HB.out _).mono HWS.out)⟩
  | true =>
    rw [hA] at HIW
    have h16 : 1 ≤ l0_1.length ∧ l0_1.length ≤ 6 := by
      obtain ⟨h1, h2⟩ := Bool.and_eq_true_iff.1 hA
      have := of_decide_eq_true h1
      have := of_decide_eq_true h2
      omega
    by_cases hHM : (l0_0.length : Int) = (l0_1.length : Int)
    case neg =>
      have hb0 : ((l0_0.length : Int) == (l0_1.length : Int)) = false := beq_eq_false_iff_ne.mpr hHM
      have hb1 : (l0_0.length == l0_1.length) = false := by rw [beq_eq_false_iff_ne]; omega
      have HF := Aside0.mk (show okPol l0_0 l0_1 = false by unfold okPol; rw [hA, decide_eq_false hHM]; rfl)
      clear hA hHM
      go_quiet (first | (go_at_call 36; with_reducible refine (impl_isWays.calls (l0_1.length : Int) true _ HIW.out).mono ?_; rintro e w' ⟨rfl, ⟨nd, rfl⟩⟩; (try first | exact ⟨rfl, _, World.drewN_drewN _ _ _⟩ | exact ⟨rfl, _, Eq.trans (World.drewN_drewN _ _ _) (congrArg (World.drewN _) (Nat.add_assoc _ _ _))⟩)) | (go_at_call 37; with_reducible refine (HLH.out _).mono ?_; rintro e w' ⟨rfl, ⟨nd, rfl⟩⟩; (try first | exact ⟨rfl, _, World.drewN_drewN _ _ _⟩ | exact ⟨rfl, _, Eq.trans (World.drewN_drewN _ _ _) (congrArg (World.drewN _) (Nat.add_assoc _ _ _))⟩)))
      go_wp2_with (fail)
      go_ret
      exact ⟨ret_bool HF.out.symm, HWB.out.trans ((pw_below_drewN HB.out _).mono HWS.out)⟩
    case pos =>
      have hb0 : ((l0_0.length : Int) == (l0_1.length : Int)) = true := beq_iff_eq.mpr hHM
      have hb1 : (l0_0.length == l0_1.length) = true := by rw [beq_iff_eq]; omega
      have HLW := Aside0.mk (fun (W : World) (h : Below w3.heap.size w3 W) => impl_length_int64_37.calls A0_0 c0_0 l0_0 (l0_0.length : Int) W (Kd.C_below HF3.out h) HC0.out rfl)
      have HIO := Aside0.mk (fun (W : World) (h : Below w3.heap.size w3 W) => impl_isOrderOf.calls A0_1 c0_1 l0_1 (l0_1.length : Int) (okOrd l0_1.length l0_1) W (Kd.C_below HF4.out h) HC1.out (isOrderOf_f l0_1.length h16.2 l0_1))
      have HCF := Aside0.mk (fun (W : World) (h : Below w3.heap.size w3 W) => slices_ContainsFunc_rows 40 #[.pointer (some ⟨w2.heap.size, 0, none⟩)] eg (fun x => !(okOrd l0_1.length x)) A0_0 c0_0 l0_0 W (Kd.C_below HF3.out h) (ValidPolicy_1.pred l0_1.length h16.2 l0_0 W w2.heap.size (HS.out W h).2.2))
      have e : (l0_0.all (okOrd l0_1.length)) = !(l0_0.any fun x => !(okOrd l0_1.length x)) := by rw [List.not_any_eq_all_not]; simp
      have HP := Aside0.mk (show okPol l0_0 l0_1 = (okOrd l0_1.length l0_1 && !(l0_0.any fun x => !(okOrd l0_1.length x))) by unfold okPol; rw [hA, decide_eq_true hHM, e]; simp)
      clear e hA hHM h16
      obtain ⟨q1, hq1⟩ : ∃ q, q = okOrd l0_1.length l0_1 := ⟨_, rfl⟩
      obtain ⟨q2, hq2⟩ : ∃ q, q = (l0_0.any fun x => !(okOrd l0_1.length x)) := ⟨_, rfl⟩
      rw [← hq1] at HIO HP
      rw [← hq2] at HCF HP
      clear hq1 hq2
      have hB3 := Below.refl w3.heap.size w3
      refine wp_region_quiet_cls (C := fun W => Below w3.heap.size w3 W) (by kernel_rfl) (by kernel_rfl) (below_drew1 hB3) ?_
      cases q1 with
      | false =>
        repeat (refine wpQuiet_step (fun K hK => ?_); go_simp; first | (refine hK _ ?_; clear hK K) | (apply Exists.intro; refine ⟨fun W hW => ?_, hK _ ?_⟩; (first | (go_at_call 36; with_reducible refine (impl_isWays.calls (l0_1.length : Int) true _ HIW.out).mono ?_; rintro e w' ⟨rfl, ⟨nd, hw⟩⟩; exact ⟨rfl, below_at hw.symm hW⟩) | (go_at_call 37; with_reducible refine (HLW.out _ hW).mono ?_; rintro e w' ⟨rfl, ⟨nd, hw⟩⟩; exact ⟨rfl, below_at hw.symm hW⟩) | (go_at_call 38; with_reducible refine (HIO.out _ hW).mono ?_; rintro e w' ⟨rfl, hb⟩; exact ⟨rfl, below_step hW hb⟩) | (go_at_call 39; with_reducible refine (HCF.out _ hW).mono ?_; rintro e w' ⟨rfl, hb⟩; exact ⟨rfl, below_step hW hb⟩) | (obtain ⟨h1_, h2_, h3_⟩ := HS.out _ hW; go_simp; rfl)); clear hK K))
        refine wpQuiet_nil ?_
        intro w9 hw9
        go_wp2_with (fail)
        go_ret
        exact ⟨ret_bool (by rw [HP.out]; rfl), HWB.out.trans ((HB.out.trans (hw9.mono HB.out.size)).mono HWS.out)⟩
      | true =>
        cases q2 with
        | false =>
          repeat (refine wpQuiet_step (fun K hK => ?_); go_simp; first | (refine hK _ ?_; clear hK K) | (apply Exists.intro; refine ⟨fun W hW => ?_, hK _ ?_⟩; (first | (go_at_call 36; with_reducible refine (impl_isWays.calls (l0_1.length : Int) true _ HIW.out).mono ?_; rintro e w' ⟨rfl, ⟨nd, hw⟩⟩; exact ⟨rfl, below_at hw.symm hW⟩) | (go_at_call 37; with_reducible refine (HLW.out _ hW).mono ?_; rintro e w' ⟨rfl, ⟨nd, hw⟩⟩; exact ⟨rfl, below_at hw.symm hW⟩) | (go_at_call 38; with_reducible refine (HIO.out _ hW).mono ?_; rintro e w' ⟨rfl, hb⟩; exact ⟨rfl, below_step hW hb⟩) | (go_at_call 39; with_reducible refine (HCF.out _ hW).mono ?_; rintro e w' ⟨rfl, hb⟩; exact ⟨rfl, below_step hW hb⟩) | (obtain ⟨h1_, h2_, h3_⟩ := HS.out _ hW; go_simp; rfl)); clear hK K))
          refine wpQuiet_nil ?_
          intro w9 hw9
          go_wp2_with (fail)
          go_ret
          exact ⟨ret_bool (by rw [HP.out]; rfl), HWB.out.trans ((HB.out.trans (hw9.mono HB.out.size)).mono HWS.out)⟩
        | true =>
          repeat (refine wpQuiet_step (fun K hK => ?_); go_simp; first | (refine hK _ ?_; clear hK K) | (apply Exists.intro; refine ⟨fun W hW => ?_, hK _ ?_⟩; (first | (go_at_call 36; with_reducible refine (impl_isWays.calls (l0_1.length : Int) true _ HIW.out).mono ?_; rintro e w' ⟨rfl, ⟨nd, hw⟩⟩; exact ⟨rfl, below_at hw.symm hW⟩) | (go_at_call 37; with_reducible refine (HLW.out _ hW).mono ?_; rintro e w' ⟨rfl, ⟨nd, hw⟩⟩; exact ⟨rfl, below_at hw.symm hW⟩) | (go_at_call 38; with_reducible refine (HIO.out _ hW).mono ?_; rintro e w' ⟨rfl, hb⟩; exact ⟨rfl, below_step hW hb⟩) | (go_at_call 39; with_reducible refine (HCF.out _ hW).mono ?_; rintro e w' ⟨rfl, hb⟩; exact ⟨rfl, below_step hW hb⟩) | (obtain ⟨h1_, h2_, h3_⟩ := HS.out _ hW; go_simp; rfl)); clear hK K))
          refine wpQuiet_nil ?_
          intro w9 hw9
          go_wp2_with (fail)
          go_ret
          exact ⟨ret_bool (by rw [HP.out]; rfl), HWB.out.trans ((HB.out.trans (hw9.mono HB.out.size)).mono HWS.out)⟩
end Go.Proofs.YthaipkhgemachaaGreatDoor.Q
