/- impl.ClockRun runs the clock; no conditions. -/
import Derived.Test.YteobbgofbedgdaaQx0
import Derived.Test.YteobbgofbedgdaaHValidTrace
import Derived.Test.YteobbgofbedgdaaQx1
import Derived.Test.YteobbgofbedgdaaSbase
import Derived.Test.YteobbgofbedgdaaSclockdef
import Derived.Test.YteobbgofbedgdaaSidxclock
import Derived.Test.YteobbgofbedgdaaSidxf
import Derived.Test.YteobbgofbedgdaaSown
import Derived.Test.YteobbgofbedgdaaStraces
namespace Go.Proofs.Yteobbgofbedgdaa.Q
open Go.RowKit Go.Proofs.YteobbgofbedgdaaW.PrintWords Go.Proofs.YteobbgofbedgdaaW.PrintLast Go.Proofs.YteobbgofbedgdaaW.PrintMore
attribute [local go_sem] max2_int min2_int max_two min_two max_three min_three max_four min_four   -- for this text's walks alone
set_option linter.unusedVariables false
set_option linter.unusedSimpArgs false

theorem infoC : (Try.prog.info? 66).map (fun i => (i.zero, i.size, i.bytes)) = some (some (.agg #[.int .i64 0, .bool false, .bool false]), 3, 16) := by kernel_rfl
theorem infoCI : (Try.prog.info? 2).map (fun i => (i.zero, i.size, i.bytes)) = some (some (.int .i64 0), 1, 8) := by kernel_rfl
theorem rdC_set (H : List CF) (i : Nat) (h : i < H.length) (f : CF) : rdC (H.set i f) i = f := by
  rw [rdC_lt _ i (by rw [List.length_set]; exact h), List.getElem_set_self]
/-- The frames and the faults while the clock runs. -/
structure ClkI (w W : World) (g c : Nat) (vL : Value) (H : List CF) (L : List Int) : Prop where
  held : Held W w.heap.size g c H
  rL : Kd.R (Kd.int .i64) 2 W w.heap.size (fun _ => True) vL L
  bel : Below w.heap.size w W
section
variable {w W W' : World} {g c : Nat} {vL : Value} {H : List CF} {L : List Int}
theorem ClkI.below (h : ClkI w W g c vL H L) (hb : Below W.heap.size W W') : ClkI w W' g c vL H L := ⟨h.held.below hb, Kd.R_below h.rL hb, below_step h.bel hb⟩
theorem ClkI.put (h : ClkI w W g c vL H L) {H2 : List CF} (k : Nat) (hk : k < H.length * 3) (u : Value) (hl : H2.length = H.length) (he : (cells3 H).set k u = cells3 H2) : ClkI w (W.setCell ⟨g, k, none⟩ u) g c vL H2 L := by
  obtain ⟨cur, h1, h2, _⟩ := h.held.blk
  exact ⟨h.held.setAt k hk u hl he, Kd.R_set h.rL h2 (by decide) k u, h.bel.setCell (p := ⟨g, k, none⟩) (by show w.heap.size ≤ g; exact h1) u⟩
theorem ClkI.app {w1 : World} {v1 : Value} {L1 : List Int} (h : ClkI w W g c vL H L) (ho : Kd.R (Kd.int .i64) 2 w1 w.heap.size (fun _ => True) v1 L1) (hb : Below w.heap.size w w1) (hg : W.grownBy w1 vL.ownBlock) : ClkI w w1 g c v1 H L1 := by
  obtain ⟨cur, h1, h2, _⟩ := h.held.blk
  exact ⟨h.held.grown hg (Kd.R_ne h.rL h2 (by decide)), ho, hb⟩
theorem ClkI.mark2 (h : ClkI w W g c vL H L) (q : Nat) (hf : q < H.length) (v : Bool) : ClkI w ((W.setCell ⟨g, q * 3 + 1, none⟩ (.bool true)).setCell ⟨g, q * 3 + 2, none⟩ (.bool v)) g c vL (H.set q ((rdC H q).1, true, v)) L := by
  have h1 := h.put (q * 3 + 1) (by omega) (.bool true) (by rw [List.length_set]) (cells3_set H q hf 0 true false).2.1
  have hf1 : q < (H.set q ((rdC H q).1, true, (rdC H q).2.2)).length := by rw [List.length_set]; exact hf
  have h2 := h1.put (q * 3 + 2) (by omega) (.bool v) (by rw [List.length_set]) (cells3_set _ q hf1 0 false v).2.2
  rw [rdC_set H q hf, List.set_set] at h2
  exact h2
theorem ClkI.lay (h : ClkI w W g c vL H L) (q : Nat) (hf : q < H.length) (a : Int) : ClkI w (((W.setCell ⟨g, q * 3, none⟩ (.int .i64 a)).setCell ⟨g, q * 3 + 1, none⟩ (.bool false)).setCell ⟨g, q * 3 + 2, none⟩ (.bool false)) g c vL (H.set q (a, false, false)) L := by
  have h1 := h.put (q * 3) (by omega) (.int .i64 a) (by rw [List.length_set]) (cells3_set H q hf a true false).1
  have hf1 : q < (H.set q (a, (rdC H q).2)).length := by rw [List.length_set]; exact hf
  have h2 : ClkI w ((W.setCell ⟨g, q * 3, none⟩ (.int .i64 a)).setCell ⟨g, q * 3 + 1, none⟩ (.bool false)) g c vL (H.set q (a, false, (rdC H q).2.2)) L := by
    have h := h1.put (q * 3 + 1) (by omega) (.bool false) (by rw [List.length_set]) (cells3_set _ q hf1 0 false false).2.1
    rw [rdC_set H q hf, List.set_set] at h
    exact h
  have hf2 : q < (H.set q (a, false, (rdC H q).2.2)).length := by rw [List.length_set]; exact hf
  have h3 := h2.put (q * 3 + 2) (by omega) (.bool false) (by rw [List.length_set]) (cells3_set _ q hf2 0 false false).2.2
  rw [rdC_set H q hf, List.set_set] at h3
  exact h3
theorem ClkI.set (h : ClkI w W g c vL H L) (k : Nat) : W.frozen? ⟨g, k, none⟩ = false := by
  obtain ⟨cur, _, h2, _⟩ := h.held.blk
  exact blk_frozen h2 k
theorem ClkI.ne (h : ClkI w W g c vL H L) : g ≠ W.heap.size := by
  obtain ⟨cur, _, h2, _⟩ := h.held.blk
  have := (Array.getElem?_eq_some_iff.1 h2).1
  omega
theorem ClkI.more {w1 : World} {v1 : Value} {f : CF} (h : ClkI w W g c vL H L) (hown : w1.ownsRow w.heap.size 66 3 v1 (H.length + 1) (cells3 H ++ [.int .i64 f.1, .bool f.2.1, .bool f.2.2])) (hb : Below w.heap.size w w1) (hg : W.grownBy w1 (Value.slice (some ⟨g, 0, none⟩) H.length c).ownBlock) : ∃ g' c', v1 = .slice (some ⟨g', 0, none⟩) (H.length + 1) c' ∧ ClkI w w1 g' c' vL (H ++ [f]) L := by
  obtain ⟨cur, h1, h2, _⟩ := h.held.blk
  have e : cells3 H ++ [.int .i64 f.1, .bool f.2.1, .bool f.2.2] = cells3 (H ++ [f]) := by rw [cells3_append]; rfl
  rw [e] at hown
  have hty : ∀ k, (Value.slice (some ⟨g, 0, none⟩) H.length c).ownBlock = some k → ∃ cells, W.heap[k]? = some (.cells cells 66 (0, 0)) := fun k hk => by
    have : g = k := by simpa [Value.ownBlock] using hk
    subst this
    exact ⟨cur, h2⟩
  rcases hown.2 with ⟨hv, h0⟩ | ⟨g', cap, cur', hv, _⟩
  · exact absurd h0 (by omega)
  · subst hv
    exact ⟨g', cap, rfl, ⟨⟨by rw [List.length_append, List.length_singleton]; exact hown⟩, Kd.R_over' h.rL hty (by decide) hg, hb⟩⟩
end
theorem clockLen (n g c : Nat) (w : World) : Calls Try.prog 49 #[.slice (some ⟨g, 0, none⟩) n c] w fun e w' => e = .returned (.int .i64 (n : Int)) ∧ w' = w := by
  go_enter Try.func49, Try.ntmps49
  go_wp2
  go_ret
  exact ⟨rfl, rfl⟩
set_option maxHeartbeats 16000000 in
set_option maxRecDepth 100000 in
theorem impl_ClockRun_run (a0 : Int) (A1 : Option Addr) (c1 : Nat) (l1 : List S60) (w : World) (hr1 : Kd.C k60 w A1 l1.length l1) (hc1 : l1.length ≤ c1) (h0 : 1 ≤ a0 ∧ a0 ≤ 16) (hok : okTrace l1 = true) :
    Calls Try.prog 14 #[.int .i64 a0, .slice A1 l1.length c1] w fun e w' => ∃ v, e = .returned (.tuple #[v, .int .i64 (runC a0.toNat l1 l1.length).2.2, .bool true]) ∧ Kd.R (Kd.int .i64) 2 w' w.heap.size (fun _ => True) v (runC a0.toNat l1 l1.length).2.1 ∧ Below w.heap.size w w' := by
  have hin : impl_inRange.f a0 1 16 = some true := by unfold impl_inRange.f; rw [if_pos h0.1]; simp [h0.2]
  have HIN := Aside0.mk hin
  have HVT := Aside0.mk (fun (W : World) (hb : Below w.heap.size w W) => impl_ValidTrace.calls A1 c1 l1 true W (Kd.C_below hr1 hb) hc1 (by show some (okTrace l1) = some true; rw [hok]))
  have HRA := Aside0.mk hr1
  have H60 := Aside0.mk (okTrace_acc hok).1
  have eg : ∀ args w, (callFunc 48 args).run Try.prog w = .ok (.enter 48 args) w := enters_of Try.func48 (by kernel_rfl) rfl
  have EG := Aside0.mk eg
  clear hin hr1 hc1 hok eg
  have HB0 := Aside0.mk (Below.refl w.heap.size w)
  go_enter Try.func14, Try.ntmps14
  go_wp2_with (first
    | (go_at_call 45; (with_reducible refine (impl_inRange.calls a0 1 16 true _ HIN.out).mono ?_); rintro e w2 ⟨rfl, ⟨nd2, hw2⟩⟩; have hb2 : Below w.heap.size w w2 := below_at hw2.symm (Below.refl w.heap.size w); have HB2 := Aside0.mk hb2; clear hw2 hb2)
    | (go_at_call 46; (with_reducible refine (HVT.out _ HB2.out).mono ?_); rintro e w3 ⟨rfl, hb3⟩; have HB3 := Aside0.mk (below_step HB2.out hb3); clear hb3))
  have HS0 : Aside0 (ClkI w ((w3.alloc (.cells #[] 66)).alloc (.cells #[] 2)) w3.heap.size 0 (.slice (some ⟨w3.heap.size + 1, 0, none⟩) 0 0) [] []) := ⟨by
    have h1 := blk_alloc (blk_new w3 (.cells #[] 66)) (.cells #[] 2)
    have hz : (w3.alloc (.cells #[] 66)).heap.size = w3.heap.size + 1 := by simp
    have ho := own_lit (w3.alloc (.cells #[] 66)) w.heap.size 2 .i64 [] (by rw [hz]; have := HB3.out.size; omega) (by simp)
    have hr := R_of_own ho
    rw [hz] at hr
    exact ⟨⟨⟨rfl, .inr ⟨w3.heap.size, 0, #[], rfl, HB3.out.size, h1, Nat.le_refl _, Nat.zero_le _, rfl, rfl⟩⟩⟩, by simpa [nums] using hr, below_alloc (below_alloc HB3.out _) _⟩⟩
  go_loopg [7, 8, 9, 10, 27] l1.length (fun gg s7 s8 s9 s10 s27 wr => ∃ (i g c cL : Nat) (AL : Option Addr) (H : List CF) (p : Nat) (L : List Int) (bk : Int), s7 = .slice (some ⟨g, 0, none⟩) H.length c ∧ s8 = .slice AL L.length cL ∧ s9 = .int .i64 p ∧ s10 = .int .i64 bk ∧ s27 = .int .i64 i ∧ Aside0 (i ≤ l1.length ∧ l1.length - i ≤ gg) ∧ Aside0 (runC a0.toNat l1 i = ((H, p), L, bk)) ∧ Aside0 (ClkI w wr g c (.slice AL L.length cL) H L) ∧ Aside0 (L.length = i ∧ H.length ≤ a0.toNat ∧ (p < H.length ∨ p = 0) ∧ 0 ≤ bk ∧ bk ≤ i))
  case atStart => exact ⟨0, _, _, _, _, [], 0, [], 0, rfl, rfl, rfl, rfl, rfl, ⟨⟨Nat.zero_le _, by omega⟩⟩, ⟨rfl⟩, ⟨HS0.out⟩, ⟨⟨rfl, Nat.zero_le _, .inr rfl, by omega, by omega⟩⟩⟩
  case round =>
    clear HS0
    obtain ⟨i, g, c, cL, AL, H, p, L, bk, rfl, rfl, rfl, rfl, rfl, HK, HRC, HS, HLN⟩ := hrel
    obtain ⟨wo, rfl⟩ : ∃ wo, wo = wr := ⟨_, rfl⟩
    by_cases hlt : i < l1.length
    · have hltz : (i : Int) < (l1.length : Int) := by omega
      have h0z : (0 : Int) ≤ (i : Int) := by omega
      obtain ⟨ad, e, hx, hx1⟩ := at_T60 HRA.out (i : Int) h0z hltz
      cases e
      simp only [Int.toNat_natCast] at hx hx1
      have HNX : Aside0 (runC a0.toNat l1 (i + 1) = ((stepC a0.toNat H p (rd_T60 l1 (i : Int)).f0 (rd_T60 l1 (i : Int)).f1).1, L ++ [(stepC a0.toNat H p (rd_T60 l1 (i : Int)).f0 (rd_T60 l1 (i : Int)).f1).2.1], bk + (stepC a0.toNat H p (rd_T60 l1 (i : Int)).f0 (rd_T60 l1 (i : Int)).f1).2.2)) := ⟨by show (_, _, _) = _; rw [HRC.out]⟩
      obtain ⟨kd, hkd⟩ : ∃ kd, kd = (rd_T60 l1 (i : Int)).f0 := ⟨_, rfl⟩
      obtain ⟨av, hav⟩ : ∃ av, av = (rd_T60 l1 (i : Int)).f1 := ⟨_, rfl⟩
      rw [← hkd, ← hav] at HNX
      rw [← hkd] at hx
      rw [← hav] at hx1
      have hx := (HS.out.bel.cell (World.block_lt_of_cell? _ _ hx)).trans hx
      have hx1 := (HS.out.bel.cell (World.block_lt_of_cell? _ _ hx1)).trans hx1
      clear hkd hav
      have HLL : Aside0 (L.length ≤ 60) := ⟨by have := HLN.out.1; have := H60.out; omega⟩
      have hal := below_alloc (Below.refl wo.heap.size wo) (.cells #[.int .i64 kd, .int .i64 av] 60)
      have HAL := Aside0.mk hal
      have hbn := blk_new wo (.cells #[.int .i64 kd, .int .i64 av] 60)
      have HBN := Aside0.mk hbn
      have HSX := Aside0.mk (HS.out.below hal)
      have hb1 : (wo.alloc (.cells #[.int .i64 kd, .int .i64 av] 60)).cell? ⟨wo.heap.size, 1, none⟩ = some (.int .i64 av) := by rw [blk_cell hbn]; rfl
      have HIF := Aside0.mk (slices_IndexFunc_clock 48 #[.pointer (some ⟨wo.heap.size, 0, none⟩)] EG.out (fun f => f.1 == av) w.heap.size g c H _ HSX.out.held (ClockRun_1.pred H _ wo.heap.size av hb1))
      clear hal hbn hb1
      by_cases hf : H.findIdx (fun f => f.1 == av) < H.length
      · obtain ⟨q, hq⟩ : ∃ q, q = H.findIdx (fun f => f.1 == av) := ⟨_, rfl⟩
        have hi : idxF (fun f : CF => f.1 == av) H = (q : Int) := by unfold idxF; rw [if_pos hf, hq]
        rw [← hq] at hf
        have hst : stepC a0.toNat H p kd av = ((H.set q ((rdC H q).1, true, (rdC H q).2.2 || kd == 1), p), 0, 0) := by
          show (if _ then _ else _) = _
          rw [← hq, if_pos hf]
        rw [hst] at HNX
        rw [hi] at HIF
        clear hst hi hq HSX
        have hqz : ¬ (q : Int) < 0 := by omega
        have hqh : (q : Int) < (H.length : Int) := by omega
        have hq0 : (0 : Int) ≤ (q : Int) := by omega
        have HNE := Aside0.mk HS.out.ne
        cases hd : (rdC H q).2.2 with
        | true =>
          rw [hd, Bool.true_or] at HNX
          go_upto_region 24 with (go_at_call 47; (with_reducible refine HIF.out.mono ?_); rintro e w4 ⟨rfl, hb4⟩; have HS4 := Aside0.mk ((HS.out.below HAL.out).below hb4); clear hb4; have hcc := HS4.out.held.cells q hf; rw [hd] at hcc; have hff := (HS4.out.held.cellAt (q * 3 + 1) (by omega)).2; have hfg := (HS4.out.held.cellAt (q * 3 + 2) (by omega)).2; have HFIN := Aside0.mk (HS4.out.mark2 q hf true))
          generalize ((w4.setCell ⟨g, q * 3 + 1, none⟩ (.bool true)).setCell ⟨g, q * 3 + 2, none⟩ (.bool true)) = W5 at HFIN ⊢
          clear HS4 hcc hff hfg
          go_wp2_with ((with_reducible refine gate_builtin (b := .append) (xs := #[.tmp 97, .tmp 99]) rfl ?_); at_builtin; refine Kd.R_append (Kd.int .i64) (w0 := w) w.heap.size rfl (.tmp 97) (.tmp 99) 24 2 (.int .i64 0) 8 rfl Try.underlying24 infoCI rfl (by decide) (by omega) (.slice AL L.length cL) L 0 [.int .i64 0] (fun _ => True) (fun _ => False) rfl rfl ?aP (fun _ hk => hk.elim) ?aF ?aO ?aB ?aS ?aL ?_; (case aP => exact rfl); (case aB => exact HFIN.out.bel); (case aF => exact (fun _ _ => trivial)); (case aO => exact HFIN.out.rL); (case aS => exact HFIN.out.bel.size); (case aL => have := HLL.out; omega); intro vap wap ho hb hg hat; have HZ := Aside0.mk (HFIN.out.app ho hb hg); obtain ⟨A5, c5, evap⟩ := Kd.R_slice ho; subst evap; clear ho hb hg hat)
          go_roundg (l1.length - (i + 1))
          case measure => have := HK.out; omega
          case rel => exact ⟨i + 1, g, c, _, _, _, p, _, bk, by rw [List.length_set], by rw [List.length_append, List.length_singleton], rfl, rfl, by rw [wrap64_succ (by have := H60.out; omega)], ⟨by have := HK.out; omega⟩, ⟨by rw [HNX.out, Int.add_zero]⟩, ⟨HZ.out⟩, ⟨by have := HLN.out; rw [List.length_append, List.length_singleton, List.length_set]; omega⟩⟩
        | false =>
          rw [hd, Bool.false_or] at HNX
          go_upto_region 24 with (go_at_call 47; (with_reducible refine HIF.out.mono ?_); rintro e w4 ⟨rfl, hb4⟩; have HS4 := Aside0.mk ((HS.out.below HAL.out).below hb4); have hkd : (w4.setCell ⟨g, q * 3 + 1, none⟩ (.bool true)).cell? ⟨wo.heap.size, 0, none⟩ = some (.int .i64 kd) := (by rw [blk_cell (blk_far (blk_below HBN.out hb4) (p := ⟨g, q * 3 + 1, none⟩) (Ne.symm HNE.out) _)]; rfl); clear hb4; have hcc := HS4.out.held.cells q hf; rw [hd] at hcc; have hff := (HS4.out.held.cellAt (q * 3 + 1) (by omega)).2; have hfg := (HS4.out.held.cellAt (q * 3 + 2) (by omega)).2; have HFIN := Aside0.mk (HS4.out.mark2 q hf (kd == 1)))
          generalize ((w4.setCell ⟨g, q * 3 + 1, none⟩ (.bool true)).setCell ⟨g, q * 3 + 2, none⟩ (.bool (kd == 1))) = W5 at HFIN ⊢
          clear HS4 hcc hff hfg hkd
          go_wp2_with ((with_reducible refine gate_builtin (b := .append) (xs := #[.tmp 97, .tmp 99]) rfl ?_); at_builtin; refine Kd.R_append (Kd.int .i64) (w0 := w) w.heap.size rfl (.tmp 97) (.tmp 99) 24 2 (.int .i64 0) 8 rfl Try.underlying24 infoCI rfl (by decide) (by omega) (.slice AL L.length cL) L 0 [.int .i64 0] (fun _ => True) (fun _ => False) rfl rfl ?aP (fun _ hk => hk.elim) ?aF ?aO ?aB ?aS ?aL ?_; (case aP => exact rfl); (case aB => exact HFIN.out.bel); (case aF => exact (fun _ _ => trivial)); (case aO => exact HFIN.out.rL); (case aS => exact HFIN.out.bel.size); (case aL => have := HLL.out; omega); intro vap wap ho hb hg hat; have HZ := Aside0.mk (HFIN.out.app ho hb hg); obtain ⟨A5, c5, evap⟩ := Kd.R_slice ho; subst evap; clear ho hb hg hat)
          go_roundg (l1.length - (i + 1))
          case measure => have := HK.out; omega
          case rel => exact ⟨i + 1, g, c, _, _, _, p, _, bk, by rw [List.length_set], by rw [List.length_append, List.length_singleton], rfl, rfl, by rw [wrap64_succ (by have := H60.out; omega)], ⟨by have := HK.out; omega⟩, ⟨by rw [HNX.out, Int.add_zero]⟩, ⟨HZ.out⟩, ⟨by have := HLN.out; rw [List.length_append, List.length_singleton, List.length_set]; omega⟩⟩
      · have hi : idxF (fun f : CF => f.1 == av) H = -1 := by unfold idxF; rw [if_neg hf]
        rw [hi] at HIF
        clear hi HSX
        by_cases hfr : H.length < a0.toNat
        · have hst : stepC a0.toNat H p kd av = ((H ++ [(av, true, kd == 1)], p), 1, 0) := by
            show (if _ then _ else _) = _
            rw [if_neg hf, if_pos hfr]
          rw [hst] at HNX
          clear hst hf
          have hfz : (H.length : Int) < a0 := by omega
          have HF16 : Aside0 (H.length ≤ 16) := ⟨by omega⟩
          go_upto_region 21 with (first
            | (go_at_call 47; (with_reducible refine HIF.out.mono ?_); rintro e w4 ⟨rfl, hb4⟩; have HS4 := Aside0.mk ((HS.out.below HAL.out).below hb4); have HB4 := Aside0.mk (blk_below HBN.out hb4); clear hb4)
            | (go_at_call 49; (with_reducible refine (clockLen H.length g c _).mono ?_); rintro e w5 ⟨rfl, rfl⟩)
            | ((with_reducible refine gate_builtin (b := .append) (xs := #[.tmp 42, .tmp 44]) rfl ?_); at_builtin; refine print_append_cells (w0 := w) w.heap.size rfl (.tmp 42) (.tmp 44) 63 66 (.agg #[.int .i64 0, .bool false, .bool false]) 3 16 rfl Try.underlying63 infoC rfl (by decide) (by decide) (.slice (some ⟨g, 0, none⟩) H.length c) H.length (cells3 H) [.int .i64 0, .bool false, .bool false] rfl rfl rfl (fun v hv => by simp at hv; rcases hv with rfl | rfl <;> rfl) HS4.out.held.own HS4.out.bel HS4.out.bel.size (by have := HF16.out; omega) ?_; intro v1 w5 hown hb hg hat; obtain ⟨g5, c8, ev1, hS5⟩ := HS4.out.more (f := (0, false, false)) hown hb hg; subst ev1; have HS5 := Aside0.mk hS5; have HB5 := Aside0.mk (blk_grown HB4.out hg (own_ne HS4.out.held.own HB4.out (by decide))); clear hown hb hg hat hS5))
          have hn1 : H.length < (H ++ [((0, false, false) : CF)]).length := by rw [List.length_append, List.length_singleton]; omega
          have hcc5 := HS5.out.held.cells H.length hn1
          have hf50 := HS5.out.set (H.length * 3)
          have hf51 := HS5.out.set (H.length * 3 + 1)
          have hf52 := HS5.out.set (H.length * 3 + 2)
          have hka : w5.cell? ⟨wo.heap.size, 1, none⟩ = some (.int .i64 av) := by rw [blk_cell HB5.out]; rfl
          have HNE6 : Aside0 (wo.heap.size ≠ g5) := ⟨by
            intro e
            obtain ⟨cur, _, h2, _⟩ := HS5.out.held.blk
            rw [← e, HB5.out] at h2
            injection h2 with h2
            injection h2 with _ h2
            exact absurd h2 (by decide)⟩
          have HS6 := Aside0.mk (HS5.out.lay H.length hn1 av)
          have HB6 := Aside0.mk (blk_far (blk_far (blk_far HB5.out (p := ⟨g5, H.length * 3, none⟩) HNE6.out (.int .i64 av)) (p := ⟨g5, H.length * 3 + 1, none⟩) HNE6.out (.bool false)) (p := ⟨g5, H.length * 3 + 2, none⟩) HNE6.out (.bool false))
          have hset : (H ++ [((0, false, false) : CF)]).set H.length (av, false, false) = H ++ [(av, false, false)] := by simp
          rw [hset] at HS6
          have HQ6 : Aside0 (H.length < (H ++ [((av, false, false) : CF)]).length) := ⟨by rw [List.length_append, List.length_singleton]; omega⟩
          have HD6 : Aside0 ((rdC (H ++ [((av, false, false) : CF)]) H.length).2.2 = false) := ⟨by rw [rdC_lt _ _ HQ6.out]; simp⟩
          have HD7 : Aside0 ((rdC (H ++ [((av, false, false) : CF)]) H.length).1 = av) := ⟨by rw [rdC_lt _ _ HQ6.out]; simp⟩
          have hsz5 : (H.length : Int) < (H.length : Int) + 1 := by omega
          clear hset
          go_upto_region 22 with (fail)
          generalize (((w5.setCell ⟨g5, (H.length) * 3, none⟩ (.int .i64 av)).setCell ⟨g5, (H.length) * 3 + 1, none⟩ (.bool false)).setCell ⟨g5, (H.length) * 3 + 2, none⟩ (.bool false)) = W6 at HS6 HB6 ⊢
          clear hcc5 hf50 hf51 hf52 hka HS5 HB5
          have hcc := HS6.out.held.cells (H.length) HQ6.out
          rw [HD6.out] at hcc
          have hff := HS6.out.set ((H.length) * 3 + 1)
          have hfg := HS6.out.set ((H.length) * 3 + 2)
          have hkd : (W6.setCell ⟨g5, (H.length) * 3 + 1, none⟩ (.bool true)).cell? ⟨wo.heap.size, 0, none⟩ = some (.int .i64 kd) := (by rw [blk_cell (blk_far HB6.out (p := ⟨g5, (H.length) * 3 + 1, none⟩) HNE6.out _)]; rfl)
          have HFIN := Aside0.mk (HS6.out.mark2 (H.length) HQ6.out (kd == 1))
          go_upto_region 24 with (fail)
          generalize ((W6.setCell ⟨g5, (H.length) * 3 + 1, none⟩ (.bool true)).setCell ⟨g5, (H.length) * 3 + 2, none⟩ (.bool (kd == 1))) = W7 at HFIN ⊢
          clear HS6 hcc hff hfg hkd
          go_wp2_with ((with_reducible refine gate_builtin (b := .append) (xs := #[.tmp 97, .tmp 99]) rfl ?_); at_builtin; refine Kd.R_append (Kd.int .i64) (w0 := w) w.heap.size rfl (.tmp 97) (.tmp 99) 24 2 (.int .i64 0) 8 rfl Try.underlying24 infoCI rfl (by decide) (by omega) (.slice AL L.length cL) L 1 [.int .i64 1] (fun _ => True) (fun _ => False) rfl rfl ?aP (fun _ hk => hk.elim) ?aF ?aO ?aB ?aS ?aL ?_; (case aP => exact rfl); (case aB => exact HFIN.out.bel); (case aF => exact (fun _ _ => trivial)); (case aO => exact HFIN.out.rL); (case aS => exact HFIN.out.bel.size); (case aL => have := HLL.out; omega); intro vap wap ho hb hg hat; have HZ := Aside0.mk (HFIN.out.app ho hb hg); obtain ⟨A5, c5, evap⟩ := Kd.R_slice ho; subst evap; clear ho hb hg hat)
          go_roundg (l1.length - (i + 1))
          case measure => have := HK.out; omega
          case rel => exact ⟨i + 1, g5, c8, _, _, H ++ [(av, true, kd == 1)], p, L ++ [1], bk, by rw [List.length_append, List.length_singleton], by rw [List.length_append, List.length_singleton], rfl, rfl, by rw [wrap64_succ (by have := H60.out; omega)], ⟨by have := HK.out; omega⟩, ⟨by rw [HNX.out, Int.add_zero]⟩, ⟨by have h := HZ.out; rw [HD7.out] at h; simpa using h⟩, ⟨by have := HLN.out; rw [List.length_append, List.length_singleton, List.length_append, List.length_singleton]; omega⟩⟩
        · have hp : p < H.length := by have := HLN.out; omega
          obtain ⟨F, hF⟩ : ∃ F, F = spinC H.length H p := ⟨_, rfl⟩
          have hFf := spinC_facts H.length H p hp
          rw [← hF] at hFf
          have hst : stepC a0.toNat H p kd av = ((F.1.set F.2 (av, true, kd == 1), (F.2 + 1) % H.length), 1, if (rdC F.1 F.2).2.2 = true then 1 else 0) := by
            show (if _ then _ else _) = _
            rw [if_neg hf, if_neg hfr, ← hF]
          rw [hst] at HNX
          have HFF := Aside0.mk hFf
          have HFE := Aside0.mk hF
          have hn16 : H.length ≤ 16 := by have := HLN.out; omega
          have hfz : ¬ (H.length : Int) < a0 := by omega
          have HN16 := Aside0.mk hn16
          have HPL := Aside0.mk hp
          clear hst hf hF hFf hfr hn16
          go_upto_region 14 with (first
            | (go_at_call 47; (with_reducible refine HIF.out.mono ?_); rintro e w4 ⟨rfl, hb4⟩; have HS4 := Aside0.mk ((HS.out.below HAL.out).below hb4); have HB4 := Aside0.mk (blk_below HBN.out hb4); clear hb4)
            | (go_at_call 49; (with_reducible refine (clockLen H.length g c _).mono ?_); rintro e w5 ⟨rfl, rfl⟩))
          have HNE6 : Aside0 (wo.heap.size ≠ g) := ⟨Ne.symm HS.out.ne⟩
          clear HS HIF HAL HBN
          go_loopg [9] H.length (fun gg s9 wr2 => ∃ (Hx : List CF) (px : Nat), s9 = .int .i64 px ∧ Aside0 (ClkI w wr2 g c (.slice AL L.length cL) Hx L) ∧ Aside0 (wr2.heap[wo.heap.size]? = some (.cells #[.int .i64 kd, .int .i64 av] 60 (0, 0))) ∧ Aside0 (spinC gg Hx px = F ∧ cntM Hx ≤ gg) ∧ Aside0 (Hx.length = H.length ∧ px < H.length))
          case atStart => exact ⟨H, p, rfl, ⟨HS4.out⟩, ⟨HB4.out⟩, ⟨⟨HFE.out.symm, cntM_le H⟩⟩, ⟨⟨rfl, HPL.out⟩⟩⟩
          case round =>
            clear HS4 HB4
            obtain ⟨Hx, px, rfl, HSx, HBx, HSP, HPX⟩ := hrel
            have hpx : px < Hx.length := by have := HPX.out; omega
            have hpz : (px : Int) < (H.length : Int) := by have := HPX.out; omega
            have hp0 : (0 : Int) ≤ (px : Int) := by omega
            have hccx := HSx.out.held.cells px hpx
            have hfx := HSx.out.set (px * 3 + 1)
            have hmod : (((px : Int) + 1).tmod (H.length : Int)) = (((px + 1) % H.length : Nat) : Int) := by
              rw [Int.tmod_eq_emod_of_nonneg (by omega)]
              rfl
            have hn0 : ¬ (H.length : Int) = 0 := by omega
            cases hmk : (rdC Hx px).2.1 with
            | true =>
              rw [hmk] at hccx
              have HUN := Aside0.mk (HSx.out.put (px * 3 + 1) (by omega) (.bool false) (by rw [List.length_set]) (cells3_set Hx px hpx 0 false false).2.1)
              have HBU := Aside0.mk (blk_far HBx.out (p := ⟨g, px * 3 + 1, none⟩) HNE6.out (.bool false))
              have HCU := Aside0.mk (cntM_unm Hx px hpx hmk)
              have HMK := Aside0.mk hmk
              clear hmk
              go_wp2_with (fail)
              go_roundg (gk - 1)
              case measure => have h1 := HSP.out.2; have h2 := HCU.out; omega
              case rel =>
                refine ⟨unm Hx px, (px + 1) % H.length, ?_, ⟨HUN.out⟩, ⟨HBU.out⟩, ⟨⟨?_, ?_⟩⟩, ⟨⟨?_, ?_⟩⟩⟩
                · rw [wrap64_id (by have := HN16.out; have := HPX.out.2; omega) (by have := HN16.out; have := HPX.out.2; omega), hmod]
                · have h := HSP.out.1
                  have hg1 : gk = (gk - 1) + 1 := by have h1 := HSP.out.2; have h2 := HCU.out; omega
                  rw [hg1] at h
                  have h2 : (if (rdC Hx px).2.1 = true then spinC (gk - 1) (unm Hx px) ((px + 1) % Hx.length) else (Hx, px)) = F := h
                  rw [if_pos HMK.out, HPX.out.1] at h2
                  exact h2
                · have h1 := HSP.out.2
                  have h2 := HCU.out
                  omega
                · rw [unm_length]; exact HPX.out.1
                · exact Nat.mod_lt _ (by omega)
            | false =>
              rw [hmk] at hccx
              have hFe : F = (Hx, px) := HSP.out.1.symm.trans (spinC_stop gk Hx px hmk)
              rw [hFe] at HNX
              clear hFe hmk HSP HFF HFE
              have hf0 := HSx.out.set (px * 3)
              have hf2 := HSx.out.set (px * 3 + 2)
              have hka : wr.cell? ⟨wo.heap.size, 1, none⟩ = some (.int .i64 av) := by rw [blk_cell HBx.out]; rfl
              have HS6 := Aside0.mk (HSx.out.lay px hpx av)
              have HB6 := Aside0.mk (blk_far (blk_far (blk_far HBx.out (p := ⟨g, px * 3, none⟩) HNE6.out (.int .i64 av)) (p := ⟨g, px * 3 + 1, none⟩) HNE6.out (.bool false)) (p := ⟨g, px * 3 + 2, none⟩) HNE6.out (.bool false))
              have HQ6 : Aside0 (px < (Hx.set px (av, false, false)).length) := ⟨by rw [List.length_set]; exact hpx⟩
              have HD6 : Aside0 ((rdC (Hx.set px (av, false, false)) px).2.2 = false) := ⟨by rw [rdC_set Hx px hpx]⟩
              have HD7 : Aside0 ((rdC (Hx.set px (av, false, false)) px).1 = av) := ⟨by rw [rdC_set Hx px hpx]⟩
              cases hdx : (rdC Hx px).2.2 with
              | true =>
                rw [hdx] at hccx HNX
                clear hdx
                go_upto_region 22 with (fail)
                generalize (((wr.setCell ⟨g, (px) * 3, none⟩ (.int .i64 av)).setCell ⟨g, (px) * 3 + 1, none⟩ (.bool false)).setCell ⟨g, (px) * 3 + 2, none⟩ (.bool false)) = W6 at HS6 HB6 ⊢
                clear hccx hf0 hfx hf2 hka HSx HBx
                have hcc := HS6.out.held.cells (px) HQ6.out
                rw [HD6.out] at hcc
                have hff := HS6.out.set ((px) * 3 + 1)
                have hfg := HS6.out.set ((px) * 3 + 2)
                have hkd : (W6.setCell ⟨g, (px) * 3 + 1, none⟩ (.bool true)).cell? ⟨wo.heap.size, 0, none⟩ = some (.int .i64 kd) := (by rw [blk_cell (blk_far HB6.out (p := ⟨g, (px) * 3 + 1, none⟩) HNE6.out _)]; rfl)
                have HFIN := Aside0.mk (HS6.out.mark2 (px) HQ6.out (kd == 1))
                go_upto_region 24 with (fail)
                generalize ((W6.setCell ⟨g, (px) * 3 + 1, none⟩ (.bool true)).setCell ⟨g, (px) * 3 + 2, none⟩ (.bool (kd == 1))) = W7 at HFIN ⊢
                clear HS6 hcc hff hfg hkd
                go_wp2_with ((with_reducible refine gate_builtin (b := .append) (xs := #[.tmp 97, .tmp 99]) rfl ?_); at_builtin; refine Kd.R_append (Kd.int .i64) (w0 := w) w.heap.size rfl (.tmp 97) (.tmp 99) 24 2 (.int .i64 0) 8 rfl Try.underlying24 infoCI rfl (by decide) (by omega) (.slice AL L.length cL) L 1 [.int .i64 1] (fun _ => True) (fun _ => False) rfl rfl ?aP (fun _ hk => hk.elim) ?aF ?aO ?aB ?aS ?aL ?_; (case aP => exact rfl); (case aB => exact HFIN.out.bel); (case aF => exact (fun _ _ => trivial)); (case aO => exact HFIN.out.rL); (case aS => exact HFIN.out.bel.size); (case aL => have := HLL.out; omega); intro vap wap ho hb hg hat; have HZ := Aside0.mk (HFIN.out.app ho hb hg); obtain ⟨A5, c5, evap⟩ := Kd.R_slice ho; subst evap; clear ho hb hg hat)
                go_roundg (l1.length - (i + 1))
                case measure => have := HK.out; omega
                case rel => exact ⟨i + 1, g, c, _, _, Hx.set px (av, true, kd == 1), (px + 1) % H.length, L ++ [1], bk + 1, by rw [List.length_set, HPX.out.1], by rw [List.length_append, List.length_singleton], by rw [wrap64_id (by have := HN16.out; have := HPX.out.2; omega) (by have := HN16.out; have := HPX.out.2; omega), hmod], by rw [wrap64_id (by have := HLN.out; have := H60.out; omega) (by have := HLN.out; have := H60.out; omega)], by rw [wrap64_succ (by have := H60.out; omega)], ⟨by have := HK.out; omega⟩, ⟨by rw [HNX.out, if_pos trivial]⟩, ⟨by have h := HZ.out; rw [HD7.out, List.set_set] at h; exact h⟩, ⟨by have := HLN.out; have := HPX.out.1; have := Nat.mod_lt (px + 1) (show 0 < H.length by omega); rw [List.length_append, List.length_singleton, List.length_set]; omega⟩⟩
              | false =>
                rw [hdx] at hccx HNX
                clear hdx
                go_upto_region 22 with (fail)
                generalize (((wr.setCell ⟨g, (px) * 3, none⟩ (.int .i64 av)).setCell ⟨g, (px) * 3 + 1, none⟩ (.bool false)).setCell ⟨g, (px) * 3 + 2, none⟩ (.bool false)) = W6 at HS6 HB6 ⊢
                clear hccx hf0 hfx hf2 hka HSx HBx
                have hcc := HS6.out.held.cells (px) HQ6.out
                rw [HD6.out] at hcc
                have hff := HS6.out.set ((px) * 3 + 1)
                have hfg := HS6.out.set ((px) * 3 + 2)
                have hkd : (W6.setCell ⟨g, (px) * 3 + 1, none⟩ (.bool true)).cell? ⟨wo.heap.size, 0, none⟩ = some (.int .i64 kd) := (by rw [blk_cell (blk_far HB6.out (p := ⟨g, (px) * 3 + 1, none⟩) HNE6.out _)]; rfl)
                have HFIN := Aside0.mk (HS6.out.mark2 (px) HQ6.out (kd == 1))
                go_upto_region 24 with (fail)
                generalize ((W6.setCell ⟨g, (px) * 3 + 1, none⟩ (.bool true)).setCell ⟨g, (px) * 3 + 2, none⟩ (.bool (kd == 1))) = W7 at HFIN ⊢
                clear HS6 hcc hff hfg hkd
                go_wp2_with ((with_reducible refine gate_builtin (b := .append) (xs := #[.tmp 97, .tmp 99]) rfl ?_); at_builtin; refine Kd.R_append (Kd.int .i64) (w0 := w) w.heap.size rfl (.tmp 97) (.tmp 99) 24 2 (.int .i64 0) 8 rfl Try.underlying24 infoCI rfl (by decide) (by omega) (.slice AL L.length cL) L 1 [.int .i64 1] (fun _ => True) (fun _ => False) rfl rfl ?aP (fun _ hk => hk.elim) ?aF ?aO ?aB ?aS ?aL ?_; (case aP => exact rfl); (case aB => exact HFIN.out.bel); (case aF => exact (fun _ _ => trivial)); (case aO => exact HFIN.out.rL); (case aS => exact HFIN.out.bel.size); (case aL => have := HLL.out; omega); intro vap wap ho hb hg hat; have HZ := Aside0.mk (HFIN.out.app ho hb hg); obtain ⟨A5, c5, evap⟩ := Kd.R_slice ho; subst evap; clear ho hb hg hat)
                go_roundg (l1.length - (i + 1))
                case measure => have := HK.out; omega
                case rel => exact ⟨i + 1, g, c, _, _, Hx.set px (av, true, kd == 1), (px + 1) % H.length, L ++ [1], bk, by rw [List.length_set, HPX.out.1], by rw [List.length_append, List.length_singleton], by rw [wrap64_id (by have := HN16.out; have := HPX.out.2; omega) (by have := HN16.out; have := HPX.out.2; omega), hmod], rfl, by rw [wrap64_succ (by have := H60.out; omega)], ⟨by have := HK.out; omega⟩, ⟨by rw [HNX.out, if_neg (by simp), Int.add_zero]⟩, ⟨by have h := HZ.out; rw [HD7.out, List.set_set] at h; exact h⟩, ⟨by have := HLN.out; have := HPX.out.1; have := Nat.mod_lt (px + 1) (show 0 < H.length by omega); rw [List.length_append, List.length_singleton, List.length_set]; omega⟩⟩
    · have hltz : ¬ (i : Int) < (l1.length : Int) := by omega
      have hi2 : i = l1.length := by have := HK.out; omega
      subst hi2
      go_wp2_with (fail)
      go_ret3
      rw [HRC.out]
      exact ⟨_, rfl, HS.out.rL, HS.out.bel⟩
def clkF (a0 : Int) (l1 : List S60) : List Int × Int × Bool := if (1 ≤ a0 ∧ a0 ≤ 16) ∧ okTrace l1 = true then ((runC a0.toNat l1 l1.length).2.1, (runC a0.toNat l1 l1.length).2.2, true) else ([], 0, false)
def impl_ClockRun.f (a0 : Int) (l1 : List S60) : Option (List Int × Int × Bool) := some (clkF a0 l1)
set_option maxHeartbeats 4000000 in
set_option maxRecDepth 100000 in
theorem impl_ClockRun.calls (a0 : Int) (A1 : Option Addr) (c1 : Nat) (l1 : List S60) (r1 : List Int) (r2 : Int) (r3 : Bool) (w : World) (hr1 : Kd.C k60 w A1 l1.length l1) (hc1 : l1.length ≤ c1) (h : impl_ClockRun.f a0 l1 = some (r1, r2, r3)) :
    Calls Try.prog 14 #[.int .i64 a0, .slice A1 l1.length c1] w fun e w' => ∃ v0_ : Value, e = .returned (.tuple #[v0_, .int .i64 r2, .bool r3]) ∧ Kd.R (Kd.int .i64) 2 w' w.heap.size (fun _ => True) v0_ r1 ∧ Below w.heap.size w w' := by
  have h := Option.some.inj h
  by_cases hv : (1 ≤ a0 ∧ a0 ≤ 16) ∧ okTrace l1 = true
  · have e : clkF a0 l1 = ((runC a0.toNat l1 l1.length).2.1, (runC a0.toNat l1 l1.length).2.2, true) := by unfold clkF; rw [if_pos hv]
    rw [e] at h
    simp only [Prod.mk.injEq] at h
    obtain ⟨rfl, rfl, rfl⟩ := h
    exact impl_ClockRun_run a0 A1 c1 l1 w hr1 hc1 hv.1 hv.2
  · have e : clkF a0 l1 = ([], 0, false) := by unfold clkF; rw [if_neg hv]
    rw [e] at h
    simp only [Prod.mk.injEq] at h
    obtain ⟨rfl, rfl, rfl⟩ := h
    clear e
    have HB0 := Aside0.mk (Below.refl w.heap.size w)
    by_cases hin : 1 ≤ a0 ∧ a0 ≤ 16
    · have hok : okTrace l1 = false := by
        cases ho : okTrace l1 with
        | true => exact absurd ⟨hin, ho⟩ hv
        | false => rfl
      have HIN : Aside0 (impl_inRange.f a0 1 16 = some true) := ⟨by unfold impl_inRange.f; rw [if_pos hin.1]; simp [hin.2]⟩
      have HVT := Aside0.mk (fun (W : World) (hb : Below w.heap.size w W) => impl_ValidTrace.calls A1 c1 l1 false W (Kd.C_below hr1 hb) hc1 (by show some (okTrace l1) = some false; rw [hok]))
      clear hr1 hc1 hok hin hv
      go_enter Try.func14, Try.ntmps14
      go_wp2_with (first
        | (go_at_call 45; (with_reducible refine (impl_inRange.calls a0 1 16 true _ HIN.out).mono ?_); rintro e w2 ⟨rfl, ⟨nd2, hw2⟩⟩; have hb2 : Below w.heap.size w w2 := below_at hw2.symm (Below.refl w.heap.size w); have HB2 := Aside0.mk hb2; clear hw2 hb2)
        | (go_at_call 46; (with_reducible refine (HVT.out _ HB2.out).mono ?_); rintro e w3 ⟨rfl, hb3⟩; have HB3 := Aside0.mk (below_step HB2.out hb3); clear hb3))
      go_ret3
      exact ⟨_, rfl, Kd.R_nil _ _ _ _ _, HB3.out⟩
    · have HIN : Aside0 (impl_inRange.f a0 1 16 = some false) := ⟨by
        unfold impl_inRange.f
        by_cases h1 : 1 ≤ a0
        · rw [if_pos h1, decide_eq_false (fun h2 => hin ⟨h1, h2⟩)]
        · rw [if_neg h1]⟩
      clear hr1 hc1 hin hv
      go_enter Try.func14, Try.ntmps14
      go_wp2_with (go_at_call 45; (with_reducible refine (impl_inRange.calls a0 1 16 false _ HIN.out).mono ?_); rintro e w2 ⟨rfl, ⟨nd2, hw2⟩⟩; have hb2 : Below w.heap.size w w2 := below_at hw2.symm (Below.refl w.heap.size w); have HB2 := Aside0.mk hb2; clear hw2 hb2)
      go_ret3
      exact ⟨_, rfl, Kd.R_nil _ _ _ _ _, HB2.out⟩
end Go.Proofs.Yteobbgofbedgdaa.Q
