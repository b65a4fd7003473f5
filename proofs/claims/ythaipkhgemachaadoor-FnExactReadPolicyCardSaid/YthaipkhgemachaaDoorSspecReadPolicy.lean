/- spec.ReadPolicy answers the policy with a text; the text is short enough. -/
import Derived.Test.YthaipkhgemachaaDoorQx0
import Derived.Test.YthaipkhgemachaaDoorSl03Is
import Derived.Test.YthaipkhgemachaaDoorSl03Text
import Derived.Test.YthaipkhgemachaaDoorSsortl
import Derived.Test.YthaipkhgemachaaDoorSown
import Derived.Test.YthaipkhgemachaaDoorSpoltext
import Derived.Test.YthaipkhgemachaaDoorSreadpoldef
namespace Go.Proofs.YthaipkhgemachaaDoor.Q
open Go.RowKit Go.Proofs.YthaipkhgemachaaDoorW.PrintWords Go.Proofs.YthaipkhgemachaaDoorW.PrintLast Go.Proofs.YthaipkhgemachaaDoorW.PrintMore
attribute [local go_sem] max2_int min2_int max_two min_two max_three min_three max_four min_four   -- for this text's walks alone
set_option linter.unusedVariables false
set_option linter.unusedSimpArgs false

/-- The rows so far in a box, and the row begun. -/
structure BoxP (g1 g2 b : Nat) (w W : World) (vH vr : Value) (H : List (List Int)) (r : List Int) : Prop where
  res : W.heap[g1]? = some (.cells #[.slice none 0 0, .slice none 0 0] 25 (0, 0))
  box : W.heap[g2]? = some (.cells #[vH, .slice none 0 0] 25 (0, 0))
  rowH : Kd.S (Kd.slice 2 (Kd.int .i64)) 23 W w.heap.size (fun k => k < b) vH H
  row : Kd.R (Kd.int .i64) 2 W w.heap.size (fun k => b ≤ k) vr r
  bel : Below w.heap.size w W
  far : w.heap.size ≤ g1 ∧ w.heap.size ≤ g2 ∧ g1 ≠ g2
  le : b ≤ W.heap.size
/-- The whole policy in a box. -/
structure BoxF (g1 g2 : Nat) (w W : World) (vH vM : Value) (H : List (List Int)) (M : List Int) : Prop where
  res : W.heap[g1]? = some (.cells #[.slice none 0 0, .slice none 0 0] 25 (0, 0))
  box : W.heap[g2]? = some (.cells #[vH, vM] 25 (0, 0))
  rowH : Kd.S (Kd.slice 2 (Kd.int .i64)) 23 W w.heap.size (fun _ => True) vH H
  rowM : Kd.R (Kd.int .i64) 2 W w.heap.size (fun _ => True) vM M
  bel : Below w.heap.size w W
  far : w.heap.size ≤ g1 ∧ w.heap.size ≤ g2 ∧ g1 ≠ g2
section
variable {g1 g2 b : Nat} {w W W' : World} {vH vr vM : Value} {H : List (List Int)} {r M : List Int}
theorem BoxP.cell (h : BoxP g1 g2 b w W vH vr H r) : W.cell? ⟨g2, 0, none⟩ = some vH := by rw [blk_cell h.box]; rfl
theorem BoxP.app1 {w1 : World} {v1 : Value} {r1 : List Int} (h : BoxP g1 g2 b w W vH vr H r) (ho : Kd.R (Kd.int .i64) 2 w1 w.heap.size (fun k => b ≤ k) v1 r1) (hb : Below w.heap.size w w1) (hg : W.grownBy w1 vr.ownBlock) : BoxP g1 g2 b w w1 vH v1 H r1 := by
  refine ⟨blk_grown h.res hg (Kd.R_ne h.row h.res (by decide)), blk_grown h.box hg (Kd.R_ne h.row h.box (by decide)), Kd.S_grown h.rowH hg (fun k hk e => ?_), ho, hb, h.far, ?_⟩
  · have h1 : b ≤ k := h.row.1 k e.symm
    omega
  · exact Nat.le_trans h.le hg.size
theorem BoxP.app2 {w1 : World} {v1 : Value} (h : BoxP g1 g2 b w W vH vr H r) (ho : Kd.S (Kd.slice 2 (Kd.int .i64)) 23 w1 w.heap.size (fun _ => True) v1 (H ++ [r])) (hb : Below w.heap.size w w1) (hg : W.grownBy w1 vH.ownBlock) : BoxP g1 g2 w1.heap.size w ((w1.setCell ⟨g2, 0, none⟩ v1).alloc (.cells #[] 2)) v1 (.slice (some ⟨w1.heap.size, 0, none⟩) 0 0) (H ++ [r]) [] := by
  have h1 := blk_grown h.res hg (Kd.S_ne h.rowH h.res (by decide))
  have h2 := blk_grown h.box hg (Kd.S_ne h.rowH h.box (by decide))
  have hsz : (w1.setCell ⟨g2, 0, none⟩ v1).heap.size = w1.heap.size := by simp
  refine ⟨blk_alloc (blk_far h1 (by show g1 ≠ g2; exact h.far.2.2) v1) _, blk_alloc (blk_set h2 0 v1) _, ?_, ?_, below_alloc (hb.setCell (p := ⟨g2, 0, none⟩) (by show w.heap.size ≤ g2; exact h.far.2.1) v1) _, h.far, by simp⟩
  · exact Kd.S_alloc (Kd.S_set (Kd.S_mono (ok' := fun k => k < w1.heap.size) (Kd.S_bound ho) (fun k hk => hk.2.2.1)) h2 (by decide) 0 v1) _
  · have ho2 := own_lit (w1.setCell ⟨g2, 0, none⟩ v1) w.heap.size 2 .i64 [] (by rw [hsz]; exact hb.size) (by simp)
    have hr := Kd.R_tight rfl (R_of_own ho2)
    rw [hsz] at hr
    exact Kd.R_mono (ok' := fun k => w1.heap.size ≤ k) (by simpa [nums] using hr) (fun k hk => by simp [Value.ownBlock] at hk; omega)
theorem BoxP.whole (h : BoxP g1 g2 b w W vH vr H r) : BoxF g1 g2 w (W.setCell ⟨g2, 1, none⟩ vr) vH vr H r :=
  ⟨blk_far h.res (by show g1 ≠ g2; exact h.far.2.2) vr, blk_set h.box 1 vr, Kd.S_mono (Kd.S_set h.rowH h.box (by decide) 1 vr) (fun _ _ => trivial), Kd.R_mono (Kd.R_set h.row h.box (by decide) 1 vr) (fun _ _ => trivial), h.bel.setCell (p := ⟨g2, 1, none⟩) (by show w.heap.size ≤ g2; exact h.far.2.1) vr, h.far⟩
theorem BoxF.below (h : BoxF g1 g2 w W vH vM H M) (hb : Below W.heap.size W W') : BoxF g1 g2 w W' vH vM H M :=
  ⟨blk_below h.res hb, blk_below h.box hb, Kd.S_below h.rowH hb, Kd.R_below h.rowM hb, below_step h.bel hb, h.far⟩
theorem BoxF.cell0 (h : BoxF g1 g2 w W vH vM H M) : W.cell? ⟨g2, 0, none⟩ = some vH := by rw [blk_cell h.box]; rfl
theorem BoxF.cell1 (h : BoxF g1 g2 w W vH vM H M) : W.cell? ⟨g2, 1, none⟩ = some vM := by rw [blk_cell h.box]; rfl
theorem BoxF.rcell0 (h : BoxF g1 g2 w W vH vM H M) : W.cell? ⟨g1, 0, none⟩ = some (.slice none 0 0) := by rw [blk_cell h.res]; rfl
theorem BoxF.rcell1 (h : BoxF g1 g2 w W vH vM H M) : W.cell? ⟨g1, 1, none⟩ = some (.slice none 0 0) := by rw [blk_cell h.res]; rfl
/-- The result laid down. -/
theorem BoxF.answer (h : BoxF g1 g2 w W vH vM H M) (u0 u1 : Value) : ((W.setCell ⟨g1, 0, none⟩ u0).setCell ⟨g1, 1, none⟩ u1).heap[g1]? = some (.cells #[u0, u1] 25 (0, 0)) ∧ Kd.S (Kd.slice 2 (Kd.int .i64)) 23 ((W.setCell ⟨g1, 0, none⟩ u0).setCell ⟨g1, 1, none⟩ u1) w.heap.size (fun _ => True) vH H ∧ Kd.R (Kd.int .i64) 2 ((W.setCell ⟨g1, 0, none⟩ u0).setCell ⟨g1, 1, none⟩ u1) w.heap.size (fun _ => True) vM M ∧ Below w.heap.size w ((W.setCell ⟨g1, 0, none⟩ u0).setCell ⟨g1, 1, none⟩ u1) := by
  have h1 := blk_set h.res 0 u0
  exact ⟨blk_set h1 1 u1, Kd.S_set (Kd.S_set h.rowH h.res (by decide) 0 u0) h1 (by decide) 1 u1, Kd.R_set (Kd.R_set h.rowM h.res (by decide) 0 u0) h1 (by decide) 1 u1, (h.bel.setCell (p := ⟨g1, 0, none⟩) (by show w.heap.size ≤ g1; exact h.far.1) u0).setCell (p := ⟨g1, 1, none⟩) (by show w.heap.size ≤ g1; exact h.far.1) u1⟩
end
theorem infoI : (Tryd.prog.info? 2).map (fun i => (i.zero, i.size, i.bytes)) = some (some (.int .i64 0), 1, 8) := by kernel_rfl
theorem infoS : (Tryd.prog.info? 23).map (fun i => (i.zero, i.size, i.bytes)) = some (some (.slice none 0 0), 1, 24) := by kernel_rfl
set_option maxHeartbeats 8000000 in
set_option maxRecDepth 100000 in
theorem spec_l03Read.calls (s : ByteArray) (w : World) (hs : s.size ≤ 1048576) :
    Calls Tryd.prog 9 #[.string s] w fun e w' => ∃ vH vM, e = .returned (.tuple #[.agg #[vH, vM], .bool (srpF s).2.2]) ∧ Kd.S (Kd.slice 2 (Kd.int .i64)) 23 w' w.heap.size (fun _ => True) vH (srpF s).1 ∧ Kd.R (Kd.int .i64) 2 w' w.heap.size (fun _ => True) vM (srpF s).2.1 ∧ Below w.heap.size w w' := by
  have hu := Tryd.underlying25
  by_cases hl : s.size > 60
  · have hlz : (s.size : Int) > 60 := by omega
    go_enter Tryd.func9, Tryd.ntmps9
    go_wp2_with (fail)
    refine bodyPost_ret (results_ct rfl _ _ w.heap.size 25 #[.slice none 0 0, .slice none 0 0] (0, 0) _ rfl (blk_alloc (blk_alloc (blk_new w (.cells #[.slice none 0 0, .slice none 0 0] 25)) _) _) Tryd.underlying25 rfl (by kernel_rfl)) rfl ?_
    rw [show srpF s = ([], [], false) by unfold srpF; rw [if_neg (fun h => by have := h.1; omega)]]
    exact ⟨.slice none 0 0, .slice none 0 0, rfl, Kd.S_nil _ _ _ _ _, Kd.R_nil _ _ _ _ _, below_alloc (below_alloc (below_alloc (Below.refl _ _) _) _) _⟩
  · have hlz : ¬ (s.size : Int) > 60 := by omega
    have HW0 : Aside0 (BoxP w.heap.size (w.heap.size + 1) (w.heap.size + 1 + 1) w (((w.alloc (.cells #[.slice none 0 0, .slice none 0 0] 25)).alloc (.cells #[.slice none 0 0, .slice none 0 0] 25)).alloc (.cells #[] 2)) (.slice none 0 0) (.slice (some ⟨w.heap.size + 1 + 1, 0, none⟩) 0 0) [] []) := ⟨by
        have h1 := blk_new w (.cells #[.slice none 0 0, .slice none 0 0] 25)
        have h2 := blk_alloc (blk_alloc h1 (.cells #[.slice none 0 0, .slice none 0 0] 25)) (.cells #[] 2)
        have h3 := blk_alloc (blk_new (w.alloc (.cells #[.slice none 0 0, .slice none 0 0] 25)) (.cells #[.slice none 0 0, .slice none 0 0] 25)) (.cells #[] 2)
        have ho := own_lit ((w.alloc (.cells #[.slice none 0 0, .slice none 0 0] 25)).alloc (.cells #[.slice none 0 0, .slice none 0 0] 25)) w.heap.size 2 .i64 [] (by simp; omega) (by simp)
        have hr := Kd.R_tight rfl (R_of_own ho)
        refine ⟨by simpa using h2, by simpa using h3, Kd.S_nil _ _ _ _ _, Kd.R_mono (ok' := fun k => w.heap.size + 1 + 1 ≤ k) (by simpa [nums] using hr) (fun k hk => by simp [Value.ownBlock] at hk; omega), below_alloc (below_alloc (below_alloc (Below.refl _ _) _) _) _, ⟨by omega, by omega, by omega⟩, by simp⟩⟩
    go_enter Tryd.func9, Tryd.ntmps9
    go_wp2_with (fail)
    go_loopg [5, 6] s.size (fun gg s5 s6 wr => ∃ (i b : Nat) (vH vr : Value), s5 = vr ∧ s6 = .int .i64 i ∧ Aside0 (i ≤ s.size ∧ s.size - i ≤ gg) ∧ Aside0 (BoxP w.heap.size (w.heap.size + 1) b w wr vH vr (srp s i).1 (srp s i).2))
    case atStart => exact ⟨0, _, _, _, rfl, rfl, ⟨⟨Nat.zero_le _, by omega⟩⟩, ⟨HW0.out⟩⟩
    case round =>
      clear HW0
      obtain ⟨i, b, vH, vr, rfl, rfl, HK, HW⟩ := hrel
      have hcell := HW.out.cell
      obtain ⟨A, c, eqv, hc, hC⟩ := Kd.R_reads HW.out.row
      subst eqv
      obtain ⟨AH, cH, eqH⟩ := Kd.R_slice (Kd.S_R HW.out.rowH)
      subst eqH
      by_cases hlt : i < s.size
      · have hltz : (i : Int) < (s.size : Int) := by omega
        have h0z : (0 : Int) ≤ (i : Int) := by omega
        have hbt := btn_at s i hlt
        have hbr := btn_range s i
        have HSU := Aside0.mk (srp_succ s i hlt)
        obtain ⟨l1, l2, _⟩ := srp_len s i (by omega)
        have HL1 := Aside0.mk (show (srp s i).1.length ≤ 60 by omega)
        have HL2 := Aside0.mk (show (srp s i).2.length ≤ 60 by omega)
        obtain ⟨H, hH⟩ : ∃ H, H = (srp s i).1 := ⟨_, rfl⟩
        obtain ⟨R, hR⟩ : ∃ R, R = (srp s i).2 := ⟨_, rfl⟩
        rw [← hH, ← hR] at HW HSU
        rw [← hH] at HL1 hcell
        rw [← hR] at HL2 hc hC ⊢
        clear hH hR hc hC l1 l2
        by_cases hd : 48 ≤ btn s i ∧ btn s i ≤ 57
        · have hA : ((s[i]'hlt).toNat : Int) ≥ 48 := by omega
          have hAd : decide (((s[i]'hlt).toNat : Int) ≥ 48) = true := decide_eq_true hA
          have hB : ((s[i]'hlt).toNat : Int) ≤ 57 := by omega
          have hBd : decide (((s[i]'hlt).toNat : Int) ≤ 57) = true := decide_eq_true hB
          have HS2 : Aside0 (srp s (i + 1) = (H, R ++ [((s[i]'hlt).toNat : Int) - 48])) := ⟨by rw [HSU.out, if_pos hd, hbt]⟩
          clear hbt hbr hd HSU
          go_wp2_with ((with_reducible refine gate_builtin (b := .append) (xs := #[.tmp 29, .tmp 35]) rfl ?_); at_builtin; refine Kd.R_append (Kd.int .i64) (w0 := w) w.heap.size rfl (.tmp 29) (.tmp 35) 23 2 (.int .i64 0) 8 rfl Tryd.underlying23 infoI rfl (by decide) (by omega) (.slice A R.length c) R (((s[i]'hlt).toNat : Int) - 48) [.int .i64 (((s[i]'hlt).toNat : Int) - 48)] (fun k => b ≤ k) (fun _ => False) rfl rfl ?aP (fun _ hk => hk.elim) ?aF ?aO ?aB ?aS ?aL ?_; (case aP => exact rfl); (case aB => exact HW.out.bel); (case aF => exact (fun k hk => Nat.le_trans HW.out.le hk)); (case aO => exact HW.out.row); (case aS => exact HW.out.bel.size); (case aL => have := HL2.out; omega); intro vap wap ho hb hg hat; have HW3 := Aside0.mk (HW.out.app1 ho hb hg); clear ho hb hg hat)
          go_roundg (s.size - (i + 1))
          case measure => have := HK.out; omega
          case rel => exact ⟨i + 1, b, _, _, rfl, by go_num, ⟨by have := HK.out; omega⟩, ⟨by rw [HS2.out]; exact HW3.out⟩⟩
        · have HS2 : Aside0 (srp s (i + 1) = (H ++ [R], [])) := ⟨by rw [HSU.out, if_neg hd]⟩
          by_cases h48 : 48 ≤ btn s i
          · have hA : ((s[i]'hlt).toNat : Int) ≥ 48 := by omega
            have hAd : decide (((s[i]'hlt).toNat : Int) ≥ 48) = true := decide_eq_true hA
            have hB : ¬ ((s[i]'hlt).toNat : Int) ≤ 57 := by omega
            have hBd : decide (((s[i]'hlt).toNat : Int) ≤ 57) = false := decide_eq_false hB
            clear hbt hbr hd h48 HSU
            go_wp2_with ((with_reducible refine gate_builtin (b := .append) (xs := #[.tmp 38, .tmp 40]) rfl ?_); at_builtin; refine Kd.S_append (Kd.slice 2 (Kd.int .i64)) (w0 := w) w.heap.size rfl (.tmp 38) (.tmp 40) 22 23 (.slice none 0 0) 24 rfl Tryd.underlying22 infoS rfl (by decide) (by omega) (.slice AH H.length cH) H R [.slice A R.length c] (fun _ => True) (fun k => b ≤ k) rfl rfl ?aP ?aK ?aF ?aO ?aB ?aS ?aL ?_; (case aP => exact Kd.M_row HW.out.row); (case aK => exact fun k hk => ⟨trivial, fun e => Nat.not_lt.2 hk ((Kd.S_R HW.out.rowH).1 k e.symm)⟩); (case aB => exact HW.out.bel); (case aF => exact (fun _ _ => trivial)); (case aO => exact Kd.S_mono HW.out.rowH (fun k hk => ⟨trivial, Nat.not_le.2 hk⟩)); (case aS => exact HW.out.bel.size); (case aL => have := HL1.out; omega); intro vap wap ho hb hg hat; obtain ⟨A5, c5, evap⟩ := Kd.S_slice ho; rw [List.length_append, List.length_singleton] at evap; subst evap; have hres3 := blk_grown HW.out.res hg (Kd.S_ne HW.out.rowH HW.out.res (by decide)); have hbox3 := blk_grown HW.out.box hg (Kd.S_ne HW.out.rowH HW.out.box (by decide)); have hcell3 : wap.cell? ⟨w.heap.size + 1, 0, none⟩ = some _ := blk_cell hbox3 0; have hf3 : wap.frozen? ⟨w.heap.size + 1, 0, none⟩ = false := blk_frozen hbox3 0; have HW3 := Aside0.mk (HW.out.app2 ho hb hg); clear ho hb hg hat hres3 hbox3)
            go_roundg (s.size - (i + 1))
            case measure => have := HK.out; omega
            case rel => exact ⟨i + 1, _, _, _, rfl, by go_num, ⟨by have := HK.out; omega⟩, ⟨by rw [HS2.out]; exact HW3.out⟩⟩
          · have hA : ¬ ((s[i]'hlt).toNat : Int) ≥ 48 := by omega
            have hAd : decide (((s[i]'hlt).toNat : Int) ≥ 48) = false := decide_eq_false hA
            clear hbt hbr hd h48 HSU
            go_wp2_with ((with_reducible refine gate_builtin (b := .append) (xs := #[.tmp 38, .tmp 40]) rfl ?_); at_builtin; refine Kd.S_append (Kd.slice 2 (Kd.int .i64)) (w0 := w) w.heap.size rfl (.tmp 38) (.tmp 40) 22 23 (.slice none 0 0) 24 rfl Tryd.underlying22 infoS rfl (by decide) (by omega) (.slice AH H.length cH) H R [.slice A R.length c] (fun _ => True) (fun k => b ≤ k) rfl rfl ?aP ?aK ?aF ?aO ?aB ?aS ?aL ?_; (case aP => exact Kd.M_row HW.out.row); (case aK => exact fun k hk => ⟨trivial, fun e => Nat.not_lt.2 hk ((Kd.S_R HW.out.rowH).1 k e.symm)⟩); (case aB => exact HW.out.bel); (case aF => exact (fun _ _ => trivial)); (case aO => exact Kd.S_mono HW.out.rowH (fun k hk => ⟨trivial, Nat.not_le.2 hk⟩)); (case aS => exact HW.out.bel.size); (case aL => have := HL1.out; omega); intro vap wap ho hb hg hat; obtain ⟨A5, c5, evap⟩ := Kd.S_slice ho; rw [List.length_append, List.length_singleton] at evap; subst evap; have hres3 := blk_grown HW.out.res hg (Kd.S_ne HW.out.rowH HW.out.res (by decide)); have hbox3 := blk_grown HW.out.box hg (Kd.S_ne HW.out.rowH HW.out.box (by decide)); have hcell3 : wap.cell? ⟨w.heap.size + 1, 0, none⟩ = some _ := blk_cell hbox3 0; have hf3 : wap.frozen? ⟨w.heap.size + 1, 0, none⟩ = false := blk_frozen hbox3 0; have HW3 := Aside0.mk (HW.out.app2 ho hb hg); clear ho hb hg hat hres3 hbox3)
            go_roundg (s.size - (i + 1))
            case measure => have := HK.out; omega
            case rel => exact ⟨i + 1, _, _, _, rfl, by go_num, ⟨by have := HK.out; omega⟩, ⟨by rw [HS2.out]; exact HW3.out⟩⟩
      · have hltz : ¬ (i : Int) < (s.size : Int) := by omega
        have hi2 : i = s.size := by have := HK.out; omega
        subst hi2
        obtain ⟨l1, l2, l3⟩ := srp_len s s.size (Nat.le_refl _)
        have hsh : shortPol (srp s s.size).1 (srp s s.size).2 = true := by
          unfold shortPol
          rw [Bool.and_eq_true]
          exact ⟨decide_eq_true (by omega), List.all_eq_true.2 fun y hy => decide_eq_true (by have := l3 y hy; omega)⟩
        obtain ⟨H, hH⟩ : ∃ H, H = (srp s s.size).1 := ⟨_, rfl⟩
        obtain ⟨M, hM⟩ : ∃ M, M = (srp s s.size).2 := ⟨_, rfl⟩
        have hF0 : srpF s = if s.size ≤ 60 ∧ okPol H M = true ∧ polTxt H M = s then (H, M, true) else ([], [], false) := by rw [hH, hM]; rfl
        rw [← hH, ← hM] at HW hsh
        rw [← hH] at hcell
        rw [← hM] at hc hC ⊢
        clear hH hM l1 l2 l3
        have hbc1 : wr.cell? ⟨w.heap.size + 1, 1, none⟩ = some (.slice none 0 0) := (by rw [blk_cell HW.out.box]; rfl)
        have hbf1 : wr.frozen? ⟨w.heap.size + 1, 1, none⟩ = false := blk_frozen HW.out.box 1
        have HF := Aside0.mk HW.out.whole
        have hc0 := HF.out.cell0
        have hc1 := HF.out.cell1
        obtain ⟨AH2, cH2, eqH2, hcH, hCH⟩ := Kd.R_reads (Kd.S_R HF.out.rowH)
        obtain ⟨AM2, cM2, eqM2, hcM, hCM⟩ := Kd.R_reads HF.out.rowM
        cases eqH2
        cases eqM2
        have HIS := Aside0.mk (spec_l03Is.calls (w.heap.size + 1) 0 AH cH H A c M _ hc0 hc1 hCH hcH hCM hcM hsh)
        cases hok : okPol H M with
        | false =>
          rw [hok] at HIS
          have hFv : Aside0 (srpF s = ([], [], false)) := ⟨by rw [hF0, if_neg (fun h => by rw [hok] at h; cases h.2.1)]⟩
          clear hok hc hC hcell hF0 hCH hcH hCM hcM hsh hc0 hc1
          go_wp2_with (go_at_call 21; (with_reducible refine HIS.out.mono ?_); rintro e w5 ⟨rfl, ⟨nd, hw⟩⟩; have HW5 := Aside0.mk (HF.out.below (below_at hw.symm (Below.refl _ _))); have hr0 := HW5.out.rcell0; have hr1 := HW5.out.rcell1; have hf5 : w5.frozen? ⟨w.heap.size, 0, none⟩ = false := blk_frozen HW5.out.res 0; have hf6 : w5.frozen? ⟨w.heap.size, 1, none⟩ = false := blk_frozen HW5.out.res 1; clear hw)
          have hans := HW5.out.answer (.slice none 0 0) (.slice none 0 0)
          refine bodyPost_ret (results_ct rfl _ _ w.heap.size 25 #[.slice none 0 0, .slice none 0 0] (0, 0) _ rfl hans.1 Tryd.underlying25 rfl (by kernel_rfl)) rfl ?_
          rw [hFv.out]
          exact ⟨.slice none 0 0, .slice none 0 0, rfl, Kd.S_nil _ _ _ _ _, Kd.R_nil _ _ _ _ _, hans.2.2.2⟩
        | true =>
          rw [hok] at HIS
          have hdg := okDigs_of hok
          obtain ⟨d1, d2⟩ := Bool.and_eq_true_iff.1 hdg
          obtain ⟨d2, d3⟩ := Bool.and_eq_true_iff.1 d2
          have HTX := Aside0.mk (fun (m : Nat) => spec_l03Text.calls (w.heap.size + 1) 0 AH cH H A c M (World.drewN (wr.setCell ⟨w.heap.size + 1, 1, none⟩ (.slice A M.length c)) m) (by first | exact hc0 | simpa using hc0) (by first | exact hc1 | simpa using hc1) (Kd.C_drewN hCH m) hcH (Kd.C_drewN hCM m) hcM (of_decide_eq_true d3) (fun y hy => List.all_eq_true.1 d2 y hy) d1)
          clear hc hC hcell hCH hcH hCM hcM hsh hc0 hc1 hdg d1 d2 d3
          by_cases ht : polTxt H M = s
          · have hFv : Aside0 (srpF s = (H, M, true)) := ⟨by rw [hF0, if_pos ⟨by omega, hok, ht⟩]⟩
            clear hF0 hok
            go_wp2_with (first | (go_at_call 21; (with_reducible refine HIS.out.mono ?_); rintro e w5 ⟨rfl, ⟨nd, rfl⟩⟩) | (go_at_call 22; (with_reducible refine (HTX.out _).mono ?_); rintro e w6 ⟨rfl, hb6⟩; have HW5 := Aside0.mk ((HF.out.below (pw_below_drewN (Below.refl _ _) nd)).below hb6); have hc0 := HW5.out.cell0; have hc1 := HW5.out.cell1; have hr0 := HW5.out.rcell0; have hr1 := HW5.out.rcell1; have hf5 : w6.frozen? ⟨w.heap.size, 0, none⟩ = false := blk_frozen HW5.out.res 0; have hf6 : w6.frozen? ⟨w.heap.size, 1, none⟩ = false := blk_frozen HW5.out.res 1; clear hb6))
            have hans := HW5.out.answer (.slice AH H.length cH) (.slice A M.length c)
            refine bodyPost_ret (results_ct rfl _ _ w.heap.size 25 #[.slice AH H.length cH, .slice A M.length c] (0, 0) _ rfl hans.1 Tryd.underlying25 rfl (by kernel_rfl)) rfl ?_
            rw [hFv.out]
            exact ⟨_, _, rfl, hans.2.1, hans.2.2.1, hans.2.2.2⟩
          · have hFv : Aside0 (srpF s = ([], [], false)) := ⟨by rw [hF0, if_neg (fun h => ht h.2.2)]⟩
            have htb : ((polTxt H M).toList == s.toList) = false := beq_eq_false_iff_ne.mpr (fun e => ht (rp_ba_ext (by rw [← rp_toList, ← rp_toList]; exact e)))
            clear hF0 hok
            go_wp2_with (first | (go_at_call 21; (with_reducible refine HIS.out.mono ?_); rintro e w5 ⟨rfl, ⟨nd, rfl⟩⟩) | (go_at_call 22; (with_reducible refine (HTX.out _).mono ?_); rintro e w6 ⟨rfl, hb6⟩; have HW5 := Aside0.mk ((HF.out.below (pw_below_drewN (Below.refl _ _) nd)).below hb6); have hc0 := HW5.out.cell0; have hc1 := HW5.out.cell1; have hr0 := HW5.out.rcell0; have hr1 := HW5.out.rcell1; have hf5 : w6.frozen? ⟨w.heap.size, 0, none⟩ = false := blk_frozen HW5.out.res 0; have hf6 : w6.frozen? ⟨w.heap.size, 1, none⟩ = false := blk_frozen HW5.out.res 1; clear hb6))
            have hans := HW5.out.answer (.slice none 0 0) (.slice none 0 0)
            refine bodyPost_ret (results_ct rfl _ _ w.heap.size 25 #[.slice none 0 0, .slice none 0 0] (0, 0) _ rfl hans.1 Tryd.underlying25 rfl (by kernel_rfl)) rfl ?_
            rw [hFv.out]
            exact ⟨.slice none 0 0, .slice none 0 0, rfl, Kd.S_nil _ _ _ _ _, Kd.R_nil _ _ _ _ _, hans.2.2.2⟩
set_option maxHeartbeats 4000000 in
set_option maxRecDepth 100000 in
theorem spec_ReadPolicy.calls (s : ByteArray) (w : World) (hs : s.size ≤ 1048576) :
    Calls Tryd.prog 4 #[.string s] w fun e w' => ∃ vH vM, e = .returned (.tuple #[.agg #[vH, vM], .bool (srpF s).2.2]) ∧ Kd.S (Kd.slice 2 (Kd.int .i64)) 23 w' w.heap.size (fun _ => True) vH (srpF s).1 ∧ Kd.R (Kd.int .i64) 2 w' w.heap.size (fun _ => True) vM (srpF s).2.1 ∧ Below w.heap.size w w' := by
  have hu := Tryd.underlying25
  have HR := Aside0.mk (spec_l03Read.calls s (w.alloc (.cells #[.slice none 0 0, .slice none 0 0] 25)) hs)
  have hbn := blk_new w (.cells #[.slice none 0 0, .slice none 0 0] 25)
  have HBN := Aside0.mk hbn
  clear hbn
  go_enter Tryd.func4, Tryd.ntmps4
  go_wp2_with (go_at_call 9; (with_reducible refine HR.out.mono ?_); rintro e w5 ⟨vH, vM, rfl, hS, hM, hb⟩; obtain ⟨AH, cH, rfl⟩ := Kd.S_slice hS; obtain ⟨AM, cM, rfl⟩ := Kd.R_slice hM; have HS := Aside0.mk hS; have HM := Aside0.mk hM; have HX := Aside0.mk (blk_below HBN.out hb); have hr0 : w5.cell? ⟨w.heap.size, 0, none⟩ = some (.slice none 0 0) := (by rw [blk_cell HX.out]; rfl); have hr1 : w5.cell? ⟨w.heap.size, 1, none⟩ = some (.slice none 0 0) := (by rw [blk_cell HX.out]; rfl); have hf5 : w5.frozen? ⟨w.heap.size, 0, none⟩ = false := blk_frozen HX.out 0; have hf6 : w5.frozen? ⟨w.heap.size, 1, none⟩ = false := blk_frozen HX.out 1; have HB5 := Aside0.mk (below_step (below_alloc (Below.refl w.heap.size w) _) hb); clear hS hM hb)
  obtain ⟨vH, hvH⟩ : ∃ v, v = Value.slice AH (srpF s).1.length cH := ⟨_, rfl⟩
  obtain ⟨vM, hvM⟩ : ∃ v, v = Value.slice AM (srpF s).2.1.length cM := ⟨_, rfl⟩
  rw [← hvH] at HS ⊢
  rw [← hvM] at HM ⊢
  have h1 := blk_set HX.out 0 vH
  have hz : w.heap.size ≤ (w.alloc (.cells #[.slice none 0 0, .slice none 0 0] 25)).heap.size := by simp
  refine bodyPost_ret (results_ct rfl _ _ w.heap.size 25 #[vH, vM] (0, 0) _ rfl (blk_set h1 1 vM) Tryd.underlying25 rfl (by kernel_rfl)) rfl ?_
  exact ⟨vH, vM, rfl, Kd.S_set (Kd.S_set (Kd.S_lower HS.out hz) HX.out (by decide) 0 vH) h1 (by decide) 1 vM, Kd.R_set (Kd.R_set (Kd.R_lower HM.out hz) HX.out (by decide) 0 vH) h1 (by decide) 1 vM, (HB5.out.setCell (p := ⟨w.heap.size, 0, none⟩) (Nat.le_refl _) vH).setCell (p := ⟨w.heap.size, 1, none⟩) (Nat.le_refl _) vM⟩
end Go.Proofs.YthaipkhgemachaaDoor.Q
