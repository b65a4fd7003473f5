/- impl.policyOf answers the policy whose rows two functions tell; no conditions beyond those written. -/
import Derived.Test.YthaipkhgemachaaGreatDoorQx0
import Derived.Test.YthaipkhgemachaaGreatDoorQx2
import Derived.Test.YthaipkhgemachaaGreatDoorSbase
import Derived.Shelf.Abstract
namespace Go.Proofs.YthaipkhgemachaaGreatDoor.Q
open Go.RowKit Go.Proofs.YthaipkhgemachaaGreatDoorW.PrintWords Go.Proofs.YthaipkhgemachaaGreatDoorW.PrintLast Go.Proofs.YthaipkhgemachaaGreatDoorW.PrintMore
attribute [local go_sem] max2_int min2_int max_two min_two max_three min_three max_four min_four   -- for this text's walks alone
set_option linter.unusedVariables false
set_option linter.unusedSimpArgs false

theorem infoPq : (Tryz.prog.info? 25).map (fun i => (i.zero, i.size, i.bytes)) = some (some (.slice none 0 0), 1, 24) := by kernel_rfl
theorem grow_new {w W W' : World} {row : Option Nat} {g : Nat} (h : w.grownBy W row) (k : W.grownBy W' (some g)) (hg : w.heap.size ≤ g) : w.grownBy W' row :=
  ⟨k.os.trans h.os, k.tape.trans h.tape, k.output.trans h.output, Nat.le_trans h.size k.size, fun i hi hne => (k.block i (Nat.lt_of_lt_of_le hi h.size) (fun e => by cases e; omega)).trans (h.block i hi hne)⟩
theorem grow_below {w W W' : World} {row : Option Nat} (h : w.grownBy W row) (k : Below W.heap.size W W') : w.grownBy W' row :=
  ⟨k.os.trans h.os, k.tape.trans h.tape, k.output.trans h.output, Nat.le_trans h.size k.size, fun i hi hne => (k.block i (Nat.lt_of_lt_of_le hi h.size)).trans (h.block i hi hne)⟩
theorem grow_then {w W W' : World} {row : Option Nat} (h : w.grownBy W row) (k : W.grownBy W' row) : w.grownBy W' row :=
  ⟨k.os.trans h.os, k.tape.trans h.tape, k.output.trans h.output, Nat.le_trans h.size k.size, fun i hi hne => (k.block i (Nat.lt_of_lt_of_le hi h.size) hne).trans (h.block i hi hne)⟩
theorem grow_set {w W : World} {row : Option Nat} (h : w.grownBy W row) {p : Addr} (hp : w.heap.size ≤ p.block) (v : Value) : w.grownBy (W.setCell p v) row := by
  have hs : (W.setCell p v).heap.size = W.heap.size := by simp
  have hb := (Below.refl w.heap.size W).setCell (p := p) hp v
  exact ⟨hb.os.trans h.os, hb.tape.trans h.tape, hb.output.trans h.output, by rw [hs]; exact h.size, fun i hi hne => (hb.block i hi).trans (h.block i hi hne)⟩
/-- The policy being made: the result's box, its own box with the rows so far. -/
structure PolW (g1 g2 : Nat) (row : Option Nat) (w W : World) (vH vM : Value) (H : List (List Int)) : Prop where
  res : W.heap[g1]? = some (.cells #[.slice none 0 0, .slice none 0 0] 27 (0, 0))
  box : W.heap[g2]? = some (.cells #[vH, vM] 27 (0, 0))
  rowH : Kd.R (Kd.slice 2 (Kd.int .i64)) 25 W w.heap.size (fun _ => True) vH H
  gro : w.grownBy W row
  far : w.heap.size ≤ g1 ∧ w.heap.size ≤ g2 ∧ g1 ≠ g2
section
variable {g1 g2 : Nat} {row : Option Nat} {w W W' : World} {vH vM : Value} {H : List (List Int)}
theorem PolW.grow (h : PolW g1 g2 row w W vH vM H) (hr : ∀ k, row = some k → k < w.heap.size) (hg : W.grownBy W' row) : PolW g1 g2 row w W' vH vM H :=
  ⟨blk_grown h.res hg (fun e => by have := hr _ e.symm; have := h.far.1; omega), blk_grown h.box hg (fun e => by have := hr _ e.symm; have := h.far.2.1; omega), Kd.R_mono (Kd.R_grown (Kd.R_bound h.rowH) hg (fun k hk e => by have := hr _ e.symm; have := hk.2.1; omega)) (fun _ _ => trivial), grow_then h.gro hg, h.far⟩
theorem PolW.below (h : PolW g1 g2 row w W vH vM H) (hb : Below W.heap.size W W') : PolW g1 g2 row w W' vH vM H :=
  ⟨blk_below h.res hb, blk_below h.box hb, Kd.R_below h.rowH hb, grow_below h.gro hb, h.far⟩
theorem PolW.cell0 (h : PolW g1 g2 row w W vH vM H) : W.cell? ⟨g2, 0, none⟩ = some vH := by rw [blk_cell h.box]; rfl
theorem PolW.cell1 (h : PolW g1 g2 row w W vH vM H) : W.cell? ⟨g2, 1, none⟩ = some vM := by rw [blk_cell h.box]; rfl
theorem PolW.rcell0 (h : PolW g1 g2 row w W vH vM H) : W.cell? ⟨g1, 0, none⟩ = some (.slice none 0 0) := by rw [blk_cell h.res]; rfl
theorem PolW.rcell1 (h : PolW g1 g2 row w W vH vM H) : W.cell? ⟨g1, 1, none⟩ = some (.slice none 0 0) := by rw [blk_cell h.res]; rfl
theorem PolW.app {w1 : World} {v1 : Value} {H1 : List (List Int)} (h : PolW g1 g2 row w W vH vM H) (hr : ∀ k, row = some k → k < w.heap.size) (ho : Kd.R (Kd.slice 2 (Kd.int .i64)) 25 w1 w.heap.size (fun _ => True) v1 H1) (hg : W.grownBy w1 vH.ownBlock) :
    w1.heap[g2]? = some (.cells #[vH, vM] 27 (0, 0)) ∧ PolW g1 g2 row w (w1.setCell ⟨g2, 0, none⟩ v1) v1 vM H1 := by
  have h1 := blk_grown h.res hg (Kd.R_ne h.rowH h.res (by decide))
  have h2 := blk_grown h.box hg (Kd.R_ne h.rowH h.box (by decide))
  have hgr : w.grownBy w1 row := by
    rcases hv : vH.ownBlock with _ | g
    · rw [hv] at hg
      exact grow_below h.gro ⟨hg.os, hg.tape, hg.output, hg.size, fun k hk => hg.block k hk (by simp)⟩
    · rw [hv] at hg
      exact grow_new h.gro hg (Kd.R_base h.rowH g hv)
  exact ⟨h2, blk_far h1 (by show g1 ≠ g2; exact h.far.2.2) v1, blk_set h2 0 v1, Kd.R_set ho h2 (by decide) 0 v1, grow_set hgr (p := ⟨g2, 0, none⟩) h.far.2.1 v1, h.far⟩
theorem PolW.setM {vN : Value} {M : List Int} (h : PolW g1 g2 row w W vH vM H) (hm : Kd.R (Kd.int .i64) 2 W w.heap.size (fun _ => True) vN M) :
    PolW g1 g2 row w (W.setCell ⟨g2, 1, none⟩ vN) vH vN H ∧ Kd.R (Kd.int .i64) 2 (W.setCell ⟨g2, 1, none⟩ vN) w.heap.size (fun _ => True) vN M :=
  ⟨⟨blk_far h.res (by show g1 ≠ g2; exact h.far.2.2) vN, blk_set h.box 1 vN, Kd.R_set h.rowH h.box (by decide) 1 vN, grow_set h.gro (p := ⟨g2, 1, none⟩) h.far.2.1 vN, h.far⟩, Kd.R_set hm h.box (by decide) 1 vN⟩
theorem PolW.answer {M : List Int} (h : PolW g1 g2 row w W vH vM H) (hm : Kd.R (Kd.int .i64) 2 W w.heap.size (fun _ => True) vM M) :
    (((W.setCell ⟨g1, 0, none⟩ vH).setCell ⟨g1, 1, none⟩ vM).heap[g1]? = some (.cells #[vH, vM] 27 (0, 0))) ∧ Kd.R (Kd.slice 2 (Kd.int .i64)) 25 ((W.setCell ⟨g1, 0, none⟩ vH).setCell ⟨g1, 1, none⟩ vM) w.heap.size (fun _ => True) vH H ∧ Kd.R (Kd.int .i64) 2 ((W.setCell ⟨g1, 0, none⟩ vH).setCell ⟨g1, 1, none⟩ vM) w.heap.size (fun _ => True) vM M ∧ w.grownBy ((W.setCell ⟨g1, 0, none⟩ vH).setCell ⟨g1, 1, none⟩ vM) row :=
  ⟨blk_set (blk_set h.res 0 vH) 1 vM, Kd.R_set (Kd.R_set h.rowH h.res (by decide) 0 vH) (blk_set h.res 0 vH) (by decide) 1 vM, Kd.R_set (Kd.R_set hm h.res (by decide) 0 vH) (blk_set h.res 0 vH) (by decide) 1 vM, grow_set (grow_set h.gro (p := ⟨g1, 0, none⟩) h.far.1 vH) (p := ⟨g1, 1, none⟩) h.far.1 vM⟩
end
set_option maxHeartbeats 16000000 in
set_option maxRecDepth 100000 in
theorem policyOf_calls (hf mf : Nat) (hb mb : Array Value) (egh : ∀ args W, (callFunc hf args).run Tryz.prog W = .ok (.enter hf args) W) (egm : ∀ args W, (callFunc mf args).run Tryz.prog W = .ok (.enter mf args) W) (n : Nat) (h1 : 1 ≤ n) (h6 : n ≤ 6) (row : Option Nat) (rows : Nat → List Int) (mrow : List Int) (w : World) (hrow : ∀ k, row = some k → k < w.heap.size) (I : Nat → World → Prop)
    (hI : ∀ i W W', I i W → (∀ k, k < w.heap.size → W'.heap[k]? = W.heap[k]?) → I i W') (h0 : I 0 w)
    (hH : ∀ i W, i < n → I i W → w.heap.size ≤ W.heap.size → Calls Tryz.prog hf (#[.int .i64 (i : Int)] ++ hb) W fun e W' => ∃ v, e = .returned v ∧ Kd.R (Kd.int .i64) 2 W' W.heap.size (fun _ => True) v (rows i) ∧ W.grownBy W' row ∧ I (i + 1) W')
    (hM : ∀ W, I n W → w.heap.size ≤ W.heap.size → Calls Tryz.prog mf mb W fun e W' => ∃ v, e = .returned v ∧ Kd.R (Kd.int .i64) 2 W' W.heap.size (fun _ => True) v mrow ∧ W.grownBy W' row ∧ I (n + 1) W') :
    Calls Tryz.prog 24 #[.int .i64 (n : Int), .func (.func hf) #[] hb, .func (.func mf) #[] mb] w fun e w' => ∃ vH vM : Value, e = .returned (.tuple #[.agg #[vH, vM], .bool true]) ∧ Kd.R (Kd.slice 2 (Kd.int .i64)) 25 w' w.heap.size (fun _ => True) vH ((List.range n).map rows) ∧ Kd.R (Kd.int .i64) 2 w' w.heap.size (fun _ => True) vM mrow ∧ w.grownBy w' row := by
  have hu := Tryz.underlying27
  have HIW := Aside0.mk (fun (W : World) => impl_isWays.calls (n : Int) true W (by show (impl_inRange.f _ 1 6).bind _ = _; unfold impl_inRange.f; rw [if_pos (by omega), decide_eq_true (by omega)]; rfl))
  have HRW := Aside0.mk hrow
  have HI := Aside0.mk hI
  have HH := Aside0.mk hH
  have HM := Aside0.mk hM
  have H0 := Aside0.mk h0
  have HN := Aside0.mk (And.intro h1 h6)
  obtain ⟨w1, hw1⟩ : ∃ w1, w1 = w.alloc (.cells #[.slice none 0 0, .slice none 0 0] 27) := ⟨_, rfl⟩
  have HW1 := Aside0.mk hw1
  clear hrow hI hH hM h0 h1 h6 hw1
  go_enter Tryz.func24, Tryz.ntmps24
  go_wp2_with (go_at_call 36; rw [← HW1.out]; (with_reducible refine (HIW.out w1).mono ?_); rintro e w2 ⟨rfl, ⟨nd, hw2⟩⟩; have HW2 := Aside0.mk hw2; clear hw2)
  have hz1 : w1.heap.size = w.heap.size + 1 := by rw [HW1.out]; simp
  have hb12 : Below w1.heap.size w1 w2 := below_at HW2.out.symm (Below.refl _ _)
  have hz2 : w1.heap.size ≤ w2.heap.size := hb12.size
  have hb02 : Below w.heap.size w w2 := below_step (by rw [HW1.out]; exact below_alloc (Below.refl _ _) _) hb12
  have HQ3 : Aside0 (PolW w.heap.size w2.heap.size row w (w2.alloc (.cells #[.slice none 0 0, .slice none 0 0] 27)) (.slice none 0 0) (.slice none 0 0) []) := ⟨by
    refine ⟨blk_alloc (blk_below (by rw [HW1.out]; exact blk_new w _) hb12) _, blk_new w2 _, Kd.R_nil _ _ _ _ _, ?_, ⟨Nat.le_refl _, by omega, by omega⟩⟩
    exact grown_of_below (below_alloc hb02 _) row⟩
  have HI3 : Aside0 (I 0 (w2.alloc (.cells #[.slice none 0 0, .slice none 0 0] 27))) := ⟨HI.out 0 w _ H0.out (fun k hk => (below_alloc hb02 _).block k hk)⟩
  obtain ⟨G2, hG2⟩ : ∃ G2, G2 = w2.heap.size := ⟨_, rfl⟩
  rw [← hG2] at HQ3 ⊢
  have HG2 := Aside0.mk hG2
  obtain ⟨w3, hw3⟩ : ∃ w3, w3 = w2.alloc (.cells #[.slice none 0 0, .slice none 0 0] 27) := ⟨_, rfl⟩
  rw [← hw3] at HQ3 HI3 ⊢
  clear hz1 hb12 hz2 hb02 hG2 hw3
  go_loopg [16] n (fun gg s16 wr => ∃ (i : Nat) (vH : Value), s16 = .int .i64 i ∧ Aside0 (i ≤ n ∧ n - i ≤ gg) ∧ Aside0 (PolW w.heap.size G2 row w wr vH (.slice none 0 0) ((List.range i).map rows)) ∧ Aside0 (I i wr))
  case atStart => exact ⟨0, _, rfl, ⟨⟨Nat.zero_le _, by omega⟩⟩, ⟨HQ3.out⟩, ⟨HI3.out⟩⟩
  case round =>
    clear HQ3 HI3
    obtain ⟨i, vH, rfl, HK, HQ, HJ⟩ := hrel
    obtain ⟨AH, cH, eqH⟩ := Kd.R_slice HQ.out.rowH
    subst eqH
    by_cases hlt : i < n
    · have hltz : (i : Int) < (n : Int) := by omega
      have HNX : Aside0 ((List.range (i + 1)).map rows = (List.range i).map rows ++ [rows i]) := ⟨by rw [List.range_succ, List.map_append, List.map_singleton]⟩
      have HTL : Aside0 (((List.range i).map rows).length ≤ 10) := ⟨by rw [List.length_map, List.length_range]; have := HN.out; omega⟩
      obtain ⟨T, hT⟩ : ∃ T, T = (List.range i).map rows := ⟨_, rfl⟩
      rw [← hT] at HQ HTL HNX
      clear hT
      go_wp2_with (fail)
      have HQd := Aside0.mk (HQ.out.below (below_drew (Below.refl _ _)))
      have HJd := Aside0.mk (HI.out i wr wr.drew HJ.out (fun k _ => rfl))
      refine start_ (n := 9) (S := fun w' => w'.cell? ⟨G2, 0, none⟩ = some (.slice AH T.length cH)) (ds := [8]) #[false, false, false, false, false, false, false, false, false] (by kernel_rfl) rfl rfl HQd.out.cell0 (fun hHeld => ?_)
      generalize wr.drew = w5 at HQd HJd hHeld ⊢
      refine pure_ (i := 0) (N := some 19) (v := ?_) (a' := ?_) #[true, false, false, false, false, false, false, false, false] rfl rfl (by kernel_rfl) (fun _ _ _ h => h) (Or.inl ⟨by rfl, ?_⟩) ?_ ?_
      rotate_left
      · intro w'
        go_simp
        with_reducible rfl
      rotate_left
      · simp only [Act.put, List.setIfInBounds_toArray, List.set_cons_zero, List.set_cons_succ, i64_w, i32_w]
        rfl
      refine pure_ (i := 2) (N := some 21) (v := ?_) (a' := ?_) #[true, false, true, false, false, false, false, false, false] rfl rfl (by kernel_rfl) (fun _ _ _ h => h) (Or.inl ⟨by rfl, ?_⟩) ?_ ?_
      rotate_left
      · intro w'
        go_simp
        with_reducible rfl
      rotate_left
      · simp only [Act.put, List.setIfInBounds_toArray, List.set_cons_zero, List.set_cons_succ, i64_w, i32_w]
        rfl
      refine pure_ (i := 3) (N := some 22) (v := ?_) (a' := ?_) #[true, false, true, true, false, false, false, false, false] rfl rfl (by kernel_rfl) (fun _ _ _ h => h) (Or.inl ⟨by rfl, ?_⟩) ?_ ?_
      rotate_left
      · intro w'
        go_simp
        with_reducible rfl
      rotate_left
      · simp only [Act.put, List.setIfInBounds_toArray, List.set_cons_zero, List.set_cons_succ, i64_w, i32_w]
        rfl
      refine take_ (i := 1) (N := some 20) (v := ?_) (a' := ?_) #[true, true, true, true, false, false, false, false, false] rfl rfl (by kernel_rfl) (fun _ _ _ h => h) (Or.inl ⟨by rfl, ?_⟩) hHeld ?_ ?_
      rotate_left
      · intro w' s0
        go_simp
        with_reducible rfl
      rotate_left
      · simp only [Act.put, List.setIfInBounds_toArray, List.set_cons_zero, List.set_cons_succ, i64_w, i32_w]
        rfl
      refine one_ (i := 4) (N := some 23) #[true, true, true, true, true, false, false, false, false] rfl rfl (by kernel_rfl) (by decide) (fun K hK => ?_)
      refine call_ hf (#[.int .i64 (i : Int)] ++ hb) (by rfl) rfl (by simp [execOp, resolve, invoke, egh, Act.eval, go_sem]) ?_
      with_reducible refine (HH.out i w5 hlt HJd.out HQd.out.gro.size).mono ?_
      rintro e w6 ⟨vr, rfl, hr, hg6, hi6⟩
      refine ⟨_, rfl, ?_⟩
      obtain ⟨Ar, cr, evr⟩ := Kd.R_slice hr
      subst evr
      have HQ6 := Aside0.mk (HQd.out.grow HRW.out hg6)
      have HR6 := Aside0.mk (Kd.R_lower (Kd.R_mono (ok' := fun k => w5.heap.size ≤ k) (Kd.R_bound hr) (fun k hk => hk.2.1)) HQd.out.gro.size)
      have HJ6 := Aside0.mk hi6
      have HS6 := Aside0.mk hg6.size
      clear hr hg6 hi6
      refine hK.out _ _ HQ6.out.cell0 (fun hHeld => ?_)
      clear hK K
      refine norm_ (a' := ?_) ?_ ?_
      rotate_left
      · show Act.put _ (some 23) _ = _
        simp only [Act.put, List.setIfInBounds_toArray, List.set_cons_zero, List.set_cons_succ, i64_w, i32_w]
        rfl
      refine one_ (i := 5) (N := some 24) #[true, true, true, true, true, true, false, false, false] rfl rfl (by kernel_rfl) (by decide) (fun K hK => ?_)
      refine value_ (w1 := ?_) (v := ?_) (by rfl) rfl ?_ ?_
      rotate_left 2
      · go_simp
        constructor
        · rfl
        · rfl
      refine hK.out _ _ ((blk_cell (blk_alloc HQ6.out.box _) 0).trans rfl) (fun hHeld => ?_)
      clear hK K
      refine norm_ (a' := ?_) ?_ ?_
      rotate_left
      · show Act.put _ (some 24) _ = _
        simp only [Act.put, List.setIfInBounds_toArray, List.set_cons_zero, List.set_cons_succ, i64_w, i32_w]
        rfl
      refine one_ (i := 6) (N := some 25) #[true, true, true, true, true, true, true, false, false] rfl rfl (by kernel_rfl) (by decide) (fun K hK => ?_)
      refine Kd.R_append_step (Kd.slice 2 (Kd.int .i64)) (w0 := w6) w.heap.size (by rfl) (.tmp 20) (.tmp 24) 24 25 (.slice none 0 0) 24 rfl Tryz.underlying24 infoPq rfl (by decide) (by omega) (.slice AH T.length cH) T (rows i) [.slice Ar (rows i).length cr] (fun _ => True) (fun k => w5.heap.size ≤ k) rfl rfl ?aP ?aK ?aF ?aO ?aB ?aS ?aL ?_
      (case aP => exact ⟨_, rfl, HR6.out⟩)
      (case aK => exact fun k hk => ⟨trivial, fun e => Nat.not_lt.2 hk (Kd.R_lt HQd.out.rowH k e.symm)⟩)
      (case aF => exact fun _ _ => trivial)
      (case aO => exact HQ6.out.rowH)
      (case aB => exact Below.refl _ _)
      (case aS => exact HQ6.out.gro.size)
      (case aL => have := HTL.out; omega)
      intro vap w7 ho hb7 hg hat
      obtain ⟨A7, c7, evap⟩ := Kd.R_slice ho
      rw [List.length_append, List.length_singleton] at evap
      subst evap
      obtain ⟨hbox7, hq8⟩ := HQ6.out.app HRW.out ho hg
      have HQ8 := Aside0.mk hq8
      have HJ8 : Aside0 (I (i + 1) (w7.setCell ⟨G2, 0, none⟩ (.slice A7 (T.length + 1) c7))) := ⟨HI.out (i + 1) w6 _ HJ6.out (fun k hk => (Below.heap_setCell _ ⟨G2, 0, none⟩ _ k (by show k ≠ G2; have := HQ6.out.far.2.1; omega)).trans (hb7.block k hk))⟩
      refine hK.out _ _ ((blk_cell hbox7 0).trans rfl) (fun hHeld => ?_)
      clear ho hb7 hg hat hq8
      clear hK K
      refine norm_ (a' := ?_) ?_ ?_
      rotate_left
      · show Act.put _ (some 25) _ = _
        simp only [Act.put, List.setIfInBounds_toArray, List.set_cons_zero, List.set_cons_succ, i64_w, i32_w]
        rfl
      refine pure_ (i := 7) (N := some 26) (v := ?_) (a' := ?_) #[true, true, true, true, true, true, true, true, false] rfl rfl (by kernel_rfl) (fun _ _ _ h => h) (Or.inl ⟨by rfl, ?_⟩) ?_ ?_
      rotate_left
      · intro w'
        go_simp
        with_reducible rfl
      rotate_left
      · simp only [Act.put, List.setIfInBounds_toArray, List.set_cons_zero, List.set_cons_succ, i64_w, i32_w]
        rfl
      refine last_ (i := 8) (N := none) #[true, true, true, true, true, true, true, true, true] rfl rfl (by kernel_rfl) (by decide) (fun K hK => ?_)
      have hs28 : w7.cell? ⟨G2, 0, none⟩ = some (.slice AH T.length cH) := (blk_cell hbox7 0).trans rfl
      have hfs28 := blk_frozen hbox7 0
      clear hbox7
      refine skip_ (w1 := ?_) (by rfl) rfl ?_ ?_
      rotate_left
      · go_simp
        rfl
      refine hK.out _ _ ?_
      clear hK K
      refine done_ (by kernel_rfl) ?_
      try go_wp2
      go_roundg (n - (i + 1))
      case measure => have := HK.out; omega
      case rel => exact ⟨i + 1, _, by rw [wrap64_succ (by have := HN.out; omega)], ⟨by have := HK.out; omega⟩, ⟨by rw [HNX.out]; exact HQ8.out⟩, ⟨HJ8.out⟩⟩
    · have hltz : ¬ (i : Int) < (n : Int) := by omega
      obtain rfl : i = n := by have := HK.out; omega
      obtain ⟨H, hH⟩ : ∃ H, H = (List.range i).map rows := ⟨_, rfl⟩
      rw [← hH] at HQ
      have HHH := Aside0.mk hH
      clear hH
      go_upto_region 10 with (go_at_fn mf; refine (HM.out wr HJ.out HQ.out.gro.size).mono ?_; rintro e w8 ⟨vm, rfl, hm, hg8, hi8⟩; obtain ⟨AM, cM, eM⟩ := Kd.R_slice hm; subst eM; have HQ8 := Aside0.mk (HQ.out.grow HRW.out hg8); have HM8 := Aside0.mk (Kd.R_lower hm HQ.out.gro.size); have hc1 := HQ8.out.cell1; have hf1 := blk_frozen HQ8.out.box 1; clear hm hg8 hi8)
      obtain ⟨hq9, hm9⟩ := HQ8.out.setM HM8.out
      generalize (w8.setCell ⟨G2, 1, none⟩ (.slice AM mrow.length cM)) = w9 at hq9 hm9 ⊢
      have HQ9 := Aside0.mk hq9
      have HM9 := Aside0.mk hm9
      clear hc1 hf1 hq9 hm9
      have hc0 := HQ9.out.cell0
      have hc1 := HQ9.out.cell1
      have hr0 := HQ9.out.rcell0
      have hr1 := HQ9.out.rcell1
      have hf5 := blk_frozen HQ9.out.res 0
      have hf6 := blk_frozen HQ9.out.res 1
      go_wp2_with (fail)
      have hans := HQ9.out.answer HM9.out
      refine bodyPost_ret (results_ct rfl _ _ w.heap.size 27 #[.slice AH H.length cH, .slice AM mrow.length cM] (0, 0) _ rfl hans.1 Tryz.underlying27 rfl (by kernel_rfl)) rfl ?_
      refine ⟨_, _, rfl, ?_, hans.2.2.1, hans.2.2.2⟩
      rw [← HHH.out]
      exact hans.2.1
end Go.Proofs.YthaipkhgemachaaGreatDoor.Q
