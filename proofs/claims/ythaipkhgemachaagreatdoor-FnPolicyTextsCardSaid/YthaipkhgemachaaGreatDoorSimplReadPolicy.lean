/- impl.ReadPolicy answers the policy with a text; the text is short enough, the first variable holds a number. -/
import Derived.Test.YthaipkhgemachaaGreatDoorQx0
import Derived.Test.YthaipkhgemachaaGreatDoorHvalidPolicy
import Derived.Test.YthaipkhgemachaaGreatDoorQx2
import Derived.Test.YthaipkhgemachaaGreatDoorQx3
import Derived.Test.YthaipkhgemachaaGreatDoorSbase
import Derived.Test.YthaipkhgemachaaGreatDoorSpoldef
import Derived.Test.YthaipkhgemachaaGreatDoorSpoltext
import Derived.Test.YthaipkhgemachaaGreatDoorSreadpoldef
import Derived.Test.YthaipkhgemachaaGreatDoorShelf
namespace Go.Proofs.YthaipkhgemachaaGreatDoor.Q
open Go.RowKit Go.Proofs.YthaipkhgemachaaGreatDoorW.PrintWords Go.Proofs.YthaipkhgemachaaGreatDoorW.PrintLast Go.Proofs.YthaipkhgemachaaGreatDoorW.PrintMore
attribute [local go_sem] max2_int min2_int max_two min_two max_three min_three max_four min_four   -- for this text's walks alone
set_option linter.unusedVariables false
set_option linter.unusedSimpArgs false

theorem btn_kit (x : ByteArray) (i : Nat) : bt x (i : Int) = btn x i := rfl
theorem fdg_take (x : ByteArray) (i : Nat) (h : i < x.size) : (fdg x).take (i + 1) = (fdg x).take i ++ [btn x i - 48] := by
  have hl : i < (fdg x).length := by rw [fdg_len]; exact h
  have e : (fdg x)[i]'hl = btn x i - 48 := by
    simp only [fdg, List.getElem_map]
    exact congrArg (fun z : Int => z - 48) (btn_at x i h)
  rw [List.take_succ_eq_append_getElem hl, e]
theorem ev_fromDigits (x : ByteArray) (h : x.size ≤ 1048576) : Ev (fun k => impl_fromDigits.f k x) (fdg x) := by
  unfold impl_fromDigits.f
  have hl := fdg_len x
  refine Ev.up (fun i k => impl_fromDigits.l0 k x ((fdg x).take i) (x.size : Int) (i : Int)) x.size _ ?_ ?_
  · apply Ev.succ
    simp only [impl_fromDigits.l0]
    rw [← hl, List.take_length]
    exact Ev.ite_neg (by omega) (Ev.now _)
  · intro i hi ih
    have hr := btn_range x i
    have hlen : ((fdg x).take i).length = i := by rw [List.length_take]; omega
    rw [fdg_take x i hi] at ih
    apply Ev.succ
    simp only [impl_fromDigits.l0]
    refine Ev.ite_pos (by omega) (Ev.ite_pos (by omega) (Ev.ite_pos (by omega) (Ev.ite_pos (by omega) ?_)))
    rw [wrap64_succ (by omega), btn_kit, wrap64_id (x := btn x i) (by omega) (by omega), wrap64_id (by omega) (by omega)]
    exact ih
/-- The policy read so far in a box: the rows from block n on, the last row below it. -/
structure BoxQ (g1 g2 n : Nat) (w W : World) (vH vM : Value) (H : List (List Int)) (M : List Int) : Prop where
  res : W.heap[g1]? = some (.cells #[.slice none 0 0, .slice none 0 0] 27 (0, 0))
  box : W.heap[g2]? = some (.cells #[vH, vM] 27 (0, 0))
  rowH : Kd.S (Kd.slice 2 (Kd.int .i64)) 25 W w.heap.size (fun k => n ≤ k) vH H
  rowM : Kd.R (Kd.int .i64) 2 W w.heap.size (fun k => k < n) vM M
  bel : Below w.heap.size w W
  far : w.heap.size ≤ g1 ∧ w.heap.size ≤ g2 ∧ g1 ≠ g2
  le : n ≤ W.heap.size
section
variable {g1 g2 n : Nat} {w W W' : World} {vH vM : Value} {H : List (List Int)} {r M : List Int}
theorem BoxQ.below (h : BoxQ g1 g2 n w W vH vM H M) (hb : Below W.heap.size W W') : BoxQ g1 g2 n w W' vH vM H M :=
  ⟨blk_below h.res hb, blk_below h.box hb, Kd.S_below h.rowH hb, Kd.R_below h.rowM hb, below_step h.bel hb, h.far, Nat.le_trans h.le hb.size⟩
theorem BoxQ.cell0 (h : BoxQ g1 g2 n w W vH vM H M) : W.cell? ⟨g2, 0, none⟩ = some vH := by rw [blk_cell h.box]; rfl
theorem BoxQ.cell1 (h : BoxQ g1 g2 n w W vH vM H M) : W.cell? ⟨g2, 1, none⟩ = some vM := by rw [blk_cell h.box]; rfl
theorem BoxQ.rcell0 (h : BoxQ g1 g2 n w W vH vM H M) : W.cell? ⟨g1, 0, none⟩ = some (.slice none 0 0) := by rw [blk_cell h.res]; rfl
theorem BoxQ.rcell1 (h : BoxQ g1 g2 n w W vH vM H M) : W.cell? ⟨g1, 1, none⟩ = some (.slice none 0 0) := by rw [blk_cell h.res]; rfl
theorem BoxQ.grown {w1 : World} (h : BoxQ g1 g2 n w W vH vM H M) (hg : W.grownBy w1 vH.ownBlock) : w1.heap[g1]? = some (.cells #[.slice none 0 0, .slice none 0 0] 27 (0, 0)) ∧ w1.heap[g2]? = some (.cells #[vH, vM] 27 (0, 0)) :=
  ⟨blk_grown h.res hg (Kd.S_ne h.rowH h.res (by decide)), blk_grown h.box hg (Kd.S_ne h.rowH h.box (by decide))⟩
theorem BoxQ.app {w1 : World} {v1 : Value} {H1 : List (List Int)} (h : BoxQ g1 g2 n w W vH vM H M) (ho : Kd.S (Kd.slice 2 (Kd.int .i64)) 25 w1 w.heap.size (fun k => n ≤ k) v1 H1) (hb : Below w.heap.size w w1) (hg : W.grownBy w1 vH.ownBlock) : BoxQ g1 g2 n w (w1.setCell ⟨g2, 0, none⟩ v1) v1 vM H1 M := by
  have h1 := (h.grown hg).1
  have h2 := (h.grown hg).2
  refine ⟨blk_far h1 (by show g1 ≠ g2; exact h.far.2.2) v1, blk_set h2 0 v1, Kd.S_set ho h2 (by decide) 0 v1, Kd.R_set (Kd.R_grown h.rowM hg (fun k hk e => ?_)) h2 (by decide) 0 v1, hb.setCell (p := ⟨g2, 0, none⟩) (by show w.heap.size ≤ g2; exact h.far.2.1) v1, h.far, by simpa using Nat.le_trans h.le hg.size⟩
  have h3 : n ≤ k := (Kd.S_R h.rowH).1 k e.symm
  omega
/-- The result laid down. -/
theorem BoxQ.answer (h : BoxQ g1 g2 n w W vH vM H M) (u0 u1 : Value) : ((W.setCell ⟨g1, 0, none⟩ u0).setCell ⟨g1, 1, none⟩ u1).heap[g1]? = some (.cells #[u0, u1] 27 (0, 0)) ∧ Kd.S (Kd.slice 2 (Kd.int .i64)) 25 ((W.setCell ⟨g1, 0, none⟩ u0).setCell ⟨g1, 1, none⟩ u1) w.heap.size (fun k => n ≤ k) vH H ∧ Kd.R (Kd.int .i64) 2 ((W.setCell ⟨g1, 0, none⟩ u0).setCell ⟨g1, 1, none⟩ u1) w.heap.size (fun k => k < n) vM M ∧ Below w.heap.size w ((W.setCell ⟨g1, 0, none⟩ u0).setCell ⟨g1, 1, none⟩ u1) := by
  have h1 := blk_set h.res 0 u0
  exact ⟨blk_set h1 1 u1, Kd.S_set (Kd.S_set h.rowH h.res (by decide) 0 u0) h1 (by decide) 1 u1, Kd.R_set (Kd.R_set h.rowM h.res (by decide) 0 u0) h1 (by decide) 1 u1, (h.bel.setCell (p := ⟨g1, 0, none⟩) (by show w.heap.size ≤ g1; exact h.far.1) u0).setCell (p := ⟨g1, 1, none⟩) (by show w.heap.size ≤ g1; exact h.far.1) u1⟩
end
theorem infoSq : (Tryz.prog.info? 25).map (fun i => (i.zero, i.size, i.bytes)) = some (some (.slice none 0 0), 1, 24) := by kernel_rfl
set_option maxHeartbeats 16000000 in
set_option maxRecDepth 100000 in
theorem impl_ReadPolicy.calls (s : ByteArray) (m : Int) (w : World) (hs : s.size ≤ 1048576) (hm : w.cell? ⟨0, 0, none⟩ = some (.int .i64 m)) :
    Calls Tryz.prog 7 #[.string s] w fun e w' => ∃ (n : Nat) (vH vM : Value), e = .returned (.tuple #[.agg #[vH, vM], .bool (irpF s).2.2]) ∧ Kd.S (Kd.slice 2 (Kd.int .i64)) 25 w' w.heap.size (fun k => n ≤ k) vH (irpF s).1 ∧ Kd.R (Kd.int .i64) 2 w' w.heap.size (fun k => k < n) vM (irpF s).2.1 ∧ Below w.heap.size w w' := by
  have hu := Tryz.underlying27
  obtain ⟨hz1, hz2⟩ := irp_sizes s
  obtain ⟨hit, hhit⟩ : ∃ x, x = irpH s := ⟨_, rfl⟩
  obtain ⟨ms, hms⟩ : ∃ x, x = irpM s := ⟨_, rfl⟩
  obtain ⟨fd, hfd⟩ : ∃ fd, fd = (irpC s).2.2 := ⟨_, rfl⟩
  have HCM := Aside0.mk (fun (x : ByteArray) (hx : x.size ≤ 1048576) (W : World) => impl_fromDigits.calls (ev_fromDigits x hx).choose x (fdg x) W ((ev_fromDigits x hx).choose_spec _ (Nat.le_refl _)))
  have HZ := Aside0.mk (show hit.size ≤ 1048576 ∧ ms.size ≤ 1048576 from ⟨by rw [hhit]; omega, by rw [hms]; omega⟩)
  clear hz1 hz2
  obtain ⟨w1, hw1⟩ : ∃ w1, w1 = w.alloc (.cells #[.slice none 0 0, .slice none 0 0] 27) := ⟨_, rfl⟩
  have hb1 : Below w.heap.size w w1 := by rw [hw1]; exact below_alloc (Below.refl _ _) _
  have hm1 : w1.cell? ⟨0, 0, none⟩ = some (.int .i64 m) := (hb1.cell (World.block_lt_of_cell? _ _ hm)).trans hm
  have HM := Aside0.mk (fun (W : World) (hb : Below w.heap.size w W) => (hb.cell (World.block_lt_of_cell? _ _ hm)).trans hm)
  have HX1 : Aside0 (w1.heap[w.heap.size]? = some (.cells #[.slice none 0 0, .slice none 0 0] 27 (0, 0))) := ⟨by rw [hw1]; exact blk_new w _⟩
  have hsz1 : w1.heap.size = w.heap.size + 1 := by rw [hw1]; simp
  have HS1 := Aside0.mk hsz1
  have hcut : Calls Tryz.prog 18 #[.string s, .string ⟨#[124]⟩] w1 fun e w' => e = .returned (.tuple #[.string (irpH s), .string (irpM s), .bool (irpC s).2.2]) ∧ ∃ n, w' = w1.drewN n := Tryz.strings_Cut s ⟨#[124]⟩ m w1 (by omega) hm1
  rw [← hhit, ← hms, ← hfd] at hcut
  have HCUT := Aside0.mk hcut
  have HSPL := Aside0.mk (fun (W : World) (hb : Below w.heap.size w W) => Tryz.strings_Split (hit) ⟨#[47]⟩ m W (by have := HZ.out.1; omega) (HM.out W hb) (by decide))
  have HB1 := Aside0.mk hb1
  obtain ⟨L, hL⟩ : ∃ L, L = Go.Lib.splitB ⟨#[47]⟩ 0 (Go.Lib.countB hit ⟨#[47]⟩) hit := ⟨_, rfl⟩
  have HLI : Aside0 (L = irpL s) := ⟨by rw [hL, hhit]; rfl⟩
  have hLn : L.length = Go.Lib.countB hit ⟨#[47]⟩ + 1 := by rw [hL]; exact Go.Lib.splitB_all ⟨#[47]⟩ (by decide) 0 _ _ rfl
  have hLc : L.length ≤ 1048578 := by
    have h1 := Go.Lib.count_le hit.data.toList [47]
    have h2 : hit.data.toList.length = hit.size := by rw [Array.length_toList]; rfl
    have h3 : Go.Lib.countB hit ⟨#[47]⟩ ≤ hit.data.toList.length + 1 := h1
    have := HZ.out.1
    omega
  have HLX : Aside0 (∀ x ∈ L, x.size ≤ 1048576) := ⟨fun x hx => by have h1 := irp_splitB_size ⟨#[47]⟩ _ _ x (by rw [hL] at hx; exact hx); have := HZ.out.1; omega⟩
  have HL := Aside0.mk hL
  have HLN := Aside0.mk hLn
  have HLC := Aside0.mk hLc
  have HMS := Aside0.mk hms
  have HFD := Aside0.mk hfd
  have M0 := Aside0.mk trivial
  clear hL hLn hLc hm hm1 hb1 hsz1 hfd hhit hms hcut
  go_enter Tryz.func7, Tryz.ntmps7
  go_wp2_with (first
    | (have q_ := M0; clear q_; go_at_call 18; rw [← hw1]; (with_reducible refine HCUT.out.mono ?_); rintro e w2 ⟨rfl, nd2, hw2⟩; have hb2 : Below w1.heap.size w1 w2 := below_at hw2.symm (Below.refl _ _); have HB2 := Aside0.mk (below_step HB1.out hb2); have HX2 := Aside0.mk (blk_below HX1.out hb2); have hsz2 : w1.heap.size ≤ w2.heap.size := hb2.size; have HS2 := Aside0.mk hsz2; clear hw2 hb2 hw1 hsz2; clear M0; have M1 := Aside0.mk trivial)
    | (have q_ := M1; clear q_; go_at_call 19; (with_reducible refine (HCM.out ms HZ.out.2 _).mono ?_); rintro e w3 ⟨vM, rfl, hrM, hb3⟩; obtain ⟨AM, cM, rfl⟩ := Kd.R_slice hrM; have HB3 := Aside0.mk (below_step HB2.out hb3); have HX3 := Aside0.mk (blk_below HX2.out hb3); have HRM := Aside0.mk (Kd.R_lower hrM HB2.out.size); have hsz3 : w2.heap.size ≤ w3.heap.size := hb3.size; have HS3 := Aside0.mk hsz3; clear hrM hb3 hsz3; clear M1; have M2 := Aside0.mk trivial)
    | (have q_ := M2; clear q_; go_at_call 20; have hal := below_alloc (Below.refl w3.heap.size w3) (.cells #[.slice none 0 0, .slice AM (fdg ms).length cM] 27); have hbe := below_step HB3.out hal; (with_reducible refine (HSPL.out _ hbe).mono ?_); rintro e w4 ⟨rfl, hw4⟩; have hb4 := (show Below (w3.alloc (.cells #[.slice none 0 0, .slice AM (fdg ms).length cM] 27)).heap.size (w3.alloc (.cells #[.slice none 0 0, .slice AM (fdg ms).length cM] 27)) w4 from by rw [hw4]; exact below_alloc (Below.refl _ _) _); have hz3 : (w3.alloc (.cells #[.slice none 0 0, .slice AM (fdg ms).length cM] 27)).heap.size = w3.heap.size + 1 := (by simp); have HQ4 : Aside0 (BoxQ w.heap.size w3.heap.size (w3.heap.size + 1) w w4 (.slice none 0 0) (.slice AM (fdg ms).length cM) [] (fdg ms)) := ⟨⟨blk_below (blk_alloc HX3.out _) hb4, blk_below (blk_new w3 _) hb4, Kd.S_nil _ _ _ _ _, Kd.R_below (Kd.R_alloc (Kd.R_mono (ok' := fun k => k < w3.heap.size + 1) (Kd.R_bound HRM.out) (fun k hk => by have := hk.2.2.1; omega)) _) hb4, below_step hbe hb4, ⟨Nat.le_refl _, HB3.out.size, by have := HS1.out; have := HS2.out; have := HS3.out; omega⟩, by have := hb4.size; omega⟩⟩; have HWB : Aside0 (w4.heap[w3.heap.size + 1]? = some (.cells ((L.map Value.string).toArray) 9 (0, 0))) := ⟨by rw [hw4, HL.out, ← hz3]; exact blk_new _ _⟩; clear hw4 hb4 hal hbe hz3 HRM HX3 HB3; clear M2; have M3 := Aside0.mk trivial))
  go_loopg [22] L.length (fun gg s22 wr => ∃ (i : Nat) (vH : Value), s22 = .int .i64 i ∧ Aside0 (i ≤ L.length ∧ L.length - i ≤ gg) ∧ Aside0 (BoxQ w.heap.size w3.heap.size (w3.heap.size + 1) w wr vH (.slice AM (fdg ms).length cM) ((L.take i).map fdg) (fdg ms)) ∧ Aside0 (wr.heap[w3.heap.size + 1]? = some (.cells ((L.map Value.string).toArray) 9 (0, 0))))
  case atStart => exact ⟨0, _, rfl, ⟨⟨Nat.zero_le _, by omega⟩⟩, ⟨HQ4.out⟩, ⟨HWB.out⟩⟩
  case round =>
    clear HQ4 HWB
    obtain ⟨i, vH, rfl, HK, HQ, HB⟩ := hrel
    obtain ⟨AH, cH, eqH⟩ := Kd.S_slice HQ.out.rowH
    subst eqH
    by_cases hlt : i < L.length
    · have hltz : (i : Int) < ((Go.Lib.countB hit ⟨#[47]⟩ + 1 : Nat) : Int) := by have := HLN.out; omega
      have h0z : (0 : Int) ≤ (i : Int) := by omega
      have hx : wr.cell? ⟨w3.heap.size + 1, i, none⟩ = some (.string (L[i]'hlt)) := by rw [blk_cell HB.out]; simp [hlt]
      obtain ⟨x, hxx⟩ : ∃ x, x = L[i]'hlt := ⟨_, rfl⟩
      rw [← hxx] at hx
      have HX := Aside0.mk hxx
      have HXS : Aside0 (x.size ≤ 1048576) := ⟨by rw [hxx]; exact HLX.out _ (List.getElem_mem hlt)⟩
      have HTL : Aside0 (((L.take i).map fdg).length ≤ 1048578) := ⟨by rw [List.length_map, List.length_take]; have := HLC.out; omega⟩
      have HNX : Aside0 ((L.take (i + 1)).map fdg = (L.take i).map fdg ++ [fdg x]) := ⟨by rw [List.take_succ_eq_append_getElem hlt, List.map_append, List.map_singleton, hxx]⟩
      clear hxx
      obtain ⟨T, hT⟩ : ∃ T, T = (L.take i).map fdg := ⟨_, rfl⟩
      rw [← hT] at HQ HTL HNX
      clear hT
      go_wp2_with (fail)
      have HQd := Aside0.mk (HQ.out.below (below_drew (Below.refl _ _)))
      have HBd := Aside0.mk (blk_drew HB.out)
      refine start_ (n := 8) (S := fun w' => w'.cell? ⟨w3.heap.size, 0, none⟩ = some (.slice AH T.length cH)) (ds := [7]) #[false, false, false, false, false, false, false, false] (by kernel_rfl) rfl rfl HQd.out.cell0 (fun hHeld => ?_)
      generalize wr.drew = w5 at HQd HBd hHeld ⊢
      refine pure_ (i := 0) (N := some 26) (v := ?_) (a' := ?_) #[true, false, false, false, false, false, false, false] rfl rfl (by kernel_rfl) (fun _ _ _ h => h) (Or.inl ⟨by rfl, ?_⟩) ?_ ?_
      rotate_left
      · intro w'
        go_simp
        with_reducible rfl
      rotate_left
      · simp only [Act.put, List.setIfInBounds_toArray, List.set_cons_zero, List.set_cons_succ, i64_w, i32_w]
        rfl
      refine pure_ (i := 2) (N := some 28) (v := ?_) (a' := ?_) #[true, false, true, false, false, false, false, false] rfl rfl (by kernel_rfl) (fun _ _ _ h => h) (Or.inl ⟨by rfl, ?_⟩) ?_ ?_
      rotate_left
      · intro w'
        go_simp
        with_reducible rfl
      rotate_left
      · simp only [Act.put, List.setIfInBounds_toArray, List.set_cons_zero, List.set_cons_succ, i64_w, i32_w]
        rfl
      refine take_ (i := 1) (N := some 27) (v := ?_) (a' := ?_) #[true, true, true, false, false, false, false, false] rfl rfl (by kernel_rfl) (fun _ _ _ h => h) (Or.inl ⟨by rfl, ?_⟩) hHeld ?_ ?_
      rotate_left
      · intro w' s0
        go_simp
        with_reducible rfl
      rotate_left
      · simp only [Act.put, List.setIfInBounds_toArray, List.set_cons_zero, List.set_cons_succ, i64_w, i32_w]
        rfl
      refine one_ (i := 3) (N := some 29) #[true, true, true, true, false, false, false, false] rfl rfl (by kernel_rfl) (by decide) (fun K hK => ?_)
      refine goes_ Tryz.func19 (by kernel_rfl) rfl #[.string x] (by rfl) rfl rfl (by (try simp only [List.map_toArray, List.map_cons, List.map_nil]); first | done | rfl) ?_
      with_reducible refine (HCM.out x HXS.out _).mono ?_
      rintro e w6 ⟨vr, rfl, hr, hb⟩
      refine ⟨_, rfl, ?_⟩
      obtain ⟨Ar, cr, evr⟩ := Kd.R_slice hr
      subst evr
      have HQ6 := Aside0.mk (HQd.out.below hb)
      have HB6 := Aside0.mk (blk_below HBd.out hb)
      have HR6 := Aside0.mk (Kd.R_lower (Kd.R_mono (ok' := fun k => w5.heap.size ≤ k) (Kd.R_bound hr) (fun k hk => hk.2.1)) HQd.out.bel.size)
      have HB5 := Aside0.mk hb
      clear hr hb
      refine hK.out _ _ HQ6.out.cell0 (fun hHeld => ?_)
      clear hK K
      refine norm_ (a' := ?_) ?_ ?_
      rotate_left
      · show Act.put _ (some 29) _ = _
        simp only [Act.put, List.setIfInBounds_toArray, List.set_cons_zero, List.set_cons_succ, i64_w, i32_w]
        rfl
      refine one_ (i := 4) (N := some 30) #[true, true, true, true, true, false, false, false] rfl rfl (by kernel_rfl) (by decide) (fun K hK => ?_)
      refine value_ (w1 := ?_) (v := ?_) (by rfl) rfl ?_ ?_
      rotate_left 2
      · go_simp
        constructor
        · rfl
        · rfl
      refine hK.out _ _ ((blk_cell (blk_alloc HQ6.out.box _) 0).trans rfl) (fun hHeld => ?_)
      clear hK K
      refine norm_ (a' := ?_) ?_ ?_
      rotate_left
      · show Act.put _ (some 30) _ = _
        simp only [Act.put, List.setIfInBounds_toArray, List.set_cons_zero, List.set_cons_succ, i64_w, i32_w]
        rfl
      refine one_ (i := 5) (N := some 31) #[true, true, true, true, true, true, false, false] rfl rfl (by kernel_rfl) (by decide) (fun K hK => ?_)
      refine Kd.S_append_step (Kd.slice 2 (Kd.int .i64)) (w0 := w) w.heap.size (by rfl) (.tmp 27) (.tmp 30) 24 25 (.slice none 0 0) 24 rfl Tryz.underlying24 infoSq rfl (by decide) (by omega) (.slice AH T.length cH) T (fdg x) [.slice Ar (fdg x).length cr] (fun k => w3.heap.size + 1 ≤ k) (fun k => w5.heap.size ≤ k) rfl rfl ?aP ?aK ?aF ?aO ?aB ?aS ?aL ?_
      (case aP => exact Kd.M_row HR6.out)
      (case aK => exact fun k hk => ⟨Nat.le_trans HQd.out.le hk, fun e => Nat.not_lt.2 hk ((Kd.S_R (Kd.S_bound HQd.out.rowH)).1 k e.symm).2.2.1⟩)
      (case aF => exact fun k hk => Nat.le_trans HQ6.out.le hk)
      (case aO => exact Kd.S_below (Kd.S_mono (Kd.S_bound HQd.out.rowH) (fun k hk => ⟨hk.1, Nat.not_le.2 hk.2.2.1⟩)) HB5.out)
      (case aB => exact HQ6.out.bel)
      (case aS => exact HQ6.out.bel.size)
      (case aL => have := HTL.out; omega)
      intro vap w7 ho hb7 hg hat
      obtain ⟨A7, c7, evap⟩ := Kd.S_slice ho
      rw [List.length_append, List.length_singleton] at evap
      subst evap
      have hbox7 := (HQ6.out.grown hg).2
      have HQ8 := Aside0.mk (HQ6.out.app ho hb7 hg)
      have HB8 := Aside0.mk (blk_far (p := ⟨w3.heap.size, 0, none⟩) (blk_grown HB6.out hg (Kd.S_ne HQ6.out.rowH HB6.out (by decide))) (by show w3.heap.size + 1 ≠ w3.heap.size; omega) (.slice A7 (T.length + 1) c7))
      refine hK.out _ _ ((blk_cell hbox7 0).trans rfl) (fun hHeld => ?_)
      clear ho hb7 hg hat
      clear hK K
      refine norm_ (a' := ?_) ?_ ?_
      rotate_left
      · show Act.put _ (some 31) _ = _
        simp only [Act.put, List.setIfInBounds_toArray, List.set_cons_zero, List.set_cons_succ, i64_w, i32_w]
        rfl
      refine pure_ (i := 6) (N := some 32) (v := ?_) (a' := ?_) #[true, true, true, true, true, true, true, false] rfl rfl (by kernel_rfl) (fun _ _ _ h => h) (Or.inl ⟨by rfl, ?_⟩) ?_ ?_
      rotate_left
      · intro w'
        go_simp
        with_reducible rfl
      rotate_left
      · simp only [Act.put, List.setIfInBounds_toArray, List.set_cons_zero, List.set_cons_succ, i64_w, i32_w]
        rfl
      refine last_ (i := 7) (N := none) #[true, true, true, true, true, true, true, true] rfl rfl (by kernel_rfl) (by decide) (fun K hK => ?_)
      have hs28 : w7.cell? ⟨w3.heap.size, 0, none⟩ = some (.slice AH T.length cH) := (blk_cell hbox7 0).trans rfl
      have hfs28 := blk_frozen hbox7 0
      clear hbox7
      refine skip_ (w1 := ?_) (by rfl) rfl ?_ ?_
      rotate_left
      · go_simp
        rfl
      refine hK.out _ _ ?_
      clear hK K
      refine done_ (by kernel_rfl) ?_
      try go_wp2
      go_roundg (L.length - (i + 1))
      case measure => have := HK.out; omega
      case rel => exact ⟨i + 1, _, by rw [wrap64_succ (by have := HLC.out; omega)], ⟨by have := HK.out; omega⟩, ⟨by rw [HNX.out]; exact HQ8.out⟩, ⟨HB8.out⟩⟩
    · have hltz : ¬ (i : Int) < ((Go.Lib.countB hit ⟨#[47]⟩ + 1 : Nat) : Int) := by have := HLN.out; omega
      have hi2 : i = L.length := by have := HK.out; omega
      subst hi2
      rw [List.take_length] at HQ
      have hF0 : irpF s = if fd = true ∧ okPol (L.map fdg) (fdg ms) = true ∧ polTxt (L.map fdg) (fdg ms) = s then (L.map fdg, fdg ms, true) else ([], [], false) := by
        rw [HLI.out, HMS.out, HFD.out]; rfl
      obtain ⟨H, hH⟩ : ∃ H, H = L.map fdg := ⟨_, rfl⟩
      have HHL : Aside0 (H.length = L.length) := ⟨by rw [hH, List.length_map]⟩
      obtain ⟨M, hM⟩ : ∃ M, M = fdg ms := ⟨_, rfl⟩
      rw [← hH, ← hM] at HQ hF0
      clear hH hM
      have hr0 := HQ.out.rcell0
      have hr1 := HQ.out.rcell1
      have hf5 : wr.frozen? ⟨w.heap.size, 0, none⟩ = false := blk_frozen HQ.out.res 0
      have hf6 : wr.frozen? ⟨w.heap.size, 1, none⟩ = false := blk_frozen HQ.out.res 1
      cases fd with
      | false =>
        have hFv : Aside0 (irpF s = ([], [], false)) := ⟨by rw [hF0, if_neg (fun h => by cases h.1)]⟩
        clear hF0
        go_wp2_with (fail)
        have hans := HQ.out.answer (.slice none 0 0) (.slice none 0 0)
        refine bodyPost_ret (results_ct rfl _ _ w.heap.size 27 #[.slice none 0 0, .slice none 0 0] (0, 0) _ rfl hans.1 Tryz.underlying27 rfl (by kernel_rfl)) rfl ?_
        rw [hFv.out]
        exact ⟨0, .slice none 0 0, .slice none 0 0, rfl, Kd.S_nil _ _ _ _ _, Kd.R_nil _ _ _ _ _, hans.2.2.2⟩
      | true =>
        have hc0 := HQ.out.cell0
        have hc1 := HQ.out.cell1
        obtain ⟨AH2, cH2, eqH2, hcH, hCH⟩ := Kd.R_reads (Kd.S_R HQ.out.rowH)
        obtain ⟨AM2, cM2, eqM2, hcM, hCM⟩ := Kd.R_reads HQ.out.rowM
        cases eqH2
        cases eqM2
        have HVP := Aside0.mk (impl_ValidPolicy.calls AH cH H AM cM M _ wr hCH hcH hCM hcM (show impl_ValidPolicy.f H M = some (okPol H M) from rfl))
        cases hok : okPol H M with
        | false =>
          have hFv : Aside0 (irpF s = ([], [], false)) := ⟨by rw [hF0, if_neg (fun h => by rw [hok] at h; cases h.2.1)]⟩
          rw [hok] at HVP
          clear hF0 hok hCH hcH hCM hcM
          go_wp2_with (go_at_call 14; (with_reducible refine HVP.out.mono ?_); rintro e w8 ⟨rfl, hb8⟩; have HQ8 := Aside0.mk (HQ.out.below hb8); clear hr0 hr1 hf5 hf6; have hr0 := HQ8.out.rcell0; have hr1 := HQ8.out.rcell1; have hf5 : w8.frozen? ⟨w.heap.size, 0, none⟩ = false := blk_frozen HQ8.out.res 0; have hf6 : w8.frozen? ⟨w.heap.size, 1, none⟩ = false := blk_frozen HQ8.out.res 1; clear hb8)
          have hans := HQ8.out.answer (.slice none 0 0) (.slice none 0 0)
          refine bodyPost_ret (results_ct rfl _ _ w.heap.size 27 #[.slice none 0 0, .slice none 0 0] (0, 0) _ rfl hans.1 Tryz.underlying27 rfl (by kernel_rfl)) rfl ?_
          rw [hFv.out]
          exact ⟨0, .slice none 0 0, .slice none 0 0, rfl, Kd.S_nil _ _ _ _ _, Kd.R_nil _ _ _ _ _, hans.2.2.2⟩
        | true =>
          rw [hok] at HVP
          have hev := ev_policyText H M (okDigs_of hok)
          have HTX := Aside0.mk (fun (W : World) (hb : Below wr.heap.size wr W) => impl_policyText.calls hev.choose AH cH H AM cM M _ W (Kd.C_below hCH hb) hcH (Kd.C_below hCM hb) hcM (hev.choose_spec _ (Nat.le_refl _)))
          clear hev hCH hcH hCM hcM
          have N0 := Aside0.mk trivial
          by_cases ht : polTxt H M = s
          · have hFv : Aside0 (irpF s = (H, M, true)) := ⟨by rw [hF0, if_pos ⟨rfl, hok, ht⟩]⟩
            clear hF0 hok
            go_wp2_with (first | (have q_ := N0; clear q_; go_at_call 14; (with_reducible refine HVP.out.mono ?_); rintro e w8 ⟨rfl, hb8⟩; have HQ8 := Aside0.mk (HQ.out.below hb8); have HB8 := Aside0.mk hb8; clear hc0 hc1 hb8; have hc0 := HQ8.out.cell0; have hc1 := HQ8.out.cell1; clear N0; have N1 := Aside0.mk trivial) | (have q_ := N1; clear q_; go_at_call 17; (with_reducible refine (HTX.out _ HB8.out).mono ?_); rintro e w9 ⟨rfl, hb9⟩; have HQ9 := Aside0.mk (HQ8.out.below hb9); clear hc0 hc1 hr0 hr1 hf5 hf6 hb9; have hc0 := HQ9.out.cell0; have hc1 := HQ9.out.cell1; have hr0 := HQ9.out.rcell0; have hr1 := HQ9.out.rcell1; have hf5 : w9.frozen? ⟨w.heap.size, 0, none⟩ = false := blk_frozen HQ9.out.res 0; have hf6 : w9.frozen? ⟨w.heap.size, 1, none⟩ = false := blk_frozen HQ9.out.res 1; clear N1; have N2 := Aside0.mk trivial))
            have hans := HQ9.out.answer (.slice AH H.length cH) (.slice AM M.length cM)
            refine bodyPost_ret (results_ct rfl _ _ w.heap.size 27 #[.slice AH H.length cH, .slice AM M.length cM] (0, 0) _ rfl hans.1 Tryz.underlying27 rfl (by kernel_rfl)) rfl ?_
            rw [hFv.out]
            exact ⟨_, _, _, rfl, hans.2.1, hans.2.2.1, hans.2.2.2⟩
          · have hFv : Aside0 (irpF s = ([], [], false)) := ⟨by rw [hF0, if_neg (fun h => ht h.2.2)]⟩
            have htb : ((polTxt H M).toList == s.toList) = false := beq_eq_false_iff_ne.mpr (fun e => ht (rp_ba_ext (by rw [← rp_toList, ← rp_toList]; exact e)))
            clear hF0 hok
            go_wp2_with (first | (have q_ := N0; clear q_; go_at_call 14; (with_reducible refine HVP.out.mono ?_); rintro e w8 ⟨rfl, hb8⟩; have HQ8 := Aside0.mk (HQ.out.below hb8); have HB8 := Aside0.mk hb8; clear hc0 hc1 hb8; have hc0 := HQ8.out.cell0; have hc1 := HQ8.out.cell1; clear N0; have N1 := Aside0.mk trivial) | (have q_ := N1; clear q_; go_at_call 17; (with_reducible refine (HTX.out _ HB8.out).mono ?_); rintro e w9 ⟨rfl, hb9⟩; have HQ9 := Aside0.mk (HQ8.out.below hb9); clear hc0 hc1 hr0 hr1 hf5 hf6 hb9; have hc0 := HQ9.out.cell0; have hc1 := HQ9.out.cell1; have hr0 := HQ9.out.rcell0; have hr1 := HQ9.out.rcell1; have hf5 : w9.frozen? ⟨w.heap.size, 0, none⟩ = false := blk_frozen HQ9.out.res 0; have hf6 : w9.frozen? ⟨w.heap.size, 1, none⟩ = false := blk_frozen HQ9.out.res 1; clear N1; have N2 := Aside0.mk trivial))
            have hans := HQ9.out.answer (.slice none 0 0) (.slice none 0 0)
            refine bodyPost_ret (results_ct rfl _ _ w.heap.size 27 #[.slice none 0 0, .slice none 0 0] (0, 0) _ rfl hans.1 Tryz.underlying27 rfl (by kernel_rfl)) rfl ?_
            rw [hFv.out]
            exact ⟨0, .slice none 0 0, .slice none 0 0, rfl, Kd.S_nil _ _ _ _ _, Kd.R_nil _ _ _ _ _, hans.2.2.2⟩
end Go.Proofs.YthaipkhgemachaaGreatDoor.Q
