/- laws.FnExactReadPolicy answers true for all arguments where the first variable holds a number. -/
import Derived.Test.YthaipkhgemachaaDoorQx0
import Derived.Test.YthaipkhgemachaaDoorQx1
import Derived.Test.YthaipkhgemachaaDoorSbase
import Derived.Test.YthaipkhgemachaaDoorSeqi
import Derived.Test.YthaipkhgemachaaDoorSheldrows
import Derived.Test.YthaipkhgemachaaDoorSimplReadPolicy
import Derived.Test.YthaipkhgemachaaDoorSmarkrows
import Derived.Test.YthaipkhgemachaaDoorSmarks
import Derived.Test.YthaipkhgemachaaDoorSreadpol
import Derived.Test.YthaipkhgemachaaDoorSreadpoldef
import Derived.Test.YthaipkhgemachaaDoorSspecReadPolicy
namespace Go.Proofs.YthaipkhgemachaaDoor.Q
open Go.RowKit Go.Proofs.YthaipkhgemachaaDoorW.PrintWords Go.Proofs.YthaipkhgemachaaDoorW.PrintLast Go.Proofs.YthaipkhgemachaaDoorW.PrintMore
attribute [local go_sem] max2_int min2_int max_two min_two max_three min_three max_four min_four   -- for this text's walks alone
set_option linter.unusedVariables false
set_option linter.unusedSimpArgs false

theorem impl_ReadPolicy.all (s : ByteArray) (m : Int) (w : World) (hs : s.size ≤ 1048576) (hm : w.cell? ⟨0, 0, none⟩ = some (.int .i64 m)) :
    Calls Tryd.prog 5 #[.string s] w fun e w' => ∃ (n : Nat) (vH vM : Value), e = .returned (.tuple #[.agg #[vH, vM], .bool (srpF s).2.2]) ∧ Kd.S (Kd.slice 2 (Kd.int .i64)) 23 w' w.heap.size (fun k => n ≤ k) vH (srpF s).1 ∧ Kd.R (Kd.int .i64) 2 w' w.heap.size (fun k => k < n) vM (srpF s).2.1 ∧ Below w.heap.size w w' := by
  rw [← rp_same s]
  exact impl_ReadPolicy.calls s m w hs hm
theorem srpF_small (s : ByteArray) : (srpF s).1.length ≤ 6 ∧ (∀ y ∈ (srpF s).1, y.length ≤ 6) ∧ (srpF s).2.1.length ≤ 6 := by
  unfold srpF
  split
  · rename_i h
    have := okPol_facts h.2.1
    exact ⟨this.2.2.2.1, this.2.2.2.2.1, this.2.2.2.2.2⟩
  · exact ⟨Nat.zero_le _, (fun (y : List Int) (hy : y ∈ ([] : List (List Int))) => absurd hy List.not_mem_nil), Nat.zero_le _⟩
theorem sumLen_six (H : List (List Int)) (h : ∀ y ∈ H, y.length ≤ 6) : sumLen H ≤ 6 * H.length := by
  induction H with
  | nil => exact Nat.le_refl _
  | cons y H ih =>
    have h1 := h y (by simp)
    have h2 := ih (fun z hz => h z (List.mem_cons_of_mem _ hz))
    show y.length + sumLen H ≤ 6 * (H.length + 1)
    omega
theorem ev_eqPolicy_own (H : List (List Int)) (M : List Int) (hH : H.length ≤ 6) (hin : ∀ y ∈ H, y.length ≤ 6) (hM : M.length ≤ 6) : Ev (fun k => laws_eqPolicy.f k H M H M) true := by
  unfold laws_eqPolicy.f
  exact Ev.bind (ev_eqRows H (by omega) (fun y hy => by have := hin y hy; omega)) (Ev.ite_pos rfl (Ev.bind (ev_eqJ_same M (by omega)) (Ev.ite_pos rfl (Ev.now _))))
theorem ev_heldPolicy (H : List (List Int)) (M : List Int) (hH : H.length ≤ 6) (hin : ∀ y ∈ H, y.length ≤ 6) (hM : M.length ≤ 6) : Ev (fun k => laws_heldPolicy.f k (markRows H 1) (ups (1 + (sumLen H : Int)) M.length) 1) (1 + (sumLen H : Int) + (M.length : Int)) := by
  have := sumLen_six H hin
  unfold laws_heldPolicy.f
  exact Ev.bind (ev_heldRows H 1 (by omega) (fun y hy => by have := hin y hy; omega) (by omega) (by omega)) (Ev.ite_neg (by omega) (Ev.bind (ev_heldInt64S _ _ (by omega) (by omega) (by omega)) (Ev.ite_neg (by omega) (Ev.now _))))
theorem laws_heldPolicy_len (k : Nat) (A : Option Addr) (c n : Nat) (A2 : Option Addr) (c2 n2 : Nat) (G : List (List Int)) (N : List Int) (a r : Int) (w : World) {base : Nat} {ok ok2 : Nat → Prop} (hS : Kd.S (Kd.slice 2 (Kd.int .i64)) 23 w base ok (.slice A n c) G) (hR : Kd.R (Kd.int .i64) 2 w base ok2 (.slice A2 n2 c2) N) (h : laws_heldPolicy.f k G N a = some r) :
    Calls Tryd.prog 8 #[.agg #[.slice A n c, .slice A2 n2 c2], .int .i64 a] w fun e w' => e = .returned (.int .i64 r) ∧ Below w.heap.size w w' := by
  obtain ⟨A', c', he, hcl, hC⟩ := Kd.R_reads (Kd.S_R hS)
  obtain ⟨A2', c2', he2, hcl2, hC2⟩ := Kd.R_reads hR
  have h2 := laws_heldPolicy.calls k A' c' G A2' c2' N a r w hC hcl hC2 hcl2 h
  rw [← he, ← he2] at h2
  exact h2
set_option maxHeartbeats 4000000 in
set_option maxRecDepth 100000 in
theorem laws_markPolicy.calls (P Q : Nat → Prop) (A : Option Addr) (c : Nat) (A2 : Option Addr) (c2 : Nat) (H : List (List Int)) (M : List Int) (w0 w : World) (hPQ : ∀ k, P k → ¬ Q k) (hPw : ∀ k, P k → k < w.heap.size) (hQw : ∀ k, Q k → k < w.heap.size) (hB : Below w0.heap.size w0 w)
    (hS : Kd.S (Kd.slice 2 (Kd.int .i64)) 23 w w0.heap.size P (.slice A H.length c) H) (hR : Kd.R (Kd.int .i64) 2 w w0.heap.size Q (.slice A2 M.length c2) M) (hH : H.length ≤ 6) (hin : ∀ y ∈ H, y.length ≤ 6) (hM : M.length ≤ 6) :
    Calls Tryd.prog 7 #[.agg #[.slice A H.length c, .slice A2 M.length c2], .int .i64 1] w fun e w' => e = .returned (.int .i64 (1 + (sumLen H : Int) + (M.length : Int))) ∧ Kd.S (Kd.slice 2 (Kd.int .i64)) 23 w' w0.heap.size P (.slice A H.length c) (markRows H 1) ∧ Kd.R (Kd.int .i64) 2 w' w0.heap.size (fun _ => True) (.slice A2 M.length c2) (ups (1 + (sumLen H : Int)) M.length) ∧ Below w0.heap.size w0 w' ∧ (∀ k, k < w.heap.size → ¬ P k → ¬ Q k → w'.heap[k]? = w.heap[k]?) := by
  have hu := Tryd.underlying25
  have h6 := sumLen_six H hin
  obtain ⟨kM, eM⟩ := ev_markInt64S M (1 + (sumLen H : Int)) (by omega) (by omega) (by omega)
  have HEM := Aside0.mk (eM kM (Nat.le_refl _))
  obtain ⟨w1, hw1⟩ : ∃ w1, w1 = w.alloc (.cells #[.slice A H.length c, .slice A2 M.length c2] 25) := ⟨_, rfl⟩
  have hal : Below w.heap.size w w1 := by rw [hw1]; exact below_alloc (Below.refl _ _) _
  have HAL := Aside0.mk hal
  have HB1 := Aside0.mk (below_step hB hal)
  have HS1 := Aside0.mk (Kd.S_below hS hal)
  have HR1 := Aside0.mk (Kd.R_below hR hal)
  have HX1 : Aside0 (w1.heap[w.heap.size]? = some (.cells #[.slice A H.length c, .slice A2 M.length c2] 25 (0, 0))) := ⟨by rw [hw1]; exact blk_new w _⟩
  have HPQ := Aside0.mk hPQ
  have HPW := Aside0.mk hPw
  have HQW := Aside0.mk hQw
  have HSZ : Aside0 (w1.heap.size = w.heap.size + 1) := ⟨by rw [hw1]; simp⟩
  have HIN := Aside0.mk hin
  clear eM hal hB hS hR hPQ hPw hQw hin
  have M0 := Aside0.mk trivial
  go_enter Tryd.func7, Tryd.ntmps7
  go_wp2_with (first
    | (have q_ := M0; clear q_; go_at_call 17; rw [← hw1]; (with_reducible refine (laws_markInt64SS.calls P (.slice A H.length c) H 1 w0 w1 HB1.out HS1.out (by decide) (by omega) (fun y hy => by have := HIN.out y hy; omega)).mono ?_); rintro e w2 ⟨rfl, hS2, hb2, hk2⟩; have HS2 := Aside0.mk hS2; have HB2 := Aside0.mk hb2; have HK2 := Aside0.mk hk2; have hx2 : w2.heap[w.heap.size]? = _ := (hk2.2 w.heap.size (by have := HSZ.out; omega) (fun hp => by have := HPW.out _ hp; omega)).trans HX1.out; have hc1 : w2.cell? ⟨w.heap.size, 1, none⟩ = some (.slice A2 M.length c2) := (by rw [blk_cell hx2]; rfl); have HR2 := Aside0.mk (Kd.R_step HR1.out (fun k hk hlt => hk2.2 k hlt (fun hp => HPQ.out k hp hk))); clear hS2 hb2 hk2 hx2 hw1; clear M0; have M1 := Aside0.mk trivial)
    | (have q_ := M1; clear q_; go_at_call 18; (with_reducible refine (laws_markInt64S.calls kM Q (.slice A2 M.length c2) M (1 + (sumLen H : Int)) _ _ w0 w2 HB2.out HR2.out HEM.out).mono ?_); rintro e w3 ⟨rfl, hR3, hb3, hk3⟩; have HS3 := Aside0.mk (Kd.S_step HS2.out (fun k hk hlt => hk3.2 k hlt (fun hq => HPQ.out k hk hq))); have HR3 := Aside0.mk hR3; have HB3 := Aside0.mk hb3; have HK3 := Aside0.mk hk3; clear hR3 hb3 hk3; clear M1; have M2 := Aside0.mk trivial))
  go_ret
  refine ⟨rfl, HS3.out, Kd.R_mono HR3.out (fun _ _ => trivial), HB3.out, fun k hk hp hq => ?_⟩
  have e1 : w1.heap[k]? = w.heap[k]? := HAL.out.block k hk
  have h1 : k < w1.heap.size := by have := HSZ.out; omega
  have e2 := HK2.out.2 k h1 hp
  have e3 := HK3.out.2 k (Nat.lt_of_lt_of_le h1 HK2.out.1) hq
  rw [e3, e2, e1]
/-- Two policies in boxes: the one that was told, and the one that is marked. -/
structure RdP (w1 w2 : Nat) (w W : World) (okH okM : Nat → Prop) (vH vM uH uM : Value) (H : List (List Int)) (M : List Int) (G : List (List Int)) (N : List Int) : Prop where
  rowH : Kd.S (Kd.slice 2 (Kd.int .i64)) 23 W w.heap.size (fun k => k < w1) vH H
  rowM : Kd.R (Kd.int .i64) 2 W w.heap.size (fun k => k < w1) vM M
  ownH : Kd.S (Kd.slice 2 (Kd.int .i64)) 23 W w.heap.size okH uH G
  ownM : Kd.R (Kd.int .i64) 2 W w.heap.size okM uM N
  box : W.heap[w1]? = some (.cells #[vH, vM] 25 (0, 0))
  gbox : W.heap[w2]? = some (.cells #[uH, uM] 25 (0, 0))
  bel : Below w.heap.size w W
section
variable {w1 w2 : Nat} {w W W' : World} {okH okM : Nat → Prop} {vH vM uH uM : Value} {H : List (List Int)} {M : List Int} {G : List (List Int)} {N : List Int}
theorem RdP.below (h : RdP w1 w2 w W okH okM vH vM uH uM H M G N) (hb : Below W.heap.size W W') : RdP w1 w2 w W' okH okM vH vM uH uM H M G N :=
  ⟨Kd.S_below h.rowH hb, Kd.R_below h.rowM hb, Kd.S_below h.ownH hb, Kd.R_below h.ownM hb, blk_below h.box hb, blk_below h.gbox hb, below_step h.bel hb⟩
theorem RdP.cW0 (h : RdP w1 w2 w W okH okM vH vM uH uM H M G N) : W.cell? ⟨w1, 0, none⟩ = some vH := by rw [blk_cell h.box]; rfl
theorem RdP.cW1 (h : RdP w1 w2 w W okH okM vH vM uH uM H M G N) : W.cell? ⟨w1, 1, none⟩ = some vM := by rw [blk_cell h.box]; rfl
theorem RdP.cG0 (h : RdP w1 w2 w W okH okM vH vM uH uM H M G N) : W.cell? ⟨w2, 0, none⟩ = some uH := by rw [blk_cell h.gbox]; rfl
theorem RdP.cG1 (h : RdP w1 w2 w W okH okM vH vM uH uM H M G N) : W.cell? ⟨w2, 1, none⟩ = some uM := by rw [blk_cell h.gbox]; rfl
theorem RdP.marked {G' : List (List Int)} {N' : List Int} {ok' : Nat → Prop} (h : RdP w1 w2 w W okH okM vH vM uH uM H M G N) (hH : ∀ k, okH k → w1 + 1 ≤ k ∧ k < w2) (hM : ∀ k, okM k → w1 + 1 ≤ k ∧ k < w2)
    (hs : Kd.S (Kd.slice 2 (Kd.int .i64)) 23 W' w.heap.size okH uH G') (hr : Kd.R (Kd.int .i64) 2 W' w.heap.size ok' uM N') (hb : Below w.heap.size w W') (hk : ∀ k, k < W.heap.size → ¬ okH k → ¬ okM k → W'.heap[k]? = W.heap[k]?) : RdP w1 w2 w W' okH ok' vH vM uH uM H M G' N' := by
  have l1 : w1 < W.heap.size := (Array.getElem?_eq_some_iff.1 h.box).1
  have l2 : w2 < W.heap.size := (Array.getElem?_eq_some_iff.1 h.gbox).1
  have key : ∀ k, k < W.heap.size → k < w1 + 1 ∨ w2 ≤ k → W'.heap[k]? = W.heap[k]? := fun k hlt hor => hk k hlt (fun hp => by have := hH k hp; omega) (fun hp => by have := hM k hp; omega)
  exact ⟨Kd.S_step h.rowH (fun k hk1 hlt => key k hlt (.inl (by omega))), Kd.R_step h.rowM (fun k hk1 hlt => key k hlt (.inl (by omega))), hs, hr, (key w1 l1 (.inl (by omega))).trans h.box, (key w2 l2 (.inr (Nat.le_refl _))).trans h.gbox, hb⟩
end
set_option maxHeartbeats 8000000 in
set_option maxRecDepth 100000 in
theorem laws_FnExactReadPolicy.calls (s : ByteArray) (m : Int) (w : World) (hm : w.cell? ⟨0, 0, none⟩ = some (.int .i64 m)) :
    Calls Tryd.prog 3 #[.string s] w fun e w' => e = .returned (.bool true) ∧ Below w.heap.size w w' := by
  have hu := Tryd.underlying25
  by_cases hlong : (s.size : Int) > 1048576
  · go_enter Tryd.func3, Tryd.ntmps3
    go_wp2_with (fail)
    go_ret
    exact ⟨rfl, by repeat (first | exact Below.refl _ _ | apply pw_below_drewN | apply below_drew1)⟩
  have hs : s.size ≤ 1048576 := by omega
  obtain ⟨hl1, hl2, hl3⟩ := srpF_small s
  have HS := Aside0.mk (fun W : World => spec_ReadPolicy.calls s W hs)
  have HI := Aside0.mk (fun (W : World) (hW : W.cell? ⟨0, 0, none⟩ = some (.int .i64 m)) => impl_ReadPolicy.all s m W hs hW)
  generalize (srpF s).1 = H at hl1 hl2 HS HI
  generalize hMB : (srpF s).2 = MB at hl3 HS HI
  obtain ⟨M, B⟩ := MB
  clear hMB
  obtain ⟨kE, eE⟩ := ev_eqPolicy_own H M hl1 hl2 hl3
  obtain ⟨kH, eH⟩ := ev_heldPolicy H M hl1 hl2 hl3
  have HEE := Aside0.mk (eE kE (Nat.le_refl _))
  have HEH := Aside0.mk (eH kH (Nat.le_refl _))
  have HM := Aside0.mk (fun (W : World) (hb : Below w.heap.size w W) => (hb.cell (World.block_lt_of_cell? _ _ hm)).trans hm)
  have h6 := sumLen_six H hl2
  have hz0 : ¬ ((1 : Int) + (sumLen H : Int) + (M.length : Int) < 0) := by omega
  have HL1 := Aside0.mk hl1
  have HL2 := Aside0.mk hl2
  have HL3 := Aside0.mk hl3
  clear eE eH hm hl1 hl2 hl3 h6
  have M0 := Aside0.mk trivial
  go_enter Tryd.func3, Tryd.ntmps3
  go_wp2_with (first
    | (have q_ := M0; clear q_; go_at_call 4; (with_reducible refine (HS.out _).mono ?_); rintro e w1 ⟨vH, vM, rfl, hvH, hvM, hb1⟩; obtain ⟨AW, cW, rfl⟩ := Kd.S_slice hvH; obtain ⟨BW, dW, rfl⟩ := Kd.R_slice hvM; have HW := Aside0.mk (Kd.S_mono (ok' := fun k => k < w1.heap.size) (Kd.S_bound hvH) (fun k hk => hk.2.2.1)); have HV := Aside0.mk (Kd.R_mono (ok' := fun k => k < w1.heap.size) (Kd.R_bound hvM) (fun k hk => hk.2.2.1)); have HB1 := Aside0.mk hb1; clear hvH hvM hb1; clear M0; have M1 := Aside0.mk trivial)
    | (have q_ := M1; clear q_; go_at_call 5; have hal := below_alloc (Below.refl w1.heap.size w1) (.cells #[.slice AW H.length cW, .slice BW M.length dW] 25); have hbe := below_step HB1.out hal; have hbx := blk_new w1 (.cells #[.slice AW H.length cW, .slice BW M.length dW] 25); have hsz1 : (w1.alloc (.cells #[.slice AW H.length cW, .slice BW M.length dW] 25)).heap.size = w1.heap.size + 1 := (by simp); have hro := Kd.S_below HW.out hal; have hrm := Kd.R_below HV.out hal; (with_reducible refine (HI.out _ (HM.out _ hbe)).mono ?_); rintro e w2 ⟨n, uH, uM, rfl, hvG, hvN, hb2⟩; obtain ⟨AG, cG, rfl⟩ := Kd.S_slice hvG; obtain ⟨BG, dG, rfl⟩ := Kd.R_slice hvN; have hal2 := below_alloc (Below.refl w2.heap.size w2) (.cells #[.slice AG H.length cG, .slice BG M.length dG] 25); have hlo : w.heap.size ≤ (w1.alloc (.cells #[.slice AW H.length cW, .slice BW M.length dW] 25)).heap.size := hbe.size; have HS2 : Aside0 (RdP w1.heap.size w2.heap.size w (w2.alloc (.cells #[.slice AG H.length cG, .slice BG M.length dG] 25)) (fun k => n ≤ k ∧ w1.heap.size + 1 ≤ k ∧ k < w2.heap.size) (fun k => k < n ∧ w1.heap.size + 1 ≤ k ∧ k < w2.heap.size) (.slice AW H.length cW) (.slice BW M.length dW) (.slice AG H.length cG) (.slice BG M.length dG) H M H M) := ⟨⟨Kd.S_below (Kd.S_below hro hb2) hal2, Kd.R_below (Kd.R_below hrm hb2) hal2, Kd.S_below (Kd.S_lower (Kd.S_mono (ok' := fun k => n ≤ k ∧ w1.heap.size + 1 ≤ k ∧ k < w2.heap.size) (Kd.S_bound hvG) (fun k hk => ⟨hk.1, by have := hk.2.1; omega, hk.2.2.1⟩)) hlo) hal2, Kd.R_below (Kd.R_lower (Kd.R_mono (ok' := fun k => k < n ∧ w1.heap.size + 1 ≤ k ∧ k < w2.heap.size) (Kd.R_bound hvN) (fun k hk => ⟨hk.1, by have := hk.2.1; omega, hk.2.2.1⟩)) hlo) hal2, blk_below (blk_below hbx hb2) hal2, blk_new w2 _, below_step (below_step hbe hb2) hal2⟩⟩; have hcW0 := HS2.out.cW0; have hcW1 := HS2.out.cW1; have hcG0 := HS2.out.cG0; have hcG1 := HS2.out.cG1; have HA2 := Aside0.mk hal2.size; clear hvG hvN hb2 hal hbe hbx hsz1 hro hrm hal2 hlo HW HV HB1; clear M1; have M2 := Aside0.mk trivial)
    | (have q_ := M2; clear q_; go_at_call 6; (with_reducible refine (laws_eqPolicy.calls kE AG cG H BG dG M AW cW H BW dW M true _ (Kd.R_reads' (Kd.S_R HS2.out.ownH)).2.2 (Kd.R_reads' (Kd.S_R HS2.out.ownH)).2.1 (Kd.R_reads' HS2.out.ownM).2.2 (Kd.R_reads' HS2.out.ownM).2.1 (Kd.R_reads' (Kd.S_R HS2.out.rowH)).2.2 (Kd.R_reads' (Kd.S_R HS2.out.rowH)).2.1 (Kd.R_reads' HS2.out.rowM).2.2 (Kd.R_reads' HS2.out.rowM).2.1 HEE.out).mono ?_); rintro e w3 ⟨rfl, hb3⟩; have HS3 := Aside0.mk (HS2.out.below hb3); have HA3 := Aside0.mk (Nat.le_trans HA2.out hb3.size); clear HS2 hb3 hcW0 hcW1 hcG0 hcG1 HA2; have hcG0 := HS3.out.cG0; have hcG1 := HS3.out.cG1; clear M2; have M3 := Aside0.mk trivial)
    | (have q_ := M3; clear q_; go_at_call 7; (with_reducible refine (laws_markPolicy.calls (fun k => n ≤ k ∧ w1.heap.size + 1 ≤ k ∧ k < w2.heap.size) (fun k => k < n ∧ w1.heap.size + 1 ≤ k ∧ k < w2.heap.size) AG cG BG dG H M w _ (fun k hp hq => absurd hq.1 (Nat.not_lt.2 hp.1)) (fun k hp => Nat.lt_of_lt_of_le hp.2.2 HA3.out) (fun k hp => Nat.lt_of_lt_of_le hp.2.2 HA3.out) HS3.out.bel HS3.out.ownH HS3.out.ownM HL1.out HL2.out HL3.out).mono ?_); rintro e w4 ⟨rfl, hS4, hR4, hb4, hk4⟩; have HS4 := Aside0.mk (HS3.out.marked (fun k hk => hk.2) (fun k hk => hk.2) hS4 hR4 hb4 hk4); clear HS3 hS4 hR4 hb4 hk4 hcG0 hcG1 HA3; have hcG0 := HS4.out.cG0; have hcG1 := HS4.out.cG1; clear M3; have M4 := Aside0.mk trivial)
    | (have q_ := M4; clear q_; go_at_call 8; (with_reducible refine (laws_heldPolicy_len kH AG cG H.length BG dG M.length _ _ 1 _ _ HS4.out.ownH HS4.out.ownM HEH.out).mono ?_); rintro e w5 ⟨rfl, hb5⟩; have HS5 := Aside0.mk (HS4.out.below hb5); clear HS4 hb5 hcG0 hcG1; clear M4; have M5 := Aside0.mk trivial)
    | (have q_ := M5; clear q_; go_at_call 5; (with_reducible refine (HI.out _ (HM.out _ HS5.out.bel)).mono ?_); rintro e w6 ⟨n6, tH, tM, rfl, hvT, hvU, hb6⟩; obtain ⟨AH, cH, rfl⟩ := Kd.S_slice hvT; obtain ⟨BH, dH, rfl⟩ := Kd.R_slice hvU; have hal6 := below_alloc (Below.refl w6.heap.size w6) (.cells #[.slice AH H.length cH, .slice BH M.length dH] 25); have HS6 := Aside0.mk ((HS5.out.below hb6).below hal6); have HH := Aside0.mk (Kd.S_below hvT hal6); have HN := Aside0.mk (Kd.R_below hvU hal6); have hcW0 := HS6.out.cW0; have hcW1 := HS6.out.cW1; clear HS5 hvT hvU hb6 hal6; clear M5; have M6 := Aside0.mk trivial)
    | (have q_ := M6; clear q_; go_at_call 6; (with_reducible refine (laws_eqPolicy.calls kE AH cH H BH dH M AW cW H BW dW M true _ (Kd.R_reads' (Kd.S_R HH.out)).2.2 (Kd.R_reads' (Kd.S_R HH.out)).2.1 (Kd.R_reads' HN.out).2.2 (Kd.R_reads' HN.out).2.1 (Kd.R_reads' (Kd.S_R HS6.out.rowH)).2.2 (Kd.R_reads' (Kd.S_R HS6.out.rowH)).2.1 (Kd.R_reads' HS6.out.rowM).2.2 (Kd.R_reads' HS6.out.rowM).2.1 HEE.out).mono ?_); rintro e w7 ⟨rfl, hb7⟩; have HS7 := Aside0.mk (HS6.out.below hb7); clear HS6 hb7 hcW0 hcW1 HH HN; have hcG0 := HS7.out.cG0; have hcG1 := HS7.out.cG1; clear M6; have M7 := Aside0.mk trivial)
    | (have q_ := M7; clear q_; go_at_call 8; (with_reducible refine (laws_heldPolicy_len kH AG cG H.length BG dG M.length _ _ 1 _ _ HS7.out.ownH HS7.out.ownM HEH.out).mono ?_); rintro e w8 ⟨rfl, hb8⟩; have HS8 := Aside0.mk (HS7.out.below hb8); clear HS7 hb8 hcG0 hcG1; clear M7; have M8 := Aside0.mk trivial))
  go_ret
  exact ⟨rfl, HS8.out.bel⟩
end Go.Proofs.YthaipkhgemachaaDoor.Q
