/- laws.FnExactNewSpace answers true for all arguments; no conditions. -/
import Derived.Test.YteobbgofbedgdaaQx0
import Derived.Test.YteobbgofbedgdaaQx1
import Derived.Test.YteobbgofbedgdaaQx2
import Derived.Test.YteobbgofbedgdaaSheldspace
import Derived.Test.YteobbgofbedgdaaSisin
import Derived.Test.YteobbgofbedgdaaSmarkentries
import Derived.Test.YteobbgofbedgdaaSmarkspace
import Derived.Test.YteobbgofbedgdaaSspace
namespace Go.Proofs.Yteobbgofbedgdaa.Q
open Go.RowKit Go.Proofs.YteobbgofbedgdaaW.PrintWords Go.Proofs.YteobbgofbedgdaaW.PrintLast Go.Proofs.YteobbgofbedgdaaW.PrintMore
attribute [local go_sem] max2_int min2_int max_two min_two max_three min_three max_four min_four   -- for this text's walks alone
set_option linter.unusedVariables false
set_option linter.unusedSimpArgs false

def laws_FnExactNewSpace.f (a0 : Int) : Option Bool := some true
def tyS (W : World) (lo hi : Nat) (ts : List Nat) (k : Nat) : Prop := lo ≤ k ∧ k < hi ∧ ∃ q, q ∈ ts ∧ ∃ cells, W.heap[k]? = some (.cells cells q (0, 0))
theorem tyS_apart {W : World} {lo hi : Nat} {ts us : List Nat} (h : ∀ q ∈ ts, q ∉ us) (k : Nat) (h1 : tyS W lo hi ts k) : ¬ tyS W lo hi us k := by
  rintro ⟨_, _, q2, hq2, c2, e2⟩
  obtain ⟨_, _, q1, hq1, c1, e1⟩ := h1
  rw [e1] at e2
  injection e2 with e2
  injection e2 with _ e3
  subst e3
  exact h _ hq1 hq2
theorem tyS_lt {W : World} {lo hi : Nat} {ts : List Nat} {k : Nat} (h : tyS W lo hi ts k) : k < hi := h.2.1
theorem tyS_in {W : World} {lo hi : Nat} {ts : List Nat} {k : Nat} (h : tyS W lo hi ts k) : lo ≤ k ∧ k < hi := ⟨h.1, h.2.1⟩
theorem eqSpace0 (k : Nat) (A B C A' B' C' : Option Addr) (a b c a' b' c' n m n' m' : Nat) (M : List Int) (H : List (List S104)) (r : Bool) (W : World) {base base' : Nat} {o1 o2 o3 p1 p2 p3 : Nat → Prop}
    (h1 : Kd.R (Kd.int .i64) 2 W base o1 (.slice A n a) M) (h2 : Kd.S (Kd.slice 104 k104) 71 W base o2 (.slice B m b) H) (h3 : Kd.R k110 110 W base o3 (.slice C 0 c) [])
    (g1 : Kd.R (Kd.int .i64) 2 W base' p1 (.slice A' n' a') M) (g2 : Kd.S (Kd.slice 104 k104) 71 W base' p2 (.slice B' m' b') H) (g3 : Kd.R k110 110 W base' p3 (.slice C' 0 c') []) (h : laws_eqSpace.f k M H [] M H [] = some r) :
    Calls Try.prog 22 #[.agg #[.slice A n a, .slice B m b, .slice C 0 c], .agg #[.slice A' n' a', .slice B' m' b', .slice C' 0 c']] W fun e w' => e = .returned (.bool r) ∧ Below W.heap.size W w' := by
  obtain ⟨_, _, e1, l1, d1⟩ := Kd.R_reads h1
  obtain ⟨_, _, e2, l2, d2⟩ := Kd.R_reads (Kd.S_R h2)
  obtain ⟨_, _, e3, l3, d3⟩ := Kd.R_reads h3
  obtain ⟨_, _, f1, k1, q1⟩ := Kd.R_reads g1
  obtain ⟨_, _, f2, k2, q2⟩ := Kd.R_reads (Kd.S_R g2)
  obtain ⟨_, _, f3, k3, q3⟩ := Kd.R_reads g3
  rw [e1, e2, e3, f1, f2, f3]
  exact laws_eqSpace.calls k _ _ M _ _ H _ _ [] _ _ M _ _ H _ _ [] r W d1 l1 d2 l2 d3 l3 q1 k1 q2 k2 q3 k3 h
theorem heldSpace0 (k : Nat) (A B C : Option Addr) (a b c n m : Nat) (M : List Int) (H : List (List S104)) (x r : Int) (W : World) {base : Nat} {o1 o2 o3 : Nat → Prop}
    (h1 : Kd.R (Kd.int .i64) 2 W base o1 (.slice A n a) M) (h2 : Kd.S (Kd.slice 104 k104) 71 W base o2 (.slice B m b) H) (h3 : Kd.R k110 110 W base o3 (.slice C 0 c) []) (h : laws_heldSpace.f k M H [] x = some r) :
    Calls Try.prog 24 #[.agg #[.slice A n a, .slice B m b, .slice C 0 c], .int .i64 x] W fun e w' => e = .returned (.int .i64 r) ∧ Below W.heap.size W w' := by
  obtain ⟨_, _, e1, l1, d1⟩ := Kd.R_reads h1
  obtain ⟨_, _, e2, l2, d2⟩ := Kd.R_reads (Kd.S_R h2)
  obtain ⟨_, _, e3, l3, d3⟩ := Kd.R_reads h3
  rw [e1, e2, e3]
  exact laws_heldSpace.calls k _ _ M _ _ H _ _ [] x r W d1 l1 d2 l2 d3 l3 h
/-- Two spaces in boxes: the one that was told, and the one that is marked. -/
structure RdN (w1 w2 : Nat) (w W : World) (okM okH okC : Nat → Prop) (vM vH vC uM uH uC : Value) (M : List Int) (H : List (List S104)) (N : List Int) (G : List (List S104)) : Prop where
  rowM : Kd.R (Kd.int .i64) 2 W w.heap.size (fun k => k < w1) vM M
  rowH : Kd.S (Kd.slice 104 k104) 71 W w.heap.size (fun k => k < w1) vH H
  rowC : Kd.R k110 110 W w.heap.size (fun k => k < w1) vC []
  ownM : Kd.R (Kd.int .i64) 2 W w.heap.size okM uM N
  ownH : Kd.S (Kd.slice 104 k104) 71 W w.heap.size okH uH G
  ownC : Kd.R k110 110 W w.heap.size okC uC []
  box : W.heap[w1]? = some (.cells #[vM, vH, vC] 37 (0, 0))
  gbox : W.heap[w2]? = some (.cells #[uM, uH, uC] 37 (0, 0))
  bel : Below w.heap.size w W
section
variable {w1 w2 : Nat} {w W W' : World} {okM okH okC : Nat → Prop} {vM vH vC uM uH uC : Value} {M : List Int} {H : List (List S104)} {N : List Int} {G : List (List S104)}
theorem RdN.below (h : RdN w1 w2 w W okM okH okC vM vH vC uM uH uC M H N G) (hb : Below W.heap.size W W') : RdN w1 w2 w W' okM okH okC vM vH vC uM uH uC M H N G :=
  ⟨Kd.R_below h.rowM hb, Kd.S_below h.rowH hb, Kd.R_below h.rowC hb, Kd.R_below h.ownM hb, Kd.S_below h.ownH hb, Kd.R_below h.ownC hb, blk_below h.box hb, blk_below h.gbox hb, below_step h.bel hb⟩
theorem RdN.cW (h : RdN w1 w2 w W okM okH okC vM vH vC uM uH uC M H N G) : W.cell? ⟨w1, 0, none⟩ = some vM ∧ W.cell? ⟨w1, 1, none⟩ = some vH ∧ W.cell? ⟨w1, 2, none⟩ = some vC := ⟨by rw [blk_cell h.box]; rfl, by rw [blk_cell h.box]; rfl, by rw [blk_cell h.box]; rfl⟩
theorem RdN.cG (h : RdN w1 w2 w W okM okH okC vM vH vC uM uH uC M H N G) : W.cell? ⟨w2, 0, none⟩ = some uM ∧ W.cell? ⟨w2, 1, none⟩ = some uH ∧ W.cell? ⟨w2, 2, none⟩ = some uC := ⟨by rw [blk_cell h.gbox]; rfl, by rw [blk_cell h.gbox]; rfl, by rw [blk_cell h.gbox]; rfl⟩
theorem RdN.marked {N' : List Int} {G' : List (List S104)} {ok1 ok3 : Nat → Prop} (h : RdN w1 w2 w W okM okH okC vM vH vC uM uH uC M H N G) (hM : ∀ k, okM k → w1 + 1 ≤ k ∧ k < w2) (hH : ∀ k, okH k → w1 + 1 ≤ k ∧ k < w2) (hC : ∀ k, okC k → w1 + 1 ≤ k ∧ k < w2)
    (hs : Kd.S (Kd.slice 104 k104) 71 W' w.heap.size okH uH G') (hr : Kd.R (Kd.int .i64) 2 W' w.heap.size ok1 uM N') (hc : Kd.R k110 110 W' w.heap.size ok3 uC []) (hb : Below w.heap.size w W') (hk : ∀ k, k < W.heap.size → ¬ okH k → ¬ okM k → ¬ okC k → W'.heap[k]? = W.heap[k]?) : RdN w1 w2 w W' ok1 okH ok3 vM vH vC uM uH uC M H N' G' := by
  have l1 : w1 < W.heap.size := (Array.getElem?_eq_some_iff.1 h.box).1
  have l2 : w2 < W.heap.size := (Array.getElem?_eq_some_iff.1 h.gbox).1
  have key : ∀ k, k < W.heap.size → k < w1 + 1 ∨ w2 ≤ k → W'.heap[k]? = W.heap[k]? := fun k hlt hor => hk k hlt (fun hp => by have := hH k hp; omega) (fun hp => by have := hM k hp; omega) (fun hp => by have := hC k hp; omega)
  exact ⟨Kd.R_step h.rowM (fun k hk1 hlt => key k hlt (.inl (by omega))), Kd.S_step h.rowH (fun k hk1 hlt => key k hlt (.inl (by omega))), Kd.R_step h.rowC (fun k hk1 hlt => key k hlt (.inl (by omega))), hr, hs, hc, (key w1 l1 (.inl (by omega))).trans h.box, (key w2 l2 (.inr (Nat.le_refl _))).trans h.gbox, hb⟩
end
/-- What the program's own space holds, with the box behind it. -/
theorem own_start {w w1 W1 w2 : World} {AW BW CW AG BG CG : Option Addr} {a b c a' b' c' : Nat} {M : List Int} {H : List (List S104)} (hb1 : Below w.heap.size w w1)
    (hW1 : W1 = w1.alloc (.cells #[.slice AW M.length a, .slice BW H.length b, .slice CW 0 c] 37))
    (hM : Kd.R (Kd.int .i64) 2 w1 w.heap.size (fun _ => True) (.slice AW M.length a) M) (hH : Kd.S (Kd.slice 104 k104) 71 w1 w.heap.size (fun _ => True) (.slice BW H.length b) H) (hC : Kd.R k110 110 w1 w.heap.size (fun _ => True) (.slice CW 0 c) [])
    (gM : Kd.R (Kd.int .i64) 2 w2 W1.heap.size (fun _ => True) (.slice AG M.length a') M) (gH : Kd.S (Kd.slice 104 k104) 71 w2 W1.heap.size (fun _ => True) (.slice BG H.length b') H) (gC : Kd.R k110 110 w2 W1.heap.size (fun _ => True) (.slice CG 0 c') []) (hb2 : Below W1.heap.size W1 w2) :
    RdN w1.heap.size w2.heap.size w (w2.alloc (.cells #[.slice AG M.length a', .slice BG H.length b', .slice CG 0 c'] 37)) (tyS w2 (w1.heap.size + 1) w2.heap.size [2]) (tyS w2 (w1.heap.size + 1) w2.heap.size [71, 104]) (tyS w2 (w1.heap.size + 1) w2.heap.size [110])
      (.slice AW M.length a) (.slice BW H.length b) (.slice CW 0 c) (.slice AG M.length a') (.slice BG H.length b') (.slice CG 0 c') M H M H := by
  have hsz : W1.heap.size = w1.heap.size + 1 := by rw [hW1]; simp
  have hal : Below w1.heap.size w1 W1 := by rw [hW1]; exact below_alloc (Below.refl _ _) _
  have hbx : W1.heap[w1.heap.size]? = some (.cells #[.slice AW M.length a, .slice BW H.length b, .slice CW 0 c] 37 (0, 0)) := by rw [hW1]; exact blk_new w1 _
  have hal2 := below_alloc (Below.refl w2.heap.size w2) (.cells #[.slice AG M.length a', .slice BG H.length b', .slice CG 0 c'] 37)
  have hlo : w.heap.size ≤ W1.heap.size := by have := hb1.size; omega
  have hbe := below_step hb1 hal
  refine ⟨Kd.R_below (Kd.R_below (Kd.R_below (Kd.R_mono (ok' := fun k => k < w1.heap.size) (Kd.R_bound hM) (fun k hk => hk.2.2.1)) hal) hb2) hal2, Kd.S_below (Kd.S_below (Kd.S_below (Kd.S_mono (ok' := fun k => k < w1.heap.size) (Kd.S_bound hH) (fun k hk => hk.2.2.1)) hal) hb2) hal2, Kd.R_below (Kd.R_below (Kd.R_below (Kd.R_mono (ok' := fun k => k < w1.heap.size) (Kd.R_bound hC) (fun k hk => hk.2.2.1)) hal) hb2) hal2, ?_, ?_, ?_, blk_below (blk_below hbx hb2) hal2, blk_new w2 _, below_step (below_step hbe hb2) hal2⟩
  · exact Kd.R_below (Kd.R_lower (Kd.R_mono (Kd.R_bound gM) (fun k hk => ⟨by have := hk.2.1; omega, hk.2.2.1, hk.2.2.2⟩)) hlo) hal2
  · exact Kd.S_below (Kd.S_lower (Kd.S_mono (Kd.S_bound gH) (fun k hk => ⟨by have := hk.2.1; omega, hk.2.2.1, hk.2.2.2⟩)) hlo) hal2
  · exact Kd.R_below (Kd.R_lower (Kd.R_mono (Kd.R_bound gC) (fun k hk => ⟨by have := hk.2.1; omega, hk.2.2.1, hk.2.2.2⟩)) hlo) hal2
theorem spaceOf_small (n : Int) : (spaceOf n).1.length ≤ 8 ∧ (spaceOf n).2.1.length ≤ 8 ∧ (∀ y ∈ (spaceOf n).2.1, y.length ≤ 8) ∧ (spaceOf n).2.2.1 = [] := by
  unfold spaceOf
  split
  · rename_i h
    have hb : 0 ≤ n ∧ n ≤ 8 := by simpa [isIn] using h
    refine ⟨by rw [rootTo_length]; exact Nat.le_refl _, by rw [List.length_replicate]; omega, fun y hy => ?_, rfl⟩
    rw [List.eq_of_mem_replicate hy, List.length_replicate]
    exact Nat.le_refl _
  · exact ⟨Nat.zero_le _, Nat.zero_le _, (fun y hy => by cases hy), rfl⟩
theorem R_slice0 {α : Type} {d : Kd α} {e : Nat} {w : World} {base : Nat} {ok : Nat → Prop} {v : Value} (h : d.R e w base ok v []) : ∃ A c, v = .slice A 0 c := Kd.R_slice h
set_option maxHeartbeats 8000000 in
set_option maxRecDepth 100000 in
theorem laws_FnExactNewSpace.calls (a0 : Int) (r : Bool) (w : World) (h : laws_FnExactNewSpace.f a0 = some r) :
    Calls Try.prog 4 #[.int .i64 a0] w fun e w' => e = .returned (.bool r) ∧ Below w.heap.size w w' := by
  obtain rfl : true = r := Option.some.inj h
  clear h
  have hu := Try.underlying37
  obtain ⟨hl1, hl2, hl3, hl4⟩ := spaceOf_small a0
  obtain ⟨kS, eS⟩ := ev_spec_NewSpace a0
  obtain ⟨kI, eI⟩ := ev_impl_NewSpace a0
  have eS1 := eS kS (Nat.le_refl _)
  have eI1 := eI kI (Nat.le_refl _)
  clear eS eI
  obtain ⟨⟨M, H, C, B⟩, hq⟩ : ∃ q, q = spaceOf a0 := ⟨_, rfl⟩
  rw [← hq] at eS1 eI1 hl1 hl2 hl3 hl4
  clear hq
  replace hl4 : C = [] := hl4
  subst hl4
  replace hl1 : M.length ≤ 8 := hl1
  replace hl2 : H.length ≤ 8 := hl2
  replace hl3 : ∀ y ∈ H, y.length ≤ 8 := hl3
  have HS := Aside0.mk (fun W : World => spec_NewSpace.calls kS a0 M H [] B W eS1)
  have HI := Aside0.mk (fun W : World => impl_NewSpace.calls kI a0 M H [] B W eI1)
  obtain ⟨kE, eE⟩ := ev_eqSpace M H hl1 hl2 hl3
  obtain ⟨kH, eH⟩ := ev_heldSpace M H hl1 hl2 hl3
  have HEE := Aside0.mk (eE kE (Nat.le_refl _))
  have HEH := Aside0.mk (eH kH (Nat.le_refl _))
  have h6 := sumLenE_eight H hl3
  have hz0 : ¬ ((1 : Int) + (M.length : Int) + (sumLenE H : Int) < 0) := by omega
  have HL1 := Aside0.mk hl1
  have HL2 := Aside0.mk hl2
  have HL3 := Aside0.mk hl3
  clear eE eH hl1 hl2 hl3 h6 eS1 eI1
  have HAP1 := Aside0.mk (fun (W : World) (lo hi : Nat) => tyS_apart (W := W) (lo := lo) (hi := hi) (ts := [71, 104]) (us := [2]) (by decide))
  have HAP2 := Aside0.mk (fun (W : World) (lo hi : Nat) => tyS_apart (W := W) (lo := lo) (hi := hi) (ts := [71, 104]) (us := [110]) (by decide))
  have HAP3 := Aside0.mk (fun (W : World) (lo hi : Nat) => tyS_apart (W := W) (lo := lo) (hi := hi) (ts := [2]) (us := [110]) (by decide))
  have M0 := Aside0.mk trivial
  go_enter Try.func4, Try.ntmps4
  go_wp2_with (first
    | (have q_ := M0; clear q_; go_at_call 20; (with_reducible refine (HS.out _).mono ?_); rintro e w1 ⟨vM, vH, vC, rfl, hvM, hvH, hvC, hb1⟩; obtain ⟨AW, aW, rfl⟩ := Kd.R_slice hvM; obtain ⟨BW, bW, rfl⟩ := Kd.S_slice hvH; obtain ⟨CW, cW, rfl⟩ := R_slice0 hvC; have HVM := Aside0.mk hvM; have HVH := Aside0.mk hvH; have HVC := Aside0.mk hvC; have HB1 := Aside0.mk hb1; clear hvM hvH hvC hb1; clear M0; have M1 := Aside0.mk trivial)
    | (have q_ := M1; clear q_; go_at_call 21; (with_reducible refine (HI.out _).mono ?_); rintro e w2 ⟨uM, uH, uC, rfl, hgM, hgH, hgC, hb2⟩; obtain ⟨AG, aG, rfl⟩ := Kd.R_slice hgM; obtain ⟨BG, bG, rfl⟩ := Kd.S_slice hgH; obtain ⟨CG, cG, rfl⟩ := R_slice0 hgC; have HS2 := Aside0.mk (own_start HB1.out rfl HVM.out HVH.out HVC.out hgM hgH hgC hb2); have HA2 := Aside0.mk (below_alloc (Below.refl w2.heap.size w2) (.cells #[.slice AG M.length aG, .slice BG H.length bG, .slice CG 0 cG] 37)).size; obtain ⟨hcW0, hcW1, hcW2⟩ := HS2.out.cW; obtain ⟨hcG0, hcG1, hcG2⟩ := HS2.out.cG; clear hgM hgH hgC hb2 HVM HVH HVC HB1; clear M1; have M2 := Aside0.mk trivial)
    | (have q_ := M2; clear q_; go_at_call 22; (with_reducible refine (eqSpace0 kE AG BG CG AW BW CW aG bG cG aW bW cW M.length H.length M.length H.length M H true _ HS2.out.ownM HS2.out.ownH HS2.out.ownC HS2.out.rowM HS2.out.rowH HS2.out.rowC HEE.out).mono ?_); rintro e w3 ⟨rfl, hb3⟩; have HS3 := Aside0.mk (HS2.out.below hb3); have HA3 := Aside0.mk (Nat.le_trans HA2.out hb3.size); clear HS2 hb3 hcW0 hcW1 hcW2 hcG0 hcG1 hcG2 HA2; obtain ⟨hcG0, hcG1, hcG2⟩ := HS3.out.cG; clear M2; have M3 := Aside0.mk trivial)
    | (have q_ := M3; clear q_; go_at_call 23; (with_reducible refine (laws_markSpace.calls (tyS w2 (w1.heap.size + 1) w2.heap.size [71, 104]) (tyS w2 (w1.heap.size + 1) w2.heap.size [2]) (tyS w2 (w1.heap.size + 1) w2.heap.size [110]) BG bG AG aG (.slice CG 0 cG) H M w _ (HAP1.out _ _ _) (HAP2.out _ _ _) (HAP3.out _ _ _) (fun k hp => Nat.lt_of_lt_of_le (tyS_lt hp) HA3.out) (fun k hp => Nat.lt_of_lt_of_le (tyS_lt hp) HA3.out) (fun k hp => Nat.lt_of_lt_of_le (tyS_lt hp) HA3.out) HS3.out.bel HS3.out.ownM HS3.out.ownH HS3.out.ownC HL2.out HL3.out HL1.out).mono ?_); rintro e w4 ⟨rfl, hS4, hR4, hC4, hb4, hk4⟩; have HS4 := Aside0.mk (HS3.out.marked (fun k hk => tyS_in hk) (fun k hk => tyS_in hk) (fun k hk => tyS_in hk) hS4 hR4 hC4 hb4 hk4); clear HS3 hS4 hR4 hC4 hb4 hk4 hcG0 hcG1 hcG2 HA3; obtain ⟨hcG0, hcG1, hcG2⟩ := HS4.out.cG; clear M3; have M4 := Aside0.mk trivial)
    | (have q_ := M4; clear q_; go_at_call 24; (with_reducible refine (heldSpace0 kH AG BG CG aG bG cG M.length H.length _ _ 1 _ _ HS4.out.ownM HS4.out.ownH HS4.out.ownC HEH.out).mono ?_); rintro e w5 ⟨rfl, hb5⟩; have HS5 := Aside0.mk (HS4.out.below hb5); clear HS4 hb5 hcG0 hcG1 hcG2; clear M4; have M5 := Aside0.mk trivial)
    | (have q_ := M5; clear q_; go_at_call 21; (with_reducible refine (HI.out _).mono ?_); rintro e w6 ⟨tM, tH, tC, rfl, hvT, hvU, hvX, hb6⟩; obtain ⟨AH, aH, rfl⟩ := Kd.R_slice hvT; obtain ⟨BH, bH, rfl⟩ := Kd.S_slice hvU; obtain ⟨CH, cH, rfl⟩ := R_slice0 hvX; have hal6 := below_alloc (Below.refl w6.heap.size w6) (.cells #[.slice AH M.length aH, .slice BH H.length bH, .slice CH 0 cH] 37); have HS6 := Aside0.mk ((HS5.out.below hb6).below hal6); have HHM := Aside0.mk (Kd.R_below hvT hal6); have HHH := Aside0.mk (Kd.S_below hvU hal6); have HHC := Aside0.mk (Kd.R_below hvX hal6); obtain ⟨hcW0, hcW1, hcW2⟩ := HS6.out.cW; clear HS5 hvT hvU hvX hb6 hal6; clear M5; have M6 := Aside0.mk trivial)
    | (have q_ := M6; clear q_; go_at_call 22; (with_reducible refine (eqSpace0 kE AH BH CH AW BW CW aH bH cH aW bW cW M.length H.length M.length H.length M H true _ HHM.out HHH.out HHC.out HS6.out.rowM HS6.out.rowH HS6.out.rowC HEE.out).mono ?_); rintro e w7 ⟨rfl, hb7⟩; have HS7 := Aside0.mk (HS6.out.below hb7); clear HS6 hb7 hcW0 hcW1 hcW2 HHM HHH HHC; obtain ⟨hcG0, hcG1, hcG2⟩ := HS7.out.cG; clear M6; have M7 := Aside0.mk trivial)
    | (have q_ := M7; clear q_; go_at_call 24; (with_reducible refine (heldSpace0 kH AG BG CG aG bG cG M.length H.length _ _ 1 _ _ HS7.out.ownM HS7.out.ownH HS7.out.ownC HEH.out).mono ?_); rintro e w8 ⟨rfl, hb8⟩; have HS8 := Aside0.mk (HS7.out.below hb8); clear HS7 hb8 hcG0 hcG1 hcG2; clear M7; have M8 := Aside0.mk trivial))
  go_ret
  exact ⟨rfl, HS8.out.bel⟩
end Go.Proofs.Yteobbgofbedgdaa.Q
