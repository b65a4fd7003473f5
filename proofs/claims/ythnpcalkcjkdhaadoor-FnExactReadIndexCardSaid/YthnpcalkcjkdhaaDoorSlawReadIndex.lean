/- laws.FnExactReadIndex answers true for all arguments where the first variable holds a number. -/
import Derived.Test.YthnpcalkcjkdhaaDoorQx0
import Derived.Test.YthnpcalkcjkdhaaDoorQx1
import Derived.Test.YthnpcalkcjkdhaaDoorSbase
import Derived.Test.YthnpcalkcjkdhaaDoorSheldindex
import Derived.Test.YthnpcalkcjkdhaaDoorSimplReadIndex
import Derived.Test.YthnpcalkcjkdhaaDoorSmarkindex
import Derived.Test.YthnpcalkcjkdhaaDoorSmarks
import Derived.Test.YthnpcalkcjkdhaaDoorSokrows
import Derived.Test.YthnpcalkcjkdhaaDoorSreadidx
import Derived.Test.YthnpcalkcjkdhaaDoorSspecReadIndex
namespace Go.Proofs.YthnpcalkcjkdhaaDoor.Q
open Go.RowKit Go.Proofs.YthnpcalkcjkdhaaDoorW.PrintWords Go.Proofs.YthnpcalkcjkdhaaDoorW.PrintLast Go.Proofs.YthnpcalkcjkdhaaDoorW.PrintMore
attribute [local go_sem] max2_int min2_int max_two min_two max_three min_three max_four min_four   -- for this text's walks alone
set_option linter.unusedVariables false
set_option linter.unusedSimpArgs false

theorem impl_ReadIndex.all (s : ByteArray) (m : Int) (w : World) (hs : s.size ≤ 1048576) (hm : w.cell? ⟨0, 0, none⟩ = some (.int .i64 m)) :
    Calls Tryd.prog 5 #[.string s] w fun e w' => ∃ v, e = .returned (.tuple #[.agg #[v], .bool (srdF s).2]) ∧ Kd.R (Kd.int .i64) 2 w' w.heap.size (fun _ => True) v (srdF s).1 ∧ Below w.heap.size w w' := by
  rw [← rd_same s]
  unfold irdA
  by_cases h0 : s = ⟨#[]⟩
  · rw [if_pos h0, h0]
    exact (impl_ReadIndex.empty w).mono fun e w' h => ⟨_, h.1, Kd.R_nil _ _ _ _ _, h.2⟩
  · rw [if_neg h0]
    exact impl_ReadIndex.calls s m w hs hm h0
theorem ev_eqI_own (a b : List Int) (h : a.length ≤ 35184372088832) : Ev (fun k => laws_eqInt64S.f k a b) (decide (a = b)) := by
  unfold laws_eqInt64S.f
  by_cases hl : (a.length : Int) = (b.length : Int)
  · refine Ev.ite_pos hl ?_
    have hl' : a.length = b.length := by omega
    have key := Ev.down (fun i k => laws_eqInt64S.l0 k a b (i : Int)) a.length (fun i => decide (a.drop i = b.drop i)) ?_ ?_ 0 (Nat.zero_le _)
    · exact Ev.eq key (by simp)
    · apply Ev.succ
      simp only [laws_eqInt64S.l0]
      refine Ev.ite_neg (by omega) (Ev.eq (Ev.now _) ?_)
      simp [hl']
    · intro i hi ih
      apply Ev.succ
      simp only [laws_eqInt64S.l0]
      refine Ev.ite_pos (by omega) (Ev.ite_pos (by omega) (Ev.ite_pos (by omega) ?_))
      rw [drop_rd a i hi, drop_rd b i (by omega)]
      by_cases hx : rd a (i : Int) = rd b (i : Int)
      · refine Ev.ite_pos hx ?_
        rw [wrap64_succ (by omega)]
        refine Ev.eq ih ?_
        simp [hx]
      · exact Ev.ite_neg hx (Ev.eq (Ev.now _) (by simp [hx]))
  · refine Ev.ite_neg hl (Ev.eq (Ev.now _) ?_)
    have : a ≠ b := fun e => hl (by rw [e])
    simp [this]
theorem ev_eqI_same (a : List Int) (h : a.length ≤ 35184372088832) : Ev (fun k => laws_eqInt64S.f k a a) true := Ev.eq (ev_eqI_own a a h) (by simp)
theorem ev_eqIndex_own (a : List Int) (h : a.length ≤ 35184372088832) : Ev (fun k => laws_eqIndex.f k a a) true := by
  unfold laws_eqIndex.f
  exact Ev.bind (ev_eqI_same a h) (Ev.ite_pos rfl (Ev.now _))
theorem srdF_len (s : ByteArray) : (srdF s).1.length ≤ 3 := by
  unfold srdF
  split
  · rename_i h
    exact ((okRows_iff _).1 h.2.1).2
  · exact Nat.zero_le _
theorem laws_heldIndex_len (k : Nat) (A : Option Addr) (c n : Nat) (a r : Int) (w : World) {base : Nat} {ok : Nat → Prop} (hS : Kd.R (Kd.int .i64) 2 w base ok (.slice A n c) (ups a n)) (h : laws_heldIndex.f k (ups a n) a = some r) :
    Calls Tryd.prog 8 #[.agg #[.slice A n c], .int .i64 a] w fun e w' => e = .returned (.int .i64 r) ∧ Below w.heap.size w w' := by
  obtain ⟨A', c', he, hcl, hC⟩ := Kd.R_reads hS
  have h2 := laws_heldIndex.calls k A' c' (ups a n) a r w hC hcl h
  rw [← he] at h2
  exact h2
/-- Two indices in boxes: the one that was told, and the one that is marked. -/
structure RdS (w1 w2 : Nat) (w W : World) (ok : Nat → Prop) (vW vG : Value) (R G : List Int) : Prop where
  row : Kd.R (Kd.int .i64) 2 W w.heap.size (fun k => k < w1) vW R
  own : Kd.R (Kd.int .i64) 2 W w.heap.size ok vG G
  box : W.heap[w1]? = some (.cells #[vW] 24 (0, 0))
  gbox : W.heap[w2]? = some (.cells #[vG] 24 (0, 0))
  bel : Below w.heap.size w W
section
variable {w1 w2 : Nat} {w W W' : World} {ok : Nat → Prop} {vW vG : Value} {R G : List Int}
theorem RdS.below (h : RdS w1 w2 w W ok vW vG R G) (hb : Below W.heap.size W W') : RdS w1 w2 w W' ok vW vG R G :=
  ⟨Kd.R_below h.row hb, Kd.R_below h.own hb, blk_below h.box hb, blk_below h.gbox hb, below_step h.bel hb⟩
theorem RdS.cellW (h : RdS w1 w2 w W ok vW vG R G) : W.cell? ⟨w1, 0, none⟩ = some vW := by rw [blk_cell h.box]; rfl
theorem RdS.cellG (h : RdS w1 w2 w W ok vW vG R G) : W.cell? ⟨w2, 0, none⟩ = some vG := by rw [blk_cell h.gbox]; rfl
theorem RdS.marked {G' : List Int} {ok' : Nat → Prop} (h : RdS w1 w2 w W (fun k => w1 + 1 ≤ k ∧ k < w2) vW vG R G) (hr : Kd.R (Kd.int .i64) 2 W' w.heap.size ok' vG G') (hb : Below w.heap.size w W') (hk : Kept W W' (fun k => w1 + 1 ≤ k ∧ k < w2)) : RdS w1 w2 w W' ok' vW vG R G' := by
  have l1 : w1 < W.heap.size := (Array.getElem?_eq_some_iff.1 h.box).1
  have l2 : w2 < W.heap.size := (Array.getElem?_eq_some_iff.1 h.gbox).1
  refine ⟨Kd.R_step h.row (fun k hk1 hlt => hk.2 k hlt (fun hp => by omega)), hr, ?_, ?_, hb⟩
  · rw [hk.2 w1 l1 (fun hp => by omega)]; exact h.box
  · rw [hk.2 w2 l2 (fun hp => by omega)]; exact h.gbox
end
set_option maxHeartbeats 8000000 in
set_option maxRecDepth 100000 in
theorem laws_FnExactReadIndex.calls (s : ByteArray) (m : Int) (w : World) (hm : w.cell? ⟨0, 0, none⟩ = some (.int .i64 m)) :
    Calls Tryd.prog 3 #[.string s] w fun e w' => e = .returned (.bool true) ∧ Below w.heap.size w w' := by
  by_cases hlong : (s.size : Int) > 1048576
  · go_enter Tryd.func3, Tryd.ntmps3
    go_wp2_with (fail)
    go_ret
    exact ⟨rfl, by repeat (first | exact Below.refl _ _ | apply pw_below_drewN | apply below_drew1)⟩
  have hs : s.size ≤ 1048576 := by omega
  have hl := srdF_len s
  have HS := Aside0.mk (fun W : World => spec_ReadIndex.calls s W hs)
  have HI := Aside0.mk (fun (W : World) (hW : W.cell? ⟨0, 0, none⟩ = some (.int .i64 m)) => impl_ReadIndex.all s m W hs hW)
  generalize (srdF s).1 = R at hl HS HI
  generalize (srdF s).2 = B at HS HI
  obtain ⟨kE, eE⟩ := ev_eqIndex_own R (by omega)
  obtain ⟨kM, eM⟩ := ev_markIndex R 1 (by omega) (by omega) (by omega)
  obtain ⟨kH, eH⟩ := ev_heldIndex 1 R.length (by omega) (by omega) (by omega)
  have HEE := Aside0.mk (eE kE (Nat.le_refl _))
  have HEM := Aside0.mk (eM kM (Nat.le_refl _))
  have HEH := Aside0.mk (eH kH (Nat.le_refl _))
  have HM := Aside0.mk (fun (W : World) (hb : Below w.heap.size w W) => (hb.cell (World.block_lt_of_cell? _ _ hm)).trans hm)
  have hz0 : ¬ ((1 : Int) + (R.length : Int) < 0) := by omega
  clear eE eM eH hm hl
  have M0 := Aside0.mk trivial
  go_enter Tryd.func3, Tryd.ntmps3
  go_wp2_with (first
    | (have q_ := M0; clear q_; go_at_call 4; (with_reducible refine (HS.out _).mono ?_); rintro e w1 ⟨vW, rfl, hvW, hb1⟩; obtain ⟨AW, cW, rfl⟩ := Kd.R_slice hvW; have HW := Aside0.mk (Kd.R_mono (ok' := fun k => k < w1.heap.size) (Kd.R_bound hvW) (fun k hk => hk.2.2.1)); have HB1 := Aside0.mk hb1; clear hvW hb1; clear M0; have M1 := Aside0.mk trivial)
    | (have q_ := M1; clear q_; go_at_call 5; have hal := below_alloc (Below.refl w1.heap.size w1) (.cells #[.slice AW R.length cW] 24); have hbe := below_step HB1.out hal; have hbx := blk_new w1 (.cells #[.slice AW R.length cW] 24); have hsz1 : (w1.alloc (.cells #[.slice AW R.length cW] 24)).heap.size = w1.heap.size + 1 := (by simp); have hro := Kd.R_below HW.out hal; (with_reducible refine (HI.out _ (HM.out _ hbe)).mono ?_); rintro e w2 ⟨vG, rfl, hvG, hb2⟩; obtain ⟨AG, cG, rfl⟩ := Kd.R_slice hvG; have hal2 := below_alloc (Below.refl w2.heap.size w2) (.cells #[.slice AG R.length cG] 24); have HS2 : Aside0 (RdS w1.heap.size w2.heap.size w (w2.alloc (.cells #[.slice AG R.length cG] 24)) (fun k => w1.heap.size + 1 ≤ k ∧ k < w2.heap.size) (.slice AW R.length cW) (.slice AG R.length cG) R R) := ⟨⟨Kd.R_below (Kd.R_below hro hb2) hal2, Kd.R_below (Kd.R_lower (Kd.R_mono (ok' := fun k => w1.heap.size + 1 ≤ k ∧ k < w2.heap.size) (Kd.R_bound hvG) (fun k hk => ⟨by have := hk.2.1; omega, hk.2.2.1⟩)) (by have := HB1.out.size; omega)) hal2, blk_below (blk_below hbx hb2) hal2, blk_new w2 _, below_step (below_step hbe hb2) hal2⟩⟩; have hcW := HS2.out.cellW; have hcG := HS2.out.cellG; clear hvG hb2 hal hbe hbx hsz1 hro hal2 HW HB1; clear M1; have M2 := Aside0.mk trivial)
    | (have q_ := M2; clear q_; go_at_call 6; (with_reducible refine (laws_eqIndex.calls kE AG cG R AW cW R true _ (Kd.R_reads' HS2.out.own).2.2 (Kd.R_reads' HS2.out.own).2.1 (Kd.R_reads' HS2.out.row).2.2 (Kd.R_reads' HS2.out.row).2.1 HEE.out).mono ?_); rintro e w3 ⟨rfl, hb3⟩; have HS3 := Aside0.mk (HS2.out.below hb3); clear HS2 hb3 hcW hcG; have hcG := HS3.out.cellG; clear M2; have M3 := Aside0.mk trivial)
    | (have q_ := M3; clear q_; go_at_call 7; (with_reducible refine (laws_markIndex.calls kM _ (.slice AG R.length cG) R 1 _ _ w _ HS3.out.bel HS3.out.own HEM.out).mono ?_); rintro e w4 ⟨rfl, hG4, hb4, hk4⟩; have HS4 := Aside0.mk (HS3.out.marked hG4 hb4 hk4); clear HS3 hG4 hb4 hk4 hcG; have hcG := HS4.out.cellG; clear M3; have M4 := Aside0.mk trivial)
    | (have q_ := M4; clear q_; go_at_call 8; (with_reducible refine (laws_heldIndex_len kH AG cG R.length 1 (1 + (R.length : Int)) _ HS4.out.own HEH.out).mono ?_); rintro e w5 ⟨rfl, hb5⟩; have HS5 := Aside0.mk (HS4.out.below hb5); clear HS4 hb5 hcG; clear M4; have M5 := Aside0.mk trivial)
    | (have q_ := M5; clear q_; go_at_call 5; (with_reducible refine (HI.out _ (HM.out _ HS5.out.bel)).mono ?_); rintro e w6 ⟨vH, rfl, hvH, hb6⟩; obtain ⟨AH, cH, rfl⟩ := Kd.R_slice hvH; have hal6 := below_alloc (Below.refl w6.heap.size w6) (.cells #[.slice AH R.length cH] 24); have HS6 := Aside0.mk ((HS5.out.below hb6).below hal6); have HH := Aside0.mk (Kd.R_below hvH hal6); have hcW := HS6.out.cellW; clear HS5 hvH hb6 hal6; clear M5; have M6 := Aside0.mk trivial)
    | (have q_ := M6; clear q_; go_at_call 6; (with_reducible refine (laws_eqIndex.calls kE AH cH R AW cW R true _ (Kd.R_reads' HH.out).2.2 (Kd.R_reads' HH.out).2.1 (Kd.R_reads' HS6.out.row).2.2 (Kd.R_reads' HS6.out.row).2.1 HEE.out).mono ?_); rintro e w7 ⟨rfl, hb7⟩; have HS7 := Aside0.mk (HS6.out.below hb7); clear HS6 hb7 hcW HH; have hcG := HS7.out.cellG; clear M6; have M7 := Aside0.mk trivial)
    | (have q_ := M7; clear q_; go_at_call 8; (with_reducible refine (laws_heldIndex_len kH AG cG R.length 1 (1 + (R.length : Int)) _ HS7.out.own HEH.out).mono ?_); rintro e w8 ⟨rfl, hb8⟩; have HS8 := Aside0.mk (HS7.out.below hb8); clear HS7 hb8 hcG; clear M7; have M8 := Aside0.mk trivial))
  go_ret
  exact ⟨rfl, HS8.out.bel⟩
end Go.Proofs.YthnpcalkcjkdhaaDoor.Q
