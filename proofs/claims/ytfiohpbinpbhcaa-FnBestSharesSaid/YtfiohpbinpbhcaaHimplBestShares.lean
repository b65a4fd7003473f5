/- impl.BestShares answers the best shares of a memory, from the last program to the first; no conditions. -/
import Derived.Test.YtfiohpbinpbhcaaQx0
import Derived.Test.YtfiohpbinpbhcaaHarePrograms
import Derived.Test.YtfiohpbinpbhcaaQx2
import Derived.Test.YtfiohpbinpbhcaaSbackrows
import Derived.Test.YtfiohpbinpbhcaaSbase
import Derived.Test.YtfiohpbinpbhcaaSbestshares
import Derived.Test.YtfiohpbinpbhcaaSdrawfew
import Derived.Test.YtfiohpbinpbhcaaSbshmem
import Derived.Test.YtfiohpbinpbhcaaScrv
import Derived.Test.YtfiohpbinpbhcaaSr8sum
import Derived.Test.YtfiohpbinpbhcaaSinround
import Derived.Test.YtfiohpbinpbhcaaSokuses
import Derived.RangeFuncBox
import Derived.RangeFuncLeaves
import Derived.RangeFuncWrites
import Derived.RangeFuncNested
import Derived.RangeFuncBound
import Derived.Shelf.Abstract
import Derived.OwnWalkIn
import Derived.TacticsInMore
import Derived.LoopNIn
import Derived.LoopIn
import Derived.Sort.LoopGhostIn
import Derived.BigQuiet
import Derived.Sort.QuietIn
import Derived.Maps.AppendAt
namespace Go.Proofs.Ytfiohpbinpbhcaa.Q
open Go.RowKit Go.Proofs.YtfiohpbinpbhcaaW.PrintWords Go.Proofs.YtfiohpbinpbhcaaW.PrintLast Go.Proofs.YtfiohpbinpbhcaaW.PrintMore
attribute [local go_sem] max2_int min2_int max_two min_two max_three min_three max_four min_four   -- for this text's walks alone
set_option linter.unusedVariables false
set_option linter.unusedSimpArgs false

attribute [local go_sem] Oper.semAt_some
open Go.ChangeShapes Go.WideShapes Go.Shelf
def impl_BestShares.f (l0 : List (List Int)) (a1 : Int) : Option (List Int × Int × Bool) := if okBest l0 a1 = true then some ((bshD l0 a1.toNat 0).1.getD a1.toNat [], rd (bshD l0 a1.toNat 0).2 a1, true) else some ([], 0, false)
/-- What the loop over the programs holds: the tables so far in their boxes, the programs in theirs. -/
structure BshI (wb : World) (b7 : Nat) (vP : Value) (S : List (List Int)) (M : List Int) (W : World) : Prop where
  s7 : ∃ vS, Boxed W b7 40 vS ∧ Kd.R (Kd.slice 2 (Kd.int .i64)) 22 W wb.heap.size (fun _ => True) vS S
  s8 : ∃ vM, Boxed W (b7 + 1) 22 vM ∧ Kd.R (Kd.int .i64) 2 W wb.heap.size (fun _ => True) vM M
  box : Boxed W (b7 + 2) 40 vP
  bel : Below wb.heap.size wb W
theorem BshI.below {wb : World} {b7 : Nat} {vP : Value} {S : List (List Int)} {M : List Int} {W W' : World} (h : BshI wb b7 vP S M W) (hb : Below W.heap.size W W') : BshI wb b7 vP S M W' := by
  obtain ⟨⟨vS, h1, h2⟩, ⟨vM, h3, h4⟩, h5, h6⟩ := h
  exact ⟨⟨vS, boxed_belowR h1 hb h1.lt, Kd.R_below h2 hb⟩, ⟨vM, boxed_belowR h3 hb h3.lt, Kd.R_below h4 hb⟩, boxed_belowR h5 hb h5.lt, below_step h6 hb⟩
theorem BshI.book {wb : World} {b7 : Nat} {vP : Value} {S : List (List Int)} {M : List Int} {X Y : World} {row : Option Nat} (h : BshI wb b7 vP S M X) (hg : X.grownBy Y row) (hr : ∀ r, row = some r → wb.heap.size ≤ r ∧ ∃ o : Obj, X.heap[r]? = some o ∧ o.isCells = false) : BshI wb b7 vP S M Y := by
  obtain ⟨⟨vS, h1, h2⟩, ⟨vM, h3, h4⟩, h5, h6⟩ := h
  have hb : ∀ {B : Nat} {t : TypeId} {v : Value}, Boxed X B t v → Boxed Y B t v := fun {B t v} hB => hB.kept hg (fun e => by
    obtain ⟨_, o, ho, hc⟩ := hr B e.symm
    have h : X.heap[B]? = some (.cells #[v] t (0, 0)) := hB
    rw [h] at ho
    cases ho
    cases hc)
  have hr2 : ∀ r, row = some r → ∃ o : Obj, X.heap[r]? = some o ∧ o.isCells = false := fun r e => (hr r e).2
  refine ⟨⟨vS, hb h1, R_book h2 hg hr2⟩, ⟨vM, hb h3, R_book h4 hg hr2⟩, hb h5, ?_⟩
  exact h6.grown hg h6.size (fun k e => (hr k e).1)
theorem BshI.put {wb : World} {b7 : Nat} {vP : Value} {S S' : List (List Int)} {M M' : List Int} {W : World} {u v : Value} {base : Nat} (h : BshI wb b7 vP S M W) (hS : Kd.R (Kd.slice 2 (Kd.int .i64)) 22 W base (fun _ => True) u S') (hM : Kd.R (Kd.int .i64) 2 W base (fun _ => True) v M') (hb : wb.heap.size ≤ b7) (hbase : b7 + 2 ≤ base) :
    BshI wb b7 vP S' M' ((W.setCell ⟨b7, 0, none⟩ u).setCell ⟨b7 + 1, 0, none⟩ v) := by
  obtain ⟨⟨vS, h1, h2⟩, ⟨vM, h3, h4⟩, h5, h6⟩ := h
  have k1 : W.heap[b7]? = some (.cells #[vS] 40 (0, 0)) := h1
  have k3 : W.heap[b7 + 1]? = some (.cells #[vM] 22 (0, 0)) := h3
  have s1 := blk_set k1 0 u
  have k3' : (W.setCell ⟨b7, 0, none⟩ u).heap[b7 + 1]? = some (.cells #[vM] 22 (0, 0)) := blk_far k3 (p := ⟨b7, 0, none⟩) (by show b7 + 1 ≠ b7; omega) u
  have s3 := blk_set k3' 0 v
  refine ⟨⟨u, ?_, ?_⟩, ⟨v, ?_, ?_⟩, ?_, (h6.setCell (p := ⟨b7, 0, none⟩) hb u).setCell (p := ⟨b7 + 1, 0, none⟩) (by show wb.heap.size ≤ b7 + 1; omega) v⟩
  · exact blk_far s1 (p := ⟨b7 + 1, 0, none⟩) (by show b7 ≠ b7 + 1; omega) v
  · exact Kd.R_lower (Kd.R_mono (Kd.R_far (p := ⟨b7 + 1, 0, none⟩) (Kd.R_far (p := ⟨b7, 0, none⟩) (Kd.R_bound hS) (fun k hk => by have := hk.2.1; show k ≠ b7; omega) u) (fun k hk => by have := hk.2.1; show k ≠ b7 + 1; omega) v) (fun _ _ => trivial)) (by omega)
  · exact s3
  · exact Kd.R_lower (Kd.R_mono (Kd.R_far (p := ⟨b7 + 1, 0, none⟩) (Kd.R_far (p := ⟨b7, 0, none⟩) (Kd.R_bound hM) (fun k hk => by have := hk.2.1; show k ≠ b7; omega) u) (fun k hk => by have := hk.2.1; show k ≠ b7 + 1; omega) v) (fun _ _ => trivial)) (by omega)
  · exact blk_far (blk_far (show W.heap[b7 + 2]? = _ from h5) (p := ⟨b7, 0, none⟩) (by show b7 + 2 ≠ b7; omega) u) (p := ⟨b7 + 1, 0, none⟩) (by show b7 + 2 ≠ b7 + 1; omega) v
theorem BshI.keeps {wb : World} {b7 : Nat} {vP : Value} {S : List (List Int)} {M : List Int} {W0 W : World} {u v : Value} (h : BshI wb b7 vP S M W) (hb : Below W0.heap.size W0 W) (B : Nat) : KeepsFrom B W0 ((W.setCell ⟨b7, 0, none⟩ u).setCell ⟨b7 + 1, 0, none⟩ v) := by
  obtain ⟨⟨vS, h1, h2⟩, ⟨vM, h3, h4⟩, h5, h6⟩ := h
  refine ⟨by simpa using hb.size, fun k o _ hk ho => ?_⟩
  have hkW : W.heap[k]? = some o := (hb.block k (Array.getElem?_eq_some_iff.1 hk).1).trans hk
  have n1 : k ≠ b7 := by
    rintro rfl
    rw [show W.heap[k]? = some (.cells #[vS] 40 (0, 0)) from h1] at hkW
    cases hkW
    cases ho
  have n2 : k ≠ b7 + 1 := by
    rintro rfl
    rw [show W.heap[b7 + 1]? = some (.cells #[vM] 22 (0, 0)) from h3] at hkW
    cases hkW
    cases ho
  exact (Below.heap_setCell _ ⟨b7 + 1, 0, none⟩ v k n2).trans ((Below.heap_setCell _ ⟨b7, 0, none⟩ u k n1).trans hkW)
/-- What the stores into the boxes ask. -/
theorem BshI.stores {wb : World} {b7 : Nat} {vP : Value} {S : List (List Int)} {M : List Int} {W : World} (h : BshI wb b7 vP S M W) : ∃ vS vM, W.cell? ⟨b7, 0, none⟩ = some vS ∧ W.cell? ⟨b7 + 1, 0, none⟩ = some vM ∧ W.frozen? ⟨b7, 0, none⟩ = false ∧ (∀ u, (W.setCell ⟨b7, 0, none⟩ u).cell? ⟨b7 + 1, 0, none⟩ = some vM) ∧ (∀ u, (W.setCell ⟨b7, 0, none⟩ u).frozen? ⟨b7 + 1, 0, none⟩ = false) := by
  obtain ⟨⟨vS, h1, h2⟩, ⟨vM, h3, h4⟩, h5, h6⟩ := h
  have k1 : W.heap[b7]? = some (.cells #[vS] 40 (0, 0)) := h1
  have k3 : W.heap[b7 + 1]? = some (.cells #[vM] 22 (0, 0)) := h3
  have k3' : ∀ u, (W.setCell ⟨b7, 0, none⟩ u).heap[b7 + 1]? = some (.cells #[vM] 22 (0, 0)) := fun u => blk_far k3 (p := ⟨b7, 0, none⟩) (by show b7 + 1 ≠ b7; omega) u
  exact ⟨vS, vM, blk_cell k1 0, blk_cell k3 0, blk_frozen k1 0, fun u => blk_cell (k3' u) 0, fun u => blk_frozen (k3' u) 0⟩
theorem isMost_f (s : Int) : impl_isMost.f s = some (okShare s) := by
  unfold impl_isMost.f impl_inRange.f okShare
  by_cases h0 : 0 ≤ s
  · simp [h0]
  · rw [if_neg h0, decide_eq_false h0]; rfl
set_option maxRecDepth 100000 in
set_option maxHeartbeats 8000000 in
theorem bsh_in (A0 : Option Addr) (c0 : Nat) (l0 : List (List Int)) (T : Nat) (w : World) (hr0 : Kd.C (Kd.slice 2 (Kd.int .i64)) w A0 l0.length l0) (hc0 : l0.length ≤ c0) (hT : T ≤ 60) (hg : okProgs l0 = true) (hne : l0 ≠ []) :
    CallsIn Fence.wide 3 Try.prog 33 #[.slice A0 l0.length c0, .int .i64 (T : Int)] w fun e w' => ∃ v0_ : Value, e = .returned (.tuple #[v0_, .int .i64 (rd (bshD l0 T 0).2 (T : Int)), .bool true]) ∧ Kd.R (Kd.int .i64) 2 w' w.heap.size (fun _ => True) v0_ ((bshD l0 T 0).1.getD T []) ∧ Below w.heap.size w w' := by
  have hl4 : l0.length ≤ 4 := by unfold okProgs at hg; simpa using (Bool.and_eq_true_iff.1 hg).1
  have hlp : 0 < l0.length := List.length_pos_iff.2 hne
  obtain ⟨wb, hwb⟩ : ∃ wb, wb = (w.alloc (.cells #[.slice A0 l0.length c0] 40)).alloc (.cells #[.int .i64 (T : Int)] 2) := ⟨_, rfl⟩
  have hbb : Below w.heap.size w wb := by rw [hwb]; exact below_alloc (below_alloc (Below.refl _ _) _) _
  have bP : Boxed wb w.heap.size 40 (.slice A0 l0.length c0) := by rw [hwb]; exact (Boxed.new w 40 (.slice A0 l0.length c0)).alloc _
  have bT : Boxed wb (w.heap.size + 1) 2 (.int .i64 (T : Int)) := by
    rw [hwb]
    have := Boxed.new (w.alloc (.cells #[.slice A0 l0.length c0] 40)) 2 (.int .i64 (T : Int))
    simpa using this
  have hzb : wb.heap.size = w.heap.size + 2 := by rw [hwb]; simp
  have HAP := Aside0.mk (impl_arePrograms.calls A0 c0 l0 true wb (Kd.C_below hr0 hbb) hc0 (by unfold impl_arePrograms.f; rw [hg]))
  have hlz : ((l0.length : Int) == 0) = false := beq_eq_false_iff_ne.mpr (by omega)
  have hln : (l0.length == 0) = false := beq_eq_false_iff_ne.mpr (by omega)
  have HMO := Aside0.mk (fun (W : World) => impl_isMost.calls (T : Int) true W (by rw [isMost_f]; congr 1; simp [okShare]; omega))
  have HBB := Aside0.mk hbb
  have HZB := Aside0.mk hzb
  have HBP := Aside0.mk bP
  have HBT := Aside0.mk bT
  have HPW := Aside0.mk (fun (W : World) (hb : Below wb.heap.size wb W) => (boxed_belowR bP hb (by omega)).cell)
  have HTW := Aside0.mk (fun (W : World) (hb : Below wb.heap.size wb W) => (boxed_belowR bT hb (by omega)).cell)
  clear hzb bP bT hbb
  have M0 := Aside0.mk trivial
  refine callsIn_of_wp_marks Try.func33 rfl trivial ?_ rfl
  simp only [Try.ntmps33, List.size_toArray, List.length_cons, List.length_nil, Nat.reduceAdd, Nat.reduceSub, Array.replicate_succ, Array.replicate_zero, List.push_toArray, List.append_toArray, List.nil_append, List.cons_append]
  gi_wp2_with (first
    | (have q_ := M0; clear q_; refine ⟨trivial, ?_⟩; gi_at_call 63; rw [← hwb]; refine (callsIn_wide.2 HAP.out).mono ?_; rintro e w1 ⟨rfl, hb1⟩; have hp1 := HPW.out w1 hb1; have ht1 := HTW.out w1 hb1; have HB1 := Aside0.mk hb1; clear hb1 hwb M0; have M1 := Aside0.mk trivial)
    | (have q_ := M1; clear q_; refine ⟨trivial, ?_⟩; gi_at_call 58; refine (callsIn_wide.2 (HMO.out w1)).mono ?_; rintro e w2 ⟨rfl, ⟨nd, hw2⟩⟩; have hb2 := (show Below wb.heap.size wb w2 from by rw [hw2]; exact pw_below_drewN HB1.out nd); have hp2 := HPW.out w2 hb2; have ht2 := HTW.out w2 hb2; have HB2 := Aside0.mk hb2; obtain ⟨w3, hw3⟩ : ∃ w3, w3 = ((((w2.alloc (.cells #[] 22)).alloc (.cells #[] 2)).alloc (.cells #[.slice (some ⟨w2.heap.size, 0, none⟩) 0 0] 40)).alloc (.cells #[.slice (some ⟨w2.heap.size + 1, 0, none⟩) 0 0] 22)) := ⟨_, rfl⟩; have hb3 := (show Below wb.heap.size wb w3 from by rw [hw3]; exact below_alloc (below_alloc (below_alloc (below_alloc hb2 _) _) _) _); have hp3 := HPW.out w3 hb3; rw [hw3] at hp3; have HB3 := Aside0.mk hb3; have HW3 := Aside0.mk hw3; clear hb2 hb3 hw2 hw3 hp1 ht1 M1; have M2 := Aside0.mk trivial)
    | (have q_ := M2; clear q_; refine ⟨trivial, ?_⟩; gi_at_call 64; rw [← HW3.out]; refine (callsIn_wide.2 (backR_calls A0 l0.length c0 w3)).mono ?_; rintro e w4 ⟨rfl, hw4⟩; have HW4 := Aside0.mk hw4; clear hw4 hp2 ht2 hp3 M2; have M3 := Aside0.mk trivial))
  obtain ⟨b7, hb7⟩ : ∃ b7, b7 = w2.heap.size + 1 + 1 := ⟨_, rfl⟩
  rw [← hb7]
  have hz3 : w3.heap.size = b7 + 2 := by rw [HW3.out, hb7]; simp
  have hz4 : w4.heap.size = b7 + 3 := by rw [HW4.out]; simp [hz3]
  have hz2 : wb.heap.size ≤ w2.heap.size := HB2.out.size
  have hi0 : BshI wb b7 (.slice A0 l0.length c0) (bshD l0 T l0.length).1 (bshD l0 T l0.length).2 w4 := by
    rw [bshD_end]
    have h7 : Boxed w3 b7 40 (.slice (some ⟨w2.heap.size, 0, none⟩) 0 0) := by
      rw [HW3.out, hb7]
      have := Boxed.new ((w2.alloc (.cells #[] 22)).alloc (.cells #[] 2)) 40 (.slice (some ⟨w2.heap.size, 0, none⟩) 0 0)
      have := this.alloc (.cells #[.slice (some ⟨w2.heap.size + 1, 0, none⟩) 0 0] 22)
      simpa using this
    have h8 : Boxed w3 (b7 + 1) 22 (.slice (some ⟨w2.heap.size + 1, 0, none⟩) 0 0) := by
      rw [HW3.out, hb7]
      have := Boxed.new (((w2.alloc (.cells #[] 22)).alloc (.cells #[] 2)).alloc (.cells #[.slice (some ⟨w2.heap.size, 0, none⟩) 0 0] 40)) 22 (.slice (some ⟨w2.heap.size + 1, 0, none⟩) 0 0)
      simpa using this
    have r7 : Kd.R (Kd.slice 2 (Kd.int .i64)) 22 w3 wb.heap.size (fun _ => True) (.slice (some ⟨w2.heap.size, 0, none⟩) 0 0) [] := by
      rw [HW3.out]
      exact Kd.R_alloc (Kd.R_alloc (Kd.R_alloc (rows_new w2 wb.heap.size hz2) _) _) _
    have r8 : Kd.R (Kd.int .i64) 2 w3 wb.heap.size (fun _ => True) (.slice (some ⟨w2.heap.size + 1, 0, none⟩) 0 0) [] := by
      rw [HW3.out]
      have h := ints_new (w2.alloc (.cells #[] 22)) wb.heap.size (by simp; omega)
      rw [World.size_alloc] at h
      exact Kd.R_alloc (Kd.R_alloc h _) _
    rw [HW4.out]
    refine ⟨⟨_, h7.alloc _, Kd.R_alloc r7 _⟩, ⟨_, h8.alloc _, Kd.R_alloc r8 _⟩, ?_, below_alloc HB3.out _⟩
    have := Boxed.new w3 40 (.slice A0 l0.length c0)
    rw [hz3] at this
    exact this
  have hrow : ∀ x : Nat, x < l0.length → ∃ ad Ax cx, A0 = some ad ∧ ad.block < w.heap.size ∧ w.cell? (ad.add x) = some (.slice Ax (rd_L2 l0 (x : Int)).length cx) ∧ (rd_L2 l0 (x : Int)).length ≤ cx ∧ Kd.C (Kd.int .i64) w Ax (rd_L2 l0 (x : Int)).length (rd_L2 l0 (x : Int)) := by
    intro x hx
    obtain ⟨ad, Ax, cx, e, hx0, hcx, hCx⟩ := at_L2 hr0 (x : Int) (by omega) (by omega)
    simp only [Int.toNat_natCast] at hx0
    have hlt := World.block_lt_of_cell? _ _ hx0
    rw [rback_block] at hlt
    exact ⟨ad, Ax, cx, e, hlt, hx0, hcx, hCx⟩
  obtain ⟨vs, hvs⟩ : ∃ vs : Nat → Value, vs = fun x => (A0.bind fun ad => w.cell? (ad.add x)).getD (.int .i64 0) := ⟨_, rfl⟩
  have hvx : ∀ x : Nat, x < l0.length → ∃ ad Ax cx, A0 = some ad ∧ ad.block < w.heap.size ∧ w.cell? (ad.add x) = some (vs x) ∧ vs x = .slice Ax (rd_L2 l0 (x : Int)).length cx ∧ (rd_L2 l0 (x : Int)).length ≤ cx ∧ Kd.C (Kd.int .i64) w Ax (rd_L2 l0 (x : Int)).length (rd_L2 l0 (x : Int)) := by
    intro x hx
    obtain ⟨ad, Ax, cx, e, h1, h2, h3, h4⟩ := hrow x hx
    have hv : vs x = .slice Ax (rd_L2 l0 (x : Int)).length cx := by rw [hvs, e]; simp [h2]
    exact ⟨ad, Ax, cx, e, h1, by rw [hv]; exact h2, hv, h3, h4⟩
  have HVX := Aside0.mk hvx
  have HZ2 := Aside0.mk hz2
  have HZ3 := Aside0.mk hz3
  have HZ4 := Aside0.mk hz4
  have HB7 := Aside0.mk hb7
  have HL4 := Aside0.mk hl4
  have HPU := Aside0.mk (show ∀ x ∈ l0, okUses x = true from by unfold okProgs at hg; exact List.all_eq_true.1 (Bool.and_eq_true_iff.1 hg).2)
  clear hrow hvx hvs hz2 hz4 hl4 hr0 hc0 hg hne hlz hln
  have hwz : w.heap.size ≤ wb.heap.size := HBB.out.size
  have HWZ := Aside0.mk hwz
  clear hwz hb7
  rw [hz3]
  clear hz3
  refine range_down (F := Fence.wide) (n := 3) rfl (by omega) (gf := 80) (lb := #[.pointer (some ⟨b7 + 2, 0, none⟩)]) rfl trivial (enters_of Try.func80 (by kernel_rfl) rfl) l0.length (fun x => #[.int .i64 x, vs x]) (fun _ => rfl)
    (fun k W => BshI wb b7 (.slice A0 l0.length c0) (bshD l0 T k).1 (bshD l0 T k).2 W)
    (fun l J W hJI hY hJ0 => backR1_in Fence.wide (3 - 1) trivial rfl (by omega) l (b7 + 2) l0.length c0 A0 vs (by have := HL4.out; omega) J (fun k W hj => ⟨(hJI k W hj).box, fun hp => ?seq⟩) hY W hJ0)
    (fun k X Y row hs hg hr => BshI.book hs hg (fun r e => ⟨by have := (hr r e).1; have := HZ4.out; have := HZ2.out; have := HB7.out; omega, (hr r e).2⟩)) hi0 ?a1 ?assign ?body ?done
  case seq =>
    obtain ⟨ad, _, _, e, h1, h2, _⟩ := HVX.out 0 hp
    refine ⟨ad, e, fun j hjl => ?_⟩
    obtain ⟨ad2, _, _, e2, h1, h2, _⟩ := HVX.out j hjl
    rw [e] at e2
    cases e2
    exact ((hJI k W hj).bel.cell (p := ad.add j) (by rw [rback_block]; have := HWZ.out; omega)).trans ((HBB.out.cell (p := ad.add j) (by rw [rback_block]; exact h1)).trans h2)
  case assign =>
    intro l k W K hK
    gi_wp2
    exact hK
  case body =>
    intro l k W hk hI
    obtain ⟨_, Ax, cx, e0, e1, e2, hv, hcx, hCx⟩ := HVX.out k hk
    clear e0 e1 e2
    have hkz : (rd_L2 l0 (k : Int)) ∈ l0 := by
      show l0.getD k [] ∈ l0
      rw [List.getD_eq_getElem?_getD, List.getElem?_eq_getElem hk, Option.getD_some]
      exact List.getElem_mem hk
    have hou := HPU.out _ hkz
    obtain ⟨_, hul⟩ := (okUses_iff _).1 hou
    rw [hv]
    have HI := Aside0.mk hI
    have HBW := Aside0.mk (HBB.out.trans (hI.bel.mono HBB.out.size))
    have HBK := Aside0.mk hI.bel
    obtain ⟨D, hD⟩ : ∃ D, D = bshD l0 T k := ⟨_, rfl⟩
    obtain ⟨D1, hD1⟩ : ∃ D1, D1 = bshD l0 T (k + 1) := ⟨_, rfl⟩
    have HD := Aside0.mk hD
    have HD1 := Aside0.mk hD1
    rw [← hD1] at HI
    obtain ⟨⟨vS, hbS, hrS⟩, ⟨vM, hbM, hrM⟩, _, _⟩ := HI.out
    obtain ⟨AS, cS, eS⟩ := Kd.R_slice hrS
    obtain ⟨AM, cM, eM⟩ := Kd.R_slice hrM
    subst eS
    subst eM
    have HBS := Aside0.mk (fun (W' : World) (hb : Below W.heap.size W W') => (boxed_belowR hbS hb hbS.lt).cell)
    have HBM := Aside0.mk (fun (W' : World) (hb : Below W.heap.size W W') => (boxed_belowR hbM hb hbM.lt).cell)
    have HRS := Aside0.mk hrS
    have HRM := Aside0.mk hrM
    clear hbS hbM hrS hrM
    obtain ⟨X, hX⟩ : ∃ X, X = rd_L2 l0 (k : Int) := ⟨_, rfl⟩
    have HX := Aside0.mk hX
    rw [← hX] at hcx hCx hul ⊢
    have hdl : (dists X).length = X.length := distsTo_length _ _
    obtain ⟨KD, hKD⟩ := ev_distancesOf X (by omega)
    obtain ⟨KC, hKC⟩ := ev_impl_curve (dists X) T (by omega) (by omega)
    have hcl := crv_length (dists X) (T + 1)
    have HDI := Aside0.mk (fun (W' : World) (hb : Below w.heap.size w W') => impl_distancesOf.calls KD Ax cx X (dists X) W' (Kd.C_below hCx hb) hcx (hKD KD (Nat.le_refl _)))
    have HCU := Aside0.mk (fun (A : Option Addr) (c : Nat) (W' : World) (hC : Kd.C (Kd.int .i64) W' A (dists X).length (dists X)) (hc : (dists X).length ≤ c) => impl_curve.calls KC A c (dists X) (T : Int) (crv (dists X) (T + 1)) W' hC hc (hKC KC (Nat.le_refl _)))
    have HCV : Aside0 (crv (dists X) (T + 1) = crvT T (rd_L2 l0 (k : Int))) := ⟨by rw [← hX]; rfl⟩
    obtain ⟨CV, hCV⟩ : ∃ CV, CV = crv (dists X) (T + 1) := ⟨_, rfl⟩
    rw [← hCV] at HCU HCV hcl
    obtain ⟨DS, hDS⟩ : ∃ DS, DS = dists X := ⟨_, rfl⟩
    rw [← hDS] at HCU HDI
    have HCL := Aside0.mk hcl
    have HK := Aside0.mk hk
    clear hI hD hD1 hX hCx hcx hul hdl hKD hKC hcl hCV hDS hou hkz hv hk
    gi_wp2_with (fail)
    have hbd : Below w.heap.size w W.drew := below_drew1 HBW.out
    refine startR_ (n := 5) (S := fun w' => w'.cell? ⟨w.heap.size + 1, 0, none⟩ = some (.int .i64 (T : Int))) (ds := []) #[false, false, false, false, false] (by kernel_rfl) rfl rfl (by kernel_rfl) (fun ⟨_, _, h⟩ => by cases h.1) (HTW.out _ (below_drew1 HBK.out)) (fun hHeld => ?_)
    refine pure_ (i := 0) (N := some 38) (v := ?_) (a' := ?_) #[true, false, false, false, false] rfl rfl (by kernel_rfl) (fun _ _ _ h => h) (Or.inl ⟨by rfl, ?_⟩) ?_ ?_
    rotate_left
    · intro w'
      go_simp
      with_reducible rfl
    rotate_left
    · simp only [Act.put, List.setIfInBounds_toArray, List.set_cons_zero, List.set_cons_succ, i64_w, i32_w]
      rfl
    refine take_ (i := 2) (N := some 40) (v := ?_) (a' := ?_) #[true, false, true, false, false] rfl rfl (by kernel_rfl) (fun _ _ _ h => h) (Or.inl ⟨by rfl, ?_⟩) hHeld ?_ ?_
    rotate_left
    · intro w' s0
      go_simp
      with_reducible rfl
    rotate_left
    · simp only [Act.put, List.setIfInBounds_toArray, List.set_cons_zero, List.set_cons_succ, i64_w, i32_w]
      rfl
    refine one_ (i := 1) (N := some 39) #[true, true, true, false, false] rfl rfl (by kernel_rfl) (by decide) (fun K hK => ?_)
    refine goes_ Try.func55 (by kernel_rfl) rfl #[.slice Ax X.length cx] (by rfl) rfl rfl (by (try simp only [List.map_toArray, List.map_cons, List.map_nil]); first | done | rfl) ?_
    with_reducible refine (HDI.out _ hbd).mono ?_
    rintro e w5 ⟨v5, rfl, hv5, hb5⟩
    refine ⟨_, rfl, ?_⟩
    obtain ⟨A5, c5, rfl, hc5, hC5⟩ := Kd.R_reads hv5
    have HB5 := Aside0.mk (show Below W.heap.size W w5 from below_step (below_drew1 (Below.refl _ _)) hb5)
    refine hK.out _ _ (HTW.out _ (below_step HBK.out HB5.out)) (fun hHeld => ?_)
    clear hK K hv5 hb5 hbd
    refine norm_ (a' := ?_) ?_ ?_
    rotate_left
    · show Act.put _ (some 39) _ = _
      simp only [Act.put, List.setIfInBounds_toArray, List.set_cons_zero, List.set_cons_succ, i64_w, i32_w]
      rfl
    refine one_ (i := 3) (N := some 41) #[true, true, true, true, false] rfl rfl (by kernel_rfl) (by decide) (fun K hK => ?_)
    refine goes_ Try.func60 (by kernel_rfl) rfl #[.slice A5 DS.length c5, .int .i64 (T : Int)] (by rfl) rfl rfl (by (try simp only [List.map_toArray, List.map_cons, List.map_nil]); first | done | rfl) ?_
    with_reducible refine (HCU.out A5 c5 _ hC5 hc5).mono ?_
    rintro e w6 ⟨v6, rfl, hv6, hb6⟩
    refine ⟨_, rfl, ?_⟩
    obtain ⟨A6, c6, rfl⟩ := Kd.R_slice hv6
    have HB6 := Aside0.mk (show Below W.heap.size W w6 from below_step HB5.out hb6)
    have HC6 := Aside0.mk hv6
    refine hK.out _ _ (HTW.out _ (below_step HBK.out HB6.out)) (fun hHeld => ?_)
    clear hK K hb6 hv6 hC5 hc5 HB5
    refine norm_ (a' := ?_) ?_ ?_
    rotate_left
    · show Act.put _ (some 41) _ = _
      simp only [Act.put, List.setIfInBounds_toArray, List.set_cons_zero, List.set_cons_succ, i64_w, i32_w]
      rfl
    refine pure_ (i := 4) (N := some 11) (v := ?_) (a' := ?_) #[true, true, true, true, true] rfl rfl (by kernel_rfl) (fun _ _ _ h => h) (Or.inl ⟨by rfl, ?_⟩) ?_ ?_
    rotate_left
    · intro w'
      go_simp
      with_reducible rfl
    rotate_left
    · simp only [Act.put, List.setIfInBounds_toArray, List.set_cons_zero, List.set_cons_succ, i64_w, i32_w]
      rfl
    refine done_ (by kernel_rfl) ?_
    clear hHeld
    have ht6 := HTW.out _ (below_step HBK.out HB6.out)
    have HNX := Aside0.mk (NX.start2 w6)
    obtain ⟨w8, hw8⟩ : ∃ w8, w8 = (w6.alloc (.cells #[] 22)).alloc (.cells #[] 2) := ⟨_, rfl⟩
    have ht8 := HTW.out w8 (by rw [hw8]; exact below_alloc (below_alloc (below_step HBK.out HB6.out) _) _)
    rw [hw8] at ht8
    have hwT : wrap64 ((T : Int) + 1) = ((T + 1 : Nat) : Int) := wrap64_succ (by omega)
    gi_wp2_with (fail)
    clear hw8 w8
    have hD2 : D.1.length = T + 1 ∧ D.2.length = T + 1 := by rw [HD.out]; exact bshD_len l0 T k HK.out
    have HDL := Aside0.mk hD2
    clear hD2
    gi_loopg [12, 13, 46] (T + 1) (fun gg s12 s13 s46 wr => ∃ (n : Nat) (vA vB : Value), s12 = vA ∧ s13 = vB ∧ s46 = .int .i64 n ∧ Aside0 (n ≤ T + 1 ∧ T + 1 - n ≤ gg) ∧ Aside0 (NX w6 wr vA vB (D.1.take n) (D.2.take n) (fun _ => False)))
    case atStart => exact ⟨0, _, _, rfl, rfl, rfl, ⟨⟨Nat.zero_le _, by omega⟩⟩, ⟨by simpa using HNX.out⟩⟩
    case round =>
      clear HNX ht8 ht6
      obtain ⟨n, vA, vB, hA, hB, rfl, HN, HX⟩ := hrel
      subst hA
      subst hB
      obtain ⟨XA, hXA⟩ : ∃ XA, XA = D.1.take n := ⟨_, rfl⟩
      obtain ⟨YB, hYB⟩ : ∃ YB, YB = D.2.take n := ⟨_, rfl⟩
      rw [← hXA, ← hYB] at HX
      have HXA := Aside0.mk hXA
      have HYB := Aside0.mk hYB
      have HXL : Aside0 (XA.length = n ∧ n ≤ 61) := ⟨by rw [hXA, List.length_take]; have := HDL.out; have := HN.out; omega⟩
      have HYL : Aside0 (YB.length = n ∧ n ≤ 61) := ⟨by rw [hYB, List.length_take]; have := HDL.out; have := HN.out; omega⟩
      clear hXA hYB
      obtain ⟨Aa, ca, Ab, cb, eA, eB⟩ := HX.out.slices
      subst eA
      subst eB
      have hbk := below_step (below_step HBK.out HB6.out) HX.out.bel
      have HBK2 := Aside0.mk hbk
      by_cases hlt : n < T + 1
      · have hltz : (n : Int) < ((T + 1 : Nat) : Int) := by omega
        have h0z : (0 : Int) ≤ (n : Int) := by omega
        have hncv : (n : Int) < (CV.length : Int) := by have := HCL.out; omega
        have hpr := HPW.out wr hbk
        obtain ⟨_, _, hC6⟩ := Kd.R_reads' HC6.out
        obtain ⟨ad6, e6, hx6⟩ := Kd.at_int hC6 (n : Int) h0z hncv
        cases e6
        simp only [Int.toNat_natCast] at hx6
        have HS := Aside0.mk (show ∀ W', Below w6.heap.size w6 W' → W'.cell? (ad6.add n) = some (.int .i64 (rd CV (n : Int))) from fun W' hb => (hb.cell (World.block_lt_of_cell? _ _ hx6)).trans hx6)
        clear hx6 hC6
        by_cases hlast : k + 1 = l0.length
        · have hwl : wrap64 ((l0.length : Int) - 1) = (k : Int) := by have := HL4.out; rw [wrap64_id (by omega) (by omega)]; omega
          have HNA : Aside0 (D.1.take (n + 1) = XA ++ [[(n : Int)]]) := ⟨by rw [HXA.out, HD.out, bshD_last l0 T k hlast]; exact take_mapRange _ T n hlt⟩
          have HNB : Aside0 (D.2.take (n + 1) = YB ++ [rd CV (n : Int)]) := ⟨by rw [HYB.out, HD.out, bshD_last l0 T k hlast, HCV.out]; exact take_mapRange _ T n hlt⟩
          clear hbk
          gi_wp2_with (fail)
          refine region_cutR (fun a a' W' => ∃ (v56 v57 v62 v64 vA' vB' : Value), a' = Go.Proofs.YtfiohpbinpbhcaaW.PrintLast.putAll a [(54, .slice Aa XA.length ca), (55, .int .i64 n), (56, v56), (57, v57), (58, vA'), (59, .slice Ab YB.length cb), (60, .slice (some ad6) CV.length c6), (61, .int .i64 n), (62, v62), (63, .int .i64 (rd CV (n : Int))), (64, v64), (65, vB'), (12, vA'), (13, vB')] ∧ NX w6 W' vA' vB' (XA ++ [[(n : Int)]]) (YB ++ [rd CV (n : Int)]) (fun _ => False)) ?_ ?_
          rotate_left
          · rintro a' W' ⟨v56, v57, v62, v64, vA', vB', rfl, hN⟩
            have HNN := Aside0.mk hN
            clear hN
            simp only [Go.Proofs.YtfiohpbinpbhcaaW.PrintLast.putAll, Act.put, List.setIfInBounds_toArray, List.set_cons_zero, List.set_cons_succ]
            gi_wp2_with (fail)
            gi_roundg (T + 1 - (n + 1))
            case measure => have := HN.out; omega
            case rel => exact ⟨n + 1, _, _, rfl, rfl, by first | rfl | (push_cast; rfl), ⟨by have := HN.out; omega⟩, ⟨by rw [HNA.out, HNB.out]; exact HNN.out⟩⟩
          refine startR_ (n := 14) (S := fun w' => w'.cell? (ad6.add n) = some (.int .i64 (rd CV (n : Int)))) (ds := []) #[false, false, false, false, false, false, false, false, false, false, false, false, false, false] (by kernel_rfl) rfl rfl (by kernel_rfl) (fun ⟨_, _, h⟩ => by cases h.1) (HS.out _ (below_drew1 HX.out.bel)) (fun hHeld => ?_)
          have HX0 := Aside0.mk (HX.out.below (below_drew (Below.refl _ _)))
          generalize wr.drew = V0 at HX0 hHeld ⊢
          refine pure_ (i := 0) (N := some 54) (v := ?_) (a' := ?_) #[true, false, false, false, false, false, false, false, false, false, false, false, false, false] rfl rfl (by kernel_rfl) (fun _ _ _ h => by cases h.1) (Or.inl ⟨by rfl, ?_⟩) ?_ ?_
          rotate_left
          · intro w'
            go_simp
            with_reducible rfl
          rotate_left
          · simp only [Act.put, List.setIfInBounds_toArray, List.set_cons_zero, List.set_cons_succ, i64_w, i32_w]
            rfl
          refine pure_ (i := 1) (N := some 55) (v := ?_) (a' := ?_) #[true, true, false, false, false, false, false, false, false, false, false, false, false, false] rfl rfl (by kernel_rfl) (fun _ _ _ h => by cases h.1) (Or.inl ⟨by rfl, ?_⟩) ?_ ?_
          rotate_left
          · intro w'
            go_simp
            with_reducible rfl
          rotate_left
          · simp only [Act.put, List.setIfInBounds_toArray, List.set_cons_zero, List.set_cons_succ, i64_w, i32_w]
            rfl
          refine pure_ (i := 5) (N := some 59) (v := ?_) (a' := ?_) #[true, true, false, false, false, true, false, false, false, false, false, false, false, false] rfl rfl (by kernel_rfl) (fun _ _ _ h => by cases h.1) (Or.inl ⟨by rfl, ?_⟩) ?_ ?_
          rotate_left
          · intro w'
            go_simp
            with_reducible rfl
          rotate_left
          · simp only [Act.put, List.setIfInBounds_toArray, List.set_cons_zero, List.set_cons_succ, i64_w, i32_w]
            rfl
          refine pure_ (i := 6) (N := some 60) (v := ?_) (a' := ?_) #[true, true, false, false, false, true, true, false, false, false, false, false, false, false] rfl rfl (by kernel_rfl) (fun _ _ _ h => by cases h.1) (Or.inl ⟨by rfl, ?_⟩) ?_ ?_
          rotate_left
          · intro w'
            go_simp
            with_reducible rfl
          rotate_left
          · simp only [Act.put, List.setIfInBounds_toArray, List.set_cons_zero, List.set_cons_succ, i64_w, i32_w]
            rfl
          refine pure_ (i := 7) (N := some 61) (v := ?_) (a' := ?_) #[true, true, false, false, false, true, true, true, false, false, false, false, false, false] rfl rfl (by kernel_rfl) (fun _ _ _ h => by cases h.1) (Or.inl ⟨by rfl, ?_⟩) ?_ ?_
          rotate_left
          · intro w'
            go_simp
            with_reducible rfl
          rotate_left
          · simp only [Act.put, List.setIfInBounds_toArray, List.set_cons_zero, List.set_cons_succ, i64_w, i32_w]
            rfl
          refine pure_ (i := 8) (N := some 62) (v := ?_) (a' := ?_) #[true, true, false, false, false, true, true, true, true, false, false, false, false, false] rfl rfl (by kernel_rfl) (fun _ _ _ h => by cases h.1) (Or.inl ⟨by rfl, ?_⟩) ?_ ?_
          rotate_left
          · intro w'
            go_simp
            with_reducible rfl
          rotate_left
          · simp only [Act.put, List.setIfInBounds_toArray, List.set_cons_zero, List.set_cons_succ, i64_w, i32_w]
            rfl
          refine take_ (i := 9) (N := some 63) (v := ?_) (a' := ?_) #[true, true, false, false, false, true, true, true, true, true, false, false, false, false] rfl rfl (by kernel_rfl) (fun _ _ _ h => by cases h.1) (Or.inl ⟨by rfl, ?_⟩) hHeld ?_ ?_
          rotate_left
          · intro w' s0
            go_simp
            with_reducible rfl
          rotate_left
          · simp only [Act.put, List.setIfInBounds_toArray, List.set_cons_zero, List.set_cons_succ, i64_w, i32_w]
            rfl
          clear hHeld
          refine two_ (i := 2) (j := 10) (Ni := some 56) (Nj := some 64) #[true, true, true, false, false, true, true, true, true, true, false, false, false, false] #[true, true, false, false, false, true, true, true, true, true, true, false, false, false] rfl rfl rfl rfl (by kernel_rfl) (by decide) (by decide) (fun K hK => ?_) (fun K hK => ?_)
          · refine value_ (w1 := ?_) (v := ?_) (by rfl) rfl ?_ ?_
            rotate_left 2
            · go_simp
              constructor
              · rfl
              · rfl
            have HX1 := Aside0.mk (HX0.out.keep (below_alloc (Below.refl V0.heap.size V0) (Obj.cells #[Value.int .i64 (n : Int)] 2)))
            have HU1 := Aside0.mk (lit_one V0 w6.heap.size HX0.out.bel.size (n : Int) (fun k => False ∨ V0.heap.size ≤ k) (.inr (Nat.le_refl _)))
            refine hK.out _ _ (HS.out _ HX1.out.bel) (fun hHeld => ?_)
            clear hK K hHeld
            refine norm_ (a' := ?_) ?_ ?_
            rotate_left
            · show Act.put _ (some 56) _ = _
              simp only [Act.put, List.setIfInBounds_toArray, List.set_cons_zero, List.set_cons_succ, i64_w, i32_w]
              rfl
            generalize V0.alloc (Obj.cells #[Value.int .i64 (n : Int)] 2) = V1 at HX1 HU1 ⊢
            refine two_ (i := 3) (j := 10) (Ni := some 57) (Nj := some 64) #[true, true, true, true, false, true, true, true, true, true, false, false, false, false] #[true, true, true, false, false, true, true, true, true, true, true, false, false, false] rfl rfl rfl rfl (by kernel_rfl) (by decide) (by decide) (fun K hK => ?_) (fun K hK => ?_)
            · refine value_ (w1 := ?_) (v := ?_) (by rfl) rfl ?_ ?_
              rotate_left 2
              · go_simp
                constructor
                · rfl
                · rfl
              have HX2 := Aside0.mk (HX1.out.keep (below_alloc (Below.refl V1.heap.size V1) (Obj.cells #[Value.slice (some ⟨V0.heap.size, 0, none⟩) 1 1] 22)))
              have HU2 := Aside0.mk (Kd.R_mono (ok' := fun k => (False ∨ V0.heap.size ≤ k) ∨ V1.heap.size ≤ k) (Kd.R_alloc HU1.out (Obj.cells #[Value.slice (some ⟨V0.heap.size, 0, none⟩) 1 1] 22)) (fun k hk => .inl hk))
              have H572 := Aside0.mk (blk_new V1 (Obj.cells #[Value.slice (some ⟨V0.heap.size, 0, none⟩) 1 1] 22))
              refine hK.out _ _ (HS.out _ HX2.out.bel) (fun hHeld => ?_)
              clear hK K hHeld
              refine norm_ (a' := ?_) ?_ ?_
              rotate_left
              · show Act.put _ (some 57) _ = _
                simp only [Act.put, List.setIfInBounds_toArray, List.set_cons_zero, List.set_cons_succ, i64_w, i32_w]
                rfl
              generalize V1.alloc (Obj.cells #[Value.slice (some ⟨V0.heap.size, 0, none⟩) 1 1] 22) = V2 at HX2 HU2 H572 ⊢
              refine two_ (i := 4) (j := 10) (Ni := some 58) (Nj := some 64) #[true, true, true, true, true, true, true, true, true, true, false, false, false, false] #[true, true, true, true, false, true, true, true, true, true, true, false, false, false] rfl rfl rfl rfl (by kernel_rfl) (by decide) (by decide) (fun K hK => ?_) (fun K hK => ?_)
              · refine NX.stepA HX2.out (by rfl) (.tmp 54) (.tmp 57) rfl rfl rfl H572.out HU2.out (by have := HXL.out; omega) ?_
                intro v3 V3 hN hT
                obtain ⟨Aa3, ca3, eA⟩ := hN.sliceA
                rw [List.length_append, List.length_singleton] at eA
                subst eA
                have HX3 := Aside0.mk hN
                refine hK.out _ _ (HS.out _ HX3.out.bel) (fun hHeld => ?_)
                clear hK K hHeld hN hT
                refine norm_ (a' := ?_) ?_ ?_
                rotate_left
                · show Act.put _ (some 58) _ = _
                  simp only [Act.put, List.setIfInBounds_toArray, List.set_cons_zero, List.set_cons_succ, i64_w, i32_w]
                  rfl
                refine one_ (i := 10) (N := some 64) #[true, true, true, true, true, true, true, true, true, true, true, false, false, false] rfl rfl (by kernel_rfl) (by decide) (fun K hK => ?_)
                refine value_ (w1 := ?_) (v := ?_) (by rfl) rfl ?_ ?_
                rotate_left 2
                · go_simp
                  constructor
                  · rfl
                  · rfl
                have HX4 := Aside0.mk (HX3.out.keep (below_alloc (Below.refl V3.heap.size V3) (Obj.cells #[Value.int .i64 (rd CV (n : Int))] 2)))
                have H644 := Aside0.mk (blk_new V3 (Obj.cells #[Value.int .i64 (rd CV (n : Int))] 2))
                refine hK.out _ _ (HS.out _ HX4.out.bel) (fun hHeld => ?_)
                clear hK K hHeld
                refine norm_ (a' := ?_) ?_ ?_
                rotate_left
                · show Act.put _ (some 64) _ = _
                  simp only [Act.put, List.setIfInBounds_toArray, List.set_cons_zero, List.set_cons_succ, i64_w, i32_w]
                  rfl
                generalize V3.alloc (Obj.cells #[Value.int .i64 (rd CV (n : Int))] 2) = V4 at HX4 H644 ⊢
                refine one_ (i := 11) (N := some 65) #[true, true, true, true, true, true, true, true, true, true, true, true, false, false] rfl rfl (by kernel_rfl) (by decide) (fun K hK => ?_)
                refine NX.stepB HX4.out (by rfl) (.tmp 59) (.tmp 64) rfl rfl rfl H644.out (by have := HYL.out; omega) ?_
                intro v5 V5 hN hU hT
                obtain ⟨Ab5, cb5, eB⟩ := hN.sliceB
                rw [List.length_append, List.length_singleton] at eB
                subst eB
                have HX5 := Aside0.mk hN.free
                refine hK.out _ _ (HS.out _ HX5.out.bel) (fun hHeld => ?_)
                clear hK K hHeld hN hU hT
                refine norm_ (a' := ?_) ?_ ?_
                rotate_left
                · show Act.put _ (some 65) _ = _
                  simp only [Act.put, List.setIfInBounds_toArray, List.set_cons_zero, List.set_cons_succ, i64_w, i32_w]
                  rfl
                refine pure_ (i := 12) (N := some 12) (v := ?_) (a' := ?_) #[true, true, true, true, true, true, true, true, true, true, true, true, true, false] rfl rfl (by kernel_rfl) (fun _ _ _ h => by cases h.1) (Or.inl ⟨by rfl, ?_⟩) ?_ ?_
                rotate_left
                · intro w'
                  go_simp
                  with_reducible rfl
                rotate_left
                · simp only [Act.put, List.setIfInBounds_toArray, List.set_cons_zero, List.set_cons_succ, i64_w, i32_w]
                  rfl
                refine pure_ (i := 13) (N := some 13) (v := ?_) (a' := ?_) #[true, true, true, true, true, true, true, true, true, true, true, true, true, true] rfl rfl (by kernel_rfl) (fun _ _ _ h => by cases h.1) (Or.inl ⟨by rfl, ?_⟩) ?_ ?_
                rotate_left
                · intro w'
                  go_simp
                  with_reducible rfl
                rotate_left
                · simp only [Act.put, List.setIfInBounds_toArray, List.set_cons_zero, List.set_cons_succ, i64_w, i32_w]
                  rfl
                refine done_ (by kernel_rfl) ?_
                refine ⟨rfl, ?_, ?_, ?_, ?_, _, _, ?_, HX5.out⟩
                rotate_left 4
                simp only [Go.Proofs.YtfiohpbinpbhcaaW.PrintLast.putAll, Act.put, List.setIfInBounds_toArray, List.set_cons_zero, List.set_cons_succ]
                rfl
              · refine value_ (w1 := ?_) (v := ?_) (by rfl) rfl ?_ ?_
                rotate_left 2
                · go_simp
                  constructor
                  · rfl
                  · rfl
                have HX6 := Aside0.mk (HX2.out.keep (below_alloc (Below.refl V2.heap.size V2) (Obj.cells #[Value.int .i64 (rd CV (n : Int))] 2)))
                have HU6 := Aside0.mk (Kd.R_mono (ok' := fun k => ((False ∨ V0.heap.size ≤ k) ∨ V1.heap.size ≤ k) ∨ V2.heap.size ≤ k) (Kd.R_alloc HU2.out (Obj.cells #[Value.int .i64 (rd CV (n : Int))] 2)) (fun k hk => .inl hk))
                have H576 := Aside0.mk (blk_alloc H572.out (Obj.cells #[Value.int .i64 (rd CV (n : Int))] 2))
                have H646 := Aside0.mk (blk_new V2 (Obj.cells #[Value.int .i64 (rd CV (n : Int))] 2))
                refine hK.out _ _ (HS.out _ HX6.out.bel) (fun hHeld => ?_)
                clear hK K hHeld
                refine norm_ (a' := ?_) ?_ ?_
                rotate_left
                · show Act.put _ (some 64) _ = _
                  simp only [Act.put, List.setIfInBounds_toArray, List.set_cons_zero, List.set_cons_succ, i64_w, i32_w]
                  rfl
                generalize V2.alloc (Obj.cells #[Value.int .i64 (rd CV (n : Int))] 2) = V6 at HX6 HU6 H576 H646 ⊢
                refine one_ (i := 4) (N := some 58) #[true, true, true, true, true, true, true, true, true, true, true, false, false, false] rfl rfl (by kernel_rfl) (by decide) (fun K hK => ?_)
                refine NX.stepA HX6.out (by rfl) (.tmp 54) (.tmp 57) rfl rfl rfl H576.out HU6.out (by have := HXL.out; omega) ?_
                intro v7 V7 hN hT
                obtain ⟨Aa7, ca7, eA⟩ := hN.sliceA
                rw [List.length_append, List.length_singleton] at eA
                subst eA
                have H647 := Aside0.mk (hT _ _ H646.out)
                have HX7 := Aside0.mk hN
                refine hK.out _ _ (HS.out _ HX7.out.bel) (fun hHeld => ?_)
                clear hK K hHeld hN hT
                refine norm_ (a' := ?_) ?_ ?_
                rotate_left
                · show Act.put _ (some 58) _ = _
                  simp only [Act.put, List.setIfInBounds_toArray, List.set_cons_zero, List.set_cons_succ, i64_w, i32_w]
                  rfl
                refine one_ (i := 11) (N := some 65) #[true, true, true, true, true, true, true, true, true, true, true, true, false, false] rfl rfl (by kernel_rfl) (by decide) (fun K hK => ?_)
                refine NX.stepB HX7.out (by rfl) (.tmp 59) (.tmp 64) rfl rfl rfl H647.out (by have := HYL.out; omega) ?_
                intro v8 V8 hN hU hT
                obtain ⟨Ab8, cb8, eB⟩ := hN.sliceB
                rw [List.length_append, List.length_singleton] at eB
                subst eB
                have HX8 := Aside0.mk hN.free
                refine hK.out _ _ (HS.out _ HX8.out.bel) (fun hHeld => ?_)
                clear hK K hHeld hN hU hT
                refine norm_ (a' := ?_) ?_ ?_
                rotate_left
                · show Act.put _ (some 65) _ = _
                  simp only [Act.put, List.setIfInBounds_toArray, List.set_cons_zero, List.set_cons_succ, i64_w, i32_w]
                  rfl
                refine pure_ (i := 12) (N := some 12) (v := ?_) (a' := ?_) #[true, true, true, true, true, true, true, true, true, true, true, true, true, false] rfl rfl (by kernel_rfl) (fun _ _ _ h => by cases h.1) (Or.inl ⟨by rfl, ?_⟩) ?_ ?_
                rotate_left
                · intro w'
                  go_simp
                  with_reducible rfl
                rotate_left
                · simp only [Act.put, List.setIfInBounds_toArray, List.set_cons_zero, List.set_cons_succ, i64_w, i32_w]
                  rfl
                refine pure_ (i := 13) (N := some 13) (v := ?_) (a' := ?_) #[true, true, true, true, true, true, true, true, true, true, true, true, true, true] rfl rfl (by kernel_rfl) (fun _ _ _ h => by cases h.1) (Or.inl ⟨by rfl, ?_⟩) ?_ ?_
                rotate_left
                · intro w'
                  go_simp
                  with_reducible rfl
                rotate_left
                · simp only [Act.put, List.setIfInBounds_toArray, List.set_cons_zero, List.set_cons_succ, i64_w, i32_w]
                  rfl
                refine done_ (by kernel_rfl) ?_
                refine ⟨rfl, ?_, ?_, ?_, ?_, _, _, ?_, HX8.out⟩
                rotate_left 4
                simp only [Go.Proofs.YtfiohpbinpbhcaaW.PrintLast.putAll, Act.put, List.setIfInBounds_toArray, List.set_cons_zero, List.set_cons_succ]
                rfl
            · refine value_ (w1 := ?_) (v := ?_) (by rfl) rfl ?_ ?_
              rotate_left 2
              · go_simp
                constructor
                · rfl
                · rfl
              have HX9 := Aside0.mk (HX1.out.keep (below_alloc (Below.refl V1.heap.size V1) (Obj.cells #[Value.int .i64 (rd CV (n : Int))] 2)))
              have HU9 := Aside0.mk (Kd.R_mono (ok' := fun k => (False ∨ V0.heap.size ≤ k) ∨ V1.heap.size ≤ k) (Kd.R_alloc HU1.out (Obj.cells #[Value.int .i64 (rd CV (n : Int))] 2)) (fun k hk => .inl hk))
              have H649 := Aside0.mk (blk_new V1 (Obj.cells #[Value.int .i64 (rd CV (n : Int))] 2))
              refine hK.out _ _ (HS.out _ HX9.out.bel) (fun hHeld => ?_)
              clear hK K hHeld
              refine norm_ (a' := ?_) ?_ ?_
              rotate_left
              · show Act.put _ (some 64) _ = _
                simp only [Act.put, List.setIfInBounds_toArray, List.set_cons_zero, List.set_cons_succ, i64_w, i32_w]
                rfl
              generalize V1.alloc (Obj.cells #[Value.int .i64 (rd CV (n : Int))] 2) = V9 at HX9 HU9 H649 ⊢
              refine one_ (i := 3) (N := some 57) #[true, true, true, true, false, true, true, true, true, true, true, false, false, false] rfl rfl (by kernel_rfl) (by decide) (fun K hK => ?_)
              refine value_ (w1 := ?_) (v := ?_) (by rfl) rfl ?_ ?_
              rotate_left 2
              · go_simp
                constructor
                · rfl
                · rfl
              have HX10 := Aside0.mk (HX9.out.keep (below_alloc (Below.refl V9.heap.size V9) (Obj.cells #[Value.slice (some ⟨V0.heap.size, 0, none⟩) 1 1] 22)))
              have HU10 := Aside0.mk (Kd.R_mono (ok' := fun k => ((False ∨ V0.heap.size ≤ k) ∨ V1.heap.size ≤ k) ∨ V9.heap.size ≤ k) (Kd.R_alloc HU9.out (Obj.cells #[Value.slice (some ⟨V0.heap.size, 0, none⟩) 1 1] 22)) (fun k hk => .inl hk))
              have H5710 := Aside0.mk (blk_new V9 (Obj.cells #[Value.slice (some ⟨V0.heap.size, 0, none⟩) 1 1] 22))
              have H6410 := Aside0.mk (blk_alloc H649.out (Obj.cells #[Value.slice (some ⟨V0.heap.size, 0, none⟩) 1 1] 22))
              refine hK.out _ _ (HS.out _ HX10.out.bel) (fun hHeld => ?_)
              clear hK K hHeld
              refine norm_ (a' := ?_) ?_ ?_
              rotate_left
              · show Act.put _ (some 57) _ = _
                simp only [Act.put, List.setIfInBounds_toArray, List.set_cons_zero, List.set_cons_succ, i64_w, i32_w]
                rfl
              generalize V9.alloc (Obj.cells #[Value.slice (some ⟨V0.heap.size, 0, none⟩) 1 1] 22) = V10 at HX10 HU10 H5710 H6410 ⊢
              refine one_ (i := 4) (N := some 58) #[true, true, true, true, true, true, true, true, true, true, true, false, false, false] rfl rfl (by kernel_rfl) (by decide) (fun K hK => ?_)
              refine NX.stepA HX10.out (by rfl) (.tmp 54) (.tmp 57) rfl rfl rfl H5710.out HU10.out (by have := HXL.out; omega) ?_
              intro v11 V11 hN hT
              obtain ⟨Aa11, ca11, eA⟩ := hN.sliceA
              rw [List.length_append, List.length_singleton] at eA
              subst eA
              have H6411 := Aside0.mk (hT _ _ H6410.out)
              have HX11 := Aside0.mk hN
              refine hK.out _ _ (HS.out _ HX11.out.bel) (fun hHeld => ?_)
              clear hK K hHeld hN hT
              refine norm_ (a' := ?_) ?_ ?_
              rotate_left
              · show Act.put _ (some 58) _ = _
                simp only [Act.put, List.setIfInBounds_toArray, List.set_cons_zero, List.set_cons_succ, i64_w, i32_w]
                rfl
              refine one_ (i := 11) (N := some 65) #[true, true, true, true, true, true, true, true, true, true, true, true, false, false] rfl rfl (by kernel_rfl) (by decide) (fun K hK => ?_)
              refine NX.stepB HX11.out (by rfl) (.tmp 59) (.tmp 64) rfl rfl rfl H6411.out (by have := HYL.out; omega) ?_
              intro v12 V12 hN hU hT
              obtain ⟨Ab12, cb12, eB⟩ := hN.sliceB
              rw [List.length_append, List.length_singleton] at eB
              subst eB
              have HX12 := Aside0.mk hN.free
              refine hK.out _ _ (HS.out _ HX12.out.bel) (fun hHeld => ?_)
              clear hK K hHeld hN hU hT
              refine norm_ (a' := ?_) ?_ ?_
              rotate_left
              · show Act.put _ (some 65) _ = _
                simp only [Act.put, List.setIfInBounds_toArray, List.set_cons_zero, List.set_cons_succ, i64_w, i32_w]
                rfl
              refine pure_ (i := 12) (N := some 12) (v := ?_) (a' := ?_) #[true, true, true, true, true, true, true, true, true, true, true, true, true, false] rfl rfl (by kernel_rfl) (fun _ _ _ h => by cases h.1) (Or.inl ⟨by rfl, ?_⟩) ?_ ?_
              rotate_left
              · intro w'
                go_simp
                with_reducible rfl
              rotate_left
              · simp only [Act.put, List.setIfInBounds_toArray, List.set_cons_zero, List.set_cons_succ, i64_w, i32_w]
                rfl
              refine pure_ (i := 13) (N := some 13) (v := ?_) (a' := ?_) #[true, true, true, true, true, true, true, true, true, true, true, true, true, true] rfl rfl (by kernel_rfl) (fun _ _ _ h => by cases h.1) (Or.inl ⟨by rfl, ?_⟩) ?_ ?_
              rotate_left
              · intro w'
                go_simp
                with_reducible rfl
              rotate_left
              · simp only [Act.put, List.setIfInBounds_toArray, List.set_cons_zero, List.set_cons_succ, i64_w, i32_w]
                rfl
              refine done_ (by kernel_rfl) ?_
              refine ⟨rfl, ?_, ?_, ?_, ?_, _, _, ?_, HX12.out⟩
              rotate_left 4
              simp only [Go.Proofs.YtfiohpbinpbhcaaW.PrintLast.putAll, Act.put, List.setIfInBounds_toArray, List.set_cons_zero, List.set_cons_succ]
              rfl
          · refine value_ (w1 := ?_) (v := ?_) (by rfl) rfl ?_ ?_
            rotate_left 2
            · go_simp
              constructor
              · rfl
              · rfl
            have HX13 := Aside0.mk (HX0.out.keep (below_alloc (Below.refl V0.heap.size V0) (Obj.cells #[Value.int .i64 (rd CV (n : Int))] 2)))
            have H6413 := Aside0.mk (blk_new V0 (Obj.cells #[Value.int .i64 (rd CV (n : Int))] 2))
            refine hK.out _ _ (HS.out _ HX13.out.bel) (fun hHeld => ?_)
            clear hK K hHeld
            refine norm_ (a' := ?_) ?_ ?_
            rotate_left
            · show Act.put _ (some 64) _ = _
              simp only [Act.put, List.setIfInBounds_toArray, List.set_cons_zero, List.set_cons_succ, i64_w, i32_w]
              rfl
            generalize V0.alloc (Obj.cells #[Value.int .i64 (rd CV (n : Int))] 2) = V13 at HX13 H6413 ⊢
            refine one_ (i := 2) (N := some 56) #[true, true, true, false, false, true, true, true, true, true, true, false, false, false] rfl rfl (by kernel_rfl) (by decide) (fun K hK => ?_)
            refine value_ (w1 := ?_) (v := ?_) (by rfl) rfl ?_ ?_
            rotate_left 2
            · go_simp
              constructor
              · rfl
              · rfl
            have HX14 := Aside0.mk (HX13.out.keep (below_alloc (Below.refl V13.heap.size V13) (Obj.cells #[Value.int .i64 (n : Int)] 2)))
            have HU14 := Aside0.mk (lit_one V13 w6.heap.size HX13.out.bel.size (n : Int) (fun k => (False ∨ V0.heap.size ≤ k) ∨ V13.heap.size ≤ k) (.inr (Nat.le_refl _)))
            have H6414 := Aside0.mk (blk_alloc H6413.out (Obj.cells #[Value.int .i64 (n : Int)] 2))
            refine hK.out _ _ (HS.out _ HX14.out.bel) (fun hHeld => ?_)
            clear hK K hHeld
            refine norm_ (a' := ?_) ?_ ?_
            rotate_left
            · show Act.put _ (some 56) _ = _
              simp only [Act.put, List.setIfInBounds_toArray, List.set_cons_zero, List.set_cons_succ, i64_w, i32_w]
              rfl
            generalize V13.alloc (Obj.cells #[Value.int .i64 (n : Int)] 2) = V14 at HX14 HU14 H6414 ⊢
            refine one_ (i := 3) (N := some 57) #[true, true, true, true, false, true, true, true, true, true, true, false, false, false] rfl rfl (by kernel_rfl) (by decide) (fun K hK => ?_)
            refine value_ (w1 := ?_) (v := ?_) (by rfl) rfl ?_ ?_
            rotate_left 2
            · go_simp
              constructor
              · rfl
              · rfl
            have HX15 := Aside0.mk (HX14.out.keep (below_alloc (Below.refl V14.heap.size V14) (Obj.cells #[Value.slice (some ⟨V13.heap.size, 0, none⟩) 1 1] 22)))
            have HU15 := Aside0.mk (Kd.R_mono (ok' := fun k => ((False ∨ V0.heap.size ≤ k) ∨ V13.heap.size ≤ k) ∨ V14.heap.size ≤ k) (Kd.R_alloc HU14.out (Obj.cells #[Value.slice (some ⟨V13.heap.size, 0, none⟩) 1 1] 22)) (fun k hk => .inl hk))
            have H5715 := Aside0.mk (blk_new V14 (Obj.cells #[Value.slice (some ⟨V13.heap.size, 0, none⟩) 1 1] 22))
            have H6415 := Aside0.mk (blk_alloc H6414.out (Obj.cells #[Value.slice (some ⟨V13.heap.size, 0, none⟩) 1 1] 22))
            refine hK.out _ _ (HS.out _ HX15.out.bel) (fun hHeld => ?_)
            clear hK K hHeld
            refine norm_ (a' := ?_) ?_ ?_
            rotate_left
            · show Act.put _ (some 57) _ = _
              simp only [Act.put, List.setIfInBounds_toArray, List.set_cons_zero, List.set_cons_succ, i64_w, i32_w]
              rfl
            generalize V14.alloc (Obj.cells #[Value.slice (some ⟨V13.heap.size, 0, none⟩) 1 1] 22) = V15 at HX15 HU15 H5715 H6415 ⊢
            refine one_ (i := 4) (N := some 58) #[true, true, true, true, true, true, true, true, true, true, true, false, false, false] rfl rfl (by kernel_rfl) (by decide) (fun K hK => ?_)
            refine NX.stepA HX15.out (by rfl) (.tmp 54) (.tmp 57) rfl rfl rfl H5715.out HU15.out (by have := HXL.out; omega) ?_
            intro v16 V16 hN hT
            obtain ⟨Aa16, ca16, eA⟩ := hN.sliceA
            rw [List.length_append, List.length_singleton] at eA
            subst eA
            have H6416 := Aside0.mk (hT _ _ H6415.out)
            have HX16 := Aside0.mk hN
            refine hK.out _ _ (HS.out _ HX16.out.bel) (fun hHeld => ?_)
            clear hK K hHeld hN hT
            refine norm_ (a' := ?_) ?_ ?_
            rotate_left
            · show Act.put _ (some 58) _ = _
              simp only [Act.put, List.setIfInBounds_toArray, List.set_cons_zero, List.set_cons_succ, i64_w, i32_w]
              rfl
            refine one_ (i := 11) (N := some 65) #[true, true, true, true, true, true, true, true, true, true, true, true, false, false] rfl rfl (by kernel_rfl) (by decide) (fun K hK => ?_)
            refine NX.stepB HX16.out (by rfl) (.tmp 59) (.tmp 64) rfl rfl rfl H6416.out (by have := HYL.out; omega) ?_
            intro v17 V17 hN hU hT
            obtain ⟨Ab17, cb17, eB⟩ := hN.sliceB
            rw [List.length_append, List.length_singleton] at eB
            subst eB
            have HX17 := Aside0.mk hN.free
            refine hK.out _ _ (HS.out _ HX17.out.bel) (fun hHeld => ?_)
            clear hK K hHeld hN hU hT
            refine norm_ (a' := ?_) ?_ ?_
            rotate_left
            · show Act.put _ (some 65) _ = _
              simp only [Act.put, List.setIfInBounds_toArray, List.set_cons_zero, List.set_cons_succ, i64_w, i32_w]
              rfl
            refine pure_ (i := 12) (N := some 12) (v := ?_) (a' := ?_) #[true, true, true, true, true, true, true, true, true, true, true, true, true, false] rfl rfl (by kernel_rfl) (fun _ _ _ h => by cases h.1) (Or.inl ⟨by rfl, ?_⟩) ?_ ?_
            rotate_left
            · intro w'
              go_simp
              with_reducible rfl
            rotate_left
            · simp only [Act.put, List.setIfInBounds_toArray, List.set_cons_zero, List.set_cons_succ, i64_w, i32_w]
              rfl
            refine pure_ (i := 13) (N := some 13) (v := ?_) (a' := ?_) #[true, true, true, true, true, true, true, true, true, true, true, true, true, true] rfl rfl (by kernel_rfl) (fun _ _ _ h => by cases h.1) (Or.inl ⟨by rfl, ?_⟩) ?_ ?_
            rotate_left
            · intro w'
              go_simp
              with_reducible rfl
            rotate_left
            · simp only [Act.put, List.setIfInBounds_toArray, List.set_cons_zero, List.set_cons_succ, i64_w, i32_w]
              rfl
            refine done_ (by kernel_rfl) ?_
            refine ⟨rfl, ?_, ?_, ?_, ?_, _, _, ?_, HX17.out⟩
            rotate_left 4
            simp only [Go.Proofs.YtfiohpbinpbhcaaW.PrintLast.putAll, Act.put, List.setIfInBounds_toArray, List.set_cons_zero, List.set_cons_succ]
            rfl
        · have hwl : wrap64 ((l0.length : Int) - 1) = ((l0.length - 1 : Nat) : Int) := by have := HL4.out; rw [wrap64_id (by omega) (by omega)]; omega
          have hbf : ((k : Int) == ((l0.length - 1 : Nat) : Int)) = false := beq_eq_false_iff_ne.mpr (by have := HK.out; omega)
          have hk1 : k + 1 < l0.length := by have := HK.out; omega
          have hD1L : D1.1.length = T + 1 ∧ D1.2.length = T + 1 := by rw [HD1.out]; exact bshD_len l0 T (k + 1) hk1
          have HD1L := Aside0.mk hD1L
          have HNA : Aside0 (D.1.take (n + 1) = XA ++ [(pk CV D1.2 n (n + 1)).1 :: D1.1.getD (n - (pk CV D1.2 n (n + 1)).1.toNat) []]) := ⟨by rw [HXA.out, HD.out, bshD_cons l0 T k hk1, HCV.out, HD1.out]; exact take_mapRange _ T n hlt⟩
          have HNB : Aside0 (D.2.take (n + 1) = YB ++ [(pk CV D1.2 n (n + 1)).2]) := ⟨by rw [HYB.out, HD.out, bshD_cons l0 T k hk1, HCV.out, HD1.out]; exact take_mapRange _ T n hlt⟩
          have hwn : wrap64 ((n : Int) + 1) = ((n + 1 : Nat) : Int) := wrap64_succ (by omega)
          clear hbk hD1L
          obtain ⟨wo, hwo⟩ : ∃ wo, wo = wr := ⟨_, rfl⟩
          subst hwo
          gi_wp2_with (fail)
          gi_loopg [15, 16, 68] (n + 1) (fun gg s15 s16 s68 wq => ∃ j : Nat, s15 = .int .i64 (pk CV D1.2 n j).1 ∧ s16 = .int .i64 (pk CV D1.2 n j).2 ∧ s68 = .int .i64 j ∧ Aside0 (j ≤ n + 1 ∧ n + 1 - j ≤ gg) ∧ Aside0 (NX w6 wq (.slice Aa XA.length ca) (.slice Ab YB.length cb) XA YB (fun _ => False)))
          case atStart => exact ⟨0, rfl, rfl, rfl, ⟨⟨Nat.zero_le _, by omega⟩⟩, ⟨HX.out⟩⟩
          case round =>
            clear HX hpr
            obtain ⟨j, rfl, rfl, rfl, HJ, HX⟩ := hrel
            have HBQ := Aside0.mk (below_step HB6.out HX.out.bel)
            by_cases hjl : j < n + 1
            · have hjz : (j : Int) < ((n + 1 : Nat) : Int) := by omega
              have h0j : (0 : Int) ≤ (j : Int) := by omega
              have hjc : (j : Int) < (CV.length : Int) := by have := HCL.out; omega
              have hwj : wrap64 ((n : Int) - (j : Int)) = ((n - j : Nat) : Int) := by rw [wrap64_id (by omega) (by omega)]; omega
              have h0m : (0 : Int) ≤ ((n - j : Nat) : Int) := by omega
              have hml : ((n - j : Nat) : Int) < (D1.2.length : Int) := by have := HD1L.out; omega
              have hbm := HBM.out wr HBQ.out
              obtain ⟨_, _, hCM⟩ := Kd.R_reads' (Kd.R_below HRM.out HBQ.out)
              obtain ⟨adM, eM, hxm⟩ := Kd.at_int hCM ((n - j : Nat) : Int) h0m hml
              cases eM
              obtain ⟨_, _, hC6⟩ := Kd.R_reads' (Kd.R_below HC6.out HX.out.bel)
              obtain ⟨ad6, e6, hxj⟩ := Kd.at_int hC6 (j : Int) h0j hjc
              cases e6
              simp only [Int.toNat_natCast] at hxj hxm
              have hpk : pk CV D1.2 n (j + 1) = if (pk CV D1.2 n j).2 < 0 ∨ wrap64 (rd CV (j : Int) + rd D1.2 ((n - j : Nat) : Int)) < (pk CV D1.2 n j).2 then ((j : Int), wrap64 (rd CV (j : Int) + rd D1.2 ((n - j : Nat) : Int))) else pk CV D1.2 n j := rfl
              obtain ⟨bz, hbz⟩ : ∃ bz, bz = (pk CV D1.2 n j).1 := ⟨_, rfl⟩
              obtain ⟨lz, hlz⟩ : ∃ lz, lz = (pk CV D1.2 n j).2 := ⟨_, rfl⟩
              obtain ⟨sz, hsz⟩ : ∃ sz, sz = wrap64 (rd CV (j : Int) + rd D1.2 ((n - j : Nat) : Int)) := ⟨_, rfl⟩
              rw [← hlz, ← hsz] at hpk
              have HPK := Aside0.mk hpk
              have HPJ : Aside0 (pk CV D1.2 n j = (bz, lz)) := ⟨by rw [hbz, hlz]⟩
              have HSZ := Aside0.mk hsz
              rw [← hbz, ← hlz]
              clear hpk hbz hlz hsz hCM hC6
              gi_wp2_with (fail)
              refine quietR_ (by kernel_rfl) (by kernel_rfl) (by kernel_rfl) (fun ⟨_, _, h⟩ => by cases h.1) ?_
              repeat (go_big_quiet_step (fail))
              refine wpQuiet_nil ?_
              intro _ hw'
              obtain ⟨nq, hw''⟩ := hw'
              subst hw''
              rw [← HSZ.out]
              have HX2 := Aside0.mk (HX.out.below (pw_below_drewN (Below.refl _ _) nq))
              clear hbm hxm hxj HSZ HX HBQ hwj h0m hml hjc hjz h0j
              generalize wr.drewN nq = wq at HX2 ⊢
              by_cases c1 : lz < 0
              · have c1b : decide (lz < 0) = true := decide_eq_true c1
                gi_wp2_with (fail)
                gi_roundg (n + 1 - (j + 1))
                case measure => have := HJ.out; omega
                case rel => exact ⟨j + 1, by rw [HPK.out, if_pos (.inl c1)], by rw [HPK.out, if_pos (.inl c1)], by first | rfl | (push_cast; rfl), ⟨by have := HJ.out; omega⟩, ⟨HX2.out⟩⟩
              · have c1b : decide (lz < 0) = false := decide_eq_false c1
                by_cases c2 : sz < lz
                · have c2b : decide (sz < lz) = true := decide_eq_true c2
                  gi_wp2_with (fail)
                  gi_roundg (n + 1 - (j + 1))
                  case measure => have := HJ.out; omega
                  case rel => exact ⟨j + 1, by rw [HPK.out, if_pos (.inr c2)], by rw [HPK.out, if_pos (.inr c2)], by first | rfl | (push_cast; rfl), ⟨by have := HJ.out; omega⟩, ⟨HX2.out⟩⟩
                · have c2b : decide (sz < lz) = false := decide_eq_false c2
                  gi_wp2_with (fail)
                  gi_roundg (n + 1 - (j + 1))
                  case measure => have := HJ.out; omega
                  case rel => exact ⟨j + 1, by rw [HPK.out, if_neg (by rintro (h | h) <;> omega), HPJ.out], by rw [HPK.out, if_neg (by rintro (h | h) <;> omega), HPJ.out], by first | rfl | (push_cast; rfl), ⟨by have := HJ.out; omega⟩, ⟨HX2.out⟩⟩
            · have hjz : ¬ (j : Int) < ((n + 1 : Nat) : Int) := by omega
              obtain rfl : j = n + 1 := by have := HJ.out; omega
              obtain ⟨hp0, hp1⟩ := pk_range CV D1.2 n (n + 1)
              obtain ⟨e, he⟩ : ∃ e, e = pk CV D1.2 n (n + 1) := ⟨_, rfl⟩
              rw [← he] at HNA HNB hp0 hp1 ⊢
              obtain ⟨bz, lz⟩ := e
              dsimp only at HNA HNB hp0 hp1 ⊢
              obtain ⟨b, rfl⟩ : ∃ b : Nat, bz = (b : Int) := ⟨bz.toNat, by omega⟩
              have hbn : b ≤ n := by omega
              have hwb2 : wrap64 ((n : Int) - (b : Int)) = ((n - b : Nat) : Int) := by rw [wrap64_id (by omega) (by omega)]; omega
              have h0b : (0 : Int) ≤ ((n - b : Nat) : Int) := by omega
              have hbl : ((n - b : Nat) : Int) < (D1.1.length : Int) := by have := HD1L.out; omega
              rw [Int.toNat_natCast] at HNA
              have HBQ := Aside0.mk (below_step HB6.out HX.out.bel)
              have hbq2 := below_alloc HBQ.out (.cells #[.int .i64 (b : Int)] 2)
              have hbs := HBS.out _ hbq2
              obtain ⟨_, _, hCS⟩ := Kd.R_reads' (Kd.R_below HRS.out HBQ.out)
              obtain ⟨adS, Ar, cr, eS, hxs, hcr, hCr⟩ := at_L2 hCS ((n - b : Nat) : Int) h0b hbl
              cases eS
              have hrl : (D1.1.getD (n - b) []).length ≤ 100 := by rw [HD1.out]; have := bshD_rows l0 T (k + 1) (n - b); have := HL4.out; omega
              have hre : rd_L2 D1.1 ((n - b : Nat) : Int) = D1.1.getD (n - b) [] := by show D1.1.getD ((n - b : Nat) : Int).toNat [] = _; rw [Int.toNat_natCast]
              rw [hre] at hxs hcr hCr
              obtain ⟨R, hR⟩ : ∃ R, R = D1.1.getD (n - b) [] := ⟨_, rfl⟩
              rw [← hR] at hxs hcr hCr hrl HNA
              simp only [Int.toNat_natCast] at hxs
              have hxs2 := ((below_alloc (Below.refl _ wr) (.cells #[.int .i64 (b : Int)] 2)).cell (World.block_lt_of_cell? _ _ hxs)).trans hxs
              obtain ⟨wc, hwc⟩ : ∃ wc, wc = (wr.alloc (.cells #[.int .i64 (b : Int)] 2)).alloc (.cells #[.slice (some ⟨wr.heap.size, 0, none⟩) 1 1, .slice Ar R.length cr] 22) := ⟨_, rfl⟩
              have hbc : Below wr.heap.size wr wc := by rw [hwc]; exact below_alloc (below_alloc (Below.refl _ _) _) _
              have HCAT := Aside0.mk (cat_callB (b : Int) R Ar cr wc (wr.heap.size + 1) wr.heap.size (by rw [hwc]; have h := blk_new (wr.alloc (.cells #[.int .i64 (b : Int)] 2)) (.cells #[.slice (some ⟨wr.heap.size, 0, none⟩) 1 1, .slice Ar R.length cr] 22); rw [World.size_alloc] at h; exact h) (by rw [hwc]; exact blk_alloc (blk_new wr _) _) (Kd.C_below hCr hbc) hcr hrl)
              have HBC := Aside0.mk hbc
              have HWC := Aside0.mk hwc
              have HZC : Aside0 (wr.heap.size ≤ wc.heap.size) := ⟨hbc.size⟩
              clear hbc hwc hxs hCr hcr hrl hre hR hCS hp0 hp1 he hbq2
              have M5 := Aside0.mk trivial
              gi_wp2_with (first
                | (have q_ := M5; clear q_; refine ⟨trivial, ?_⟩; gi_at_call 65; rw [← HWC.out]; refine (CallsIn.inRound l (callsIn_wide.2 HCAT.out)).mono ?_; rintro e w9 ⟨v9, rfl, hv9, hb9⟩; obtain ⟨A9, c9, e9⟩ := Kd.R_slice hv9; subst e9; have HB9 := Aside0.mk (show Below wr.heap.size wr w9 from below_step HBC.out hb9); have hn9 := (HX.out.keep HB9.out).keep (below_alloc (Below.refl w9.heap.size w9) (Obj.cells #[Value.slice A9 ((b : Int) :: R).length c9] 22)); have HX9 := Aside0.mk hn9; have HU9 := Aside0.mk (show Kd.R (Kd.int .i64) 2 (w9.alloc (Obj.cells #[Value.slice A9 ((b : Int) :: R).length c9] 22)) w6.heap.size (fun k => (False ∨ wr.heap.size ≤ k) ∨ w9.heap.size ≤ k) (.slice A9 ((b : Int) :: R).length c9) ((b : Int) :: R) from Kd.R_mono (Kd.R_alloc (Kd.R_lower (Kd.R_bound hv9) (Nat.le_trans HX.out.bel.size HZC.out)) _) (fun k hk => .inl (.inr (Nat.le_trans HZC.out hk.2.1)))); have H9 := Aside0.mk (blk_new w9 (Obj.cells #[Value.slice A9 ((b : Int) :: R).length c9] 22)); clear hv9 hb9 hn9 hbs hxs2 M5; have M6 := Aside0.mk trivial)
                | (have q_ := M6; clear q_; gi_at_builtin; refine listR_ (by intro c h; cases h) ?_; refine NX.stepA HX9.out (by rfl) (.tmp 92) (.tmp 103) rfl rfl rfl H9.out HU9.out (by have := HXL.out; omega) ?_; intro v10 w10 hN hT; obtain ⟨Aa2, ca2, eA⟩ := hN.sliceA; rw [List.length_append, List.length_singleton] at eA; subst eA; have HX10 := Aside0.mk (hN.keep (below_alloc (Below.refl w10.heap.size w10) (Obj.cells #[Value.int .i64 lz] 2))); have H10 := Aside0.mk (blk_new w10 (Obj.cells #[Value.int .i64 lz] 2)); clear hN hT M6; have M7 := Aside0.mk trivial)
                | (have q_ := M7; clear q_; gi_at_builtin; refine listR_ (by intro c h; cases h) ?_; refine NX.stepB HX10.out (by rfl) (.tmp 105) (.tmp 107) rfl rfl rfl H10.out (by have := HYL.out; omega) ?_; intro v11 w11 hN hU hT; obtain ⟨Ab2, cb2, eB⟩ := hN.sliceB; rw [List.length_append, List.length_singleton] at eB; subst eB; have HX11 := Aside0.mk hN.free; clear hN hU hT M7; have M8 := Aside0.mk trivial))
              gi_roundg (T + 1 - (n + 1))
              case measure => have := HN.out; omega
              case rel => exact ⟨n + 1, _, _, rfl, rfl, by first | rfl | (push_cast; rfl), ⟨by have := HN.out; omega⟩, ⟨by rw [HNA.out, HNB.out]; exact HX11.out⟩⟩
      · have hltz : ¬ (n : Int) < ((T + 1 : Nat) : Int) := by omega
        have hXA : XA = D.1 := by rw [HXA.out]; exact List.take_of_length_le (by have := HDL.out; omega)
        have hYB : YB = D.2 := by rw [HYB.out]; exact List.take_of_length_le (by have := HDL.out; omega)
        have HBQ := Aside0.mk (below_step HB6.out HX.out.bel)
        obtain ⟨hrA, hrB⟩ := HX.out.rows
        have HRA := Aside0.mk hrA
        have HRB := Aside0.mk hrB
        obtain ⟨_, _, h7, h8, h9, h10, h11⟩ := (HI.out.below HBQ.out).stores
        have HI2 := Aside0.mk (HI.out.below HBQ.out)
        have hDA : (bshD l0 T k).1 = XA := by rw [← HD.out]; exact hXA.symm
        have hDB : (bshD l0 T k).2 = YB := by rw [← HD.out]; exact hYB.symm
        have HFIN : Aside0 (BshI wb b7 (.slice A0 l0.length c0) (bshD l0 T k).1 (bshD l0 T k).2 ((wr.setCell ⟨b7, 0, none⟩ (.slice Aa XA.length ca)).setCell ⟨b7 + 1, 0, none⟩ (.slice Ab YB.length cb))) := ⟨by
          rw [hDA, hDB]
          exact BshI.put (HI.out.below HBQ.out) hrA hrB (by have := HB7.out; have := HZ2.out; omega) (by have := HB6.out.size; have := HI.out.box.lt; omega)⟩
        have HKF := Aside0.mk (BshI.keeps (HI.out.below HBQ.out) HBQ.out (u := .slice Aa XA.length ca) (v := .slice Ab YB.length cb) w4.heap.size)
        clear hrA hrB hbk hDA hDB hXA hYB
        gi_wp2_with (fail)
        exact ⟨HKF.out, HFIN.out⟩
  case done =>
    intro D W hD hI hK
    obtain ⟨⟨vS, hbS, hrS⟩, ⟨vM, hbM, hrM⟩, hbx, hbl⟩ := hI
    obtain ⟨hl1, hl2⟩ := bshD_len l0 T 0 hlp
    obtain ⟨S0, hS0⟩ : ∃ S0, S0 = (bshD l0 T 0).1 := ⟨_, rfl⟩
    obtain ⟨M0', hM0⟩ : ∃ M0', M0' = (bshD l0 T 0).2 := ⟨_, rfl⟩
    have HS0 := Aside0.mk hS0
    have HM0 := Aside0.mk hM0
    rw [← hS0] at hrS hl1
    rw [← hM0] at hrM hl2
    obtain ⟨AS, cS, eS⟩ := Kd.R_slice hrS
    obtain ⟨AM, cM, eM⟩ := Kd.R_slice hrM
    subst eS
    subst eM
    have h7 := hbS.cell
    have h8 := hbM.cell
    have ht := HTW.out W hbl
    have h0T : (0 : Int) ≤ (T : Int) := by omega
    have hTS : (T : Int) < (S0.length : Int) := by omega
    have hTM : (T : Int) < (M0'.length : Int) := by omega
    obtain ⟨_, _, hCS⟩ := Kd.R_reads' hrS
    obtain ⟨_, _, hCM⟩ := Kd.R_reads' hrM
    obtain ⟨adS, Ar, cr, eS, hxs, hcr, hCr⟩ := at_L2 hCS (T : Int) h0T hTS
    cases eS
    obtain ⟨adM, eM, hxm⟩ := Kd.at_int hCM (T : Int) h0T hTM
    cases eM
    obtain ⟨c, hcl, ⟨vr, rfl, hRr⟩, hcc⟩ := Kd.R_getA hrS ([] : List Int) (T : Int) h0T (by have := hTS; omega)
    have hvr := hcc 0 vr rfl
    simp only [Int.toNat_natCast] at hxs hxm hvr hRr
    rw [show (Kd.slice 2 (Kd.int .i64)).sz = 1 from rfl, Nat.mul_one, Nat.add_zero, hxs] at hvr
    cases hvr
    have HRR : Aside0 (Kd.R (Kd.int .i64) 2 W wb.heap.size (fun _ => True) (.slice Ar (rd_L2 S0 (T : Int)).length cr) (S0.getD T [])) := ⟨Kd.R_mono hRr (fun _ _ => trivial)⟩
    have HK := Aside0.mk hK
    have HBL := Aside0.mk (HBB.out.trans (hbl.mono HBB.out.size))
    have HDW := Aside0.mk (show w.heap.size ≤ D by have := HZ4.out; have := HB7.out; have := HZ2.out; have := HWZ.out; omega)
    clear hi0 hS0 hM0 hrS hrM hCS hCM hRr hcc hcl hcr hCr hbS hbM hbx hbl hl1 hl2 hK hD
    gi_wp2_with (fail)
    gi_quiet (fail)
    gi_wp2_with (fail)
    refine ⟨by simp, .inl ⟨_, _, rfl, run_takeDeferred (b := D) (ds := []) HK.out, ?_⟩⟩
    rw [← HS0.out, ← HM0.out]
    refine ⟨_, results_tmp3 rfl _ _ _, _, rfl, ?_, ?_⟩
    · exact Kd.R_lower (R_book (Kd.R_drewN HRR.out nq) (grownBy_putObj' _ D _) (fun r e => by cases e; exact ⟨_, HK.out, rfl⟩)) HWZ.out
    · exact (pw_below_drewN HBL.out nq).trans (belowK_b (w := w) (Nat.le_refl _) (W.drewN nq) D _ _ HDW.out HK.out rfl rfl)
set_option maxHeartbeats 4000000 in
set_option maxRecDepth 100000 in
theorem impl_BestShares.calls (A0 : Option Addr) (c0 : Nat) (l0 : List (List Int)) (a1 : Int) (r1 : List Int) (r2 : Int) (r3 : Bool) (w : World) (hr0 : Kd.C (Kd.slice 2 (Kd.int .i64)) w A0 l0.length l0) (hc0 : l0.length ≤ c0) (h : impl_BestShares.f l0 a1 = some (r1, r2, r3)) :
    Calls Try.prog 33 #[.slice A0 l0.length c0, .int .i64 a1] w fun e w' => ∃ v0_ : Value, e = .returned (.tuple #[v0_, .int .i64 r2, .bool r3]) ∧ Kd.R (Kd.int .i64) 2 w' w.heap.size (fun _ => True) v0_ r1 ∧ Below w.heap.size w w' := by
  unfold impl_BestShares.f at h
  cases hok : okBest l0 a1 with
  | true =>
    rw [hok, if_pos rfl] at h
    obtain ⟨rfl, hq⟩ := Prod.mk.inj (Option.some.inj h)
    obtain ⟨rfl, rfl⟩ := Prod.mk.inj hq
    clear h
    unfold okBest at hok
    obtain ⟨h1, h2⟩ := Bool.and_eq_true_iff.1 hok
    obtain ⟨h3, h4⟩ := Bool.and_eq_true_iff.1 h2
    have hs : 0 ≤ a1 ∧ a1 ≤ 60 := by simpa [okShare] using h4
    obtain ⟨T, rfl⟩ : ∃ T : Nat, a1 = (T : Int) := ⟨a1.toNat, by omega⟩
    have H := callsIn_wide.1 (bsh_in A0 c0 l0 T w hr0 hc0 (by omega) h1 (by simpa using h3))
    rw [Int.toNat_natCast]
    exact H
  | false =>
    rw [hok, if_neg (by simp)] at h
    obtain ⟨rfl, hq⟩ := Prod.mk.inj (Option.some.inj h)
    obtain ⟨rfl, rfl⟩ := Prod.mk.inj hq
    clear h
    have HAP := Aside0.mk (fun (W : World) (hb : Below w.heap.size w W) => impl_arePrograms.calls A0 c0 l0 (okProgs l0) W (Kd.C_below hr0 hb) hc0 rfl)
    have HMO := Aside0.mk (fun (W : World) => impl_isMost.calls a1 (okShare a1) W (isMost_f a1))
    clear hr0 hc0
    have hb0 : Below w.heap.size w ((w.alloc (.cells #[.slice A0 l0.length c0] 40)).alloc (.cells #[.int .i64 a1] 2)) := below_alloc (below_alloc (Below.refl _ _) _) _
    have HB0 := Aside0.mk hb0
    have bP : Boxed ((w.alloc (.cells #[.slice A0 l0.length c0] 40)).alloc (.cells #[.int .i64 a1] 2)) w.heap.size 40 (.slice A0 l0.length c0) := (Boxed.new w 40 (.slice A0 l0.length c0)).alloc _
    have bT : Boxed ((w.alloc (.cells #[.slice A0 l0.length c0] 40)).alloc (.cells #[.int .i64 a1] 2)) (w.heap.size + 1) 2 (.int .i64 a1) := by
      have := Boxed.new (w.alloc (.cells #[.slice A0 l0.length c0] 40)) 2 (.int .i64 a1)
      simpa using this
    obtain ⟨wb, hwb⟩ : ∃ wb, wb = (w.alloc (.cells #[.slice A0 l0.length c0] 40)).alloc (.cells #[.int .i64 a1] 2) := ⟨_, rfl⟩
    rw [← hwb] at hb0 bP bT
    have HPW := Aside0.mk (fun (W : World) (hb : Below wb.heap.size wb W) => (boxed_belowR bP hb bP.lt).cell)
    have HTW := Aside0.mk (fun (W : World) (hb : Below wb.heap.size wb W) => (boxed_belowR bT hb bT.lt).cell)
    have HB0 := Aside0.mk hb0
    have HWB := Aside0.mk hwb
    clear hb0 bP bT hwb
    cases hg : okProgs l0 with
    | false =>
      rw [hg] at HAP
      clear hok hg
      go_enter Try.func33, Try.ntmps33
      go_wp2_with (go_at_call 63; rw [← HWB.out]; (with_reducible refine (HAP.out _ HB0.out).mono ?_); rintro e w1 ⟨rfl, hb1⟩; have HB1 := Aside0.mk (below_step HB0.out hb1); clear hb1)
      go_ret3
      exact ⟨_, rfl, Kd.R_nil _ _ _ _ _, HB1.out⟩
    | true =>
      rw [hg] at HAP
      by_cases hne : l0 = []
      · have hlz : ((l0.length : Int) == 0) = true := by rw [hne]; rfl
        have hln : (l0.length == 0) = true := by rw [hne]; rfl
        clear hok hg hne
        go_enter Try.func33, Try.ntmps33
        go_wp2_with (go_at_call 63; rw [← HWB.out]; (with_reducible refine (HAP.out _ HB0.out).mono ?_); rintro e w1 ⟨rfl, hb1⟩; have hp1 := HPW.out w1 hb1; have HB1 := Aside0.mk (below_step HB0.out hb1); clear hb1)
        go_ret3
        exact ⟨_, rfl, Kd.R_nil _ _ _ _ _, HB1.out⟩
      · have hlp : 0 < l0.length := List.length_pos_iff.2 hne
        have hlz : ((l0.length : Int) == 0) = false := beq_eq_false_iff_ne.mpr (by omega)
        have hln : (l0.length == 0) = false := beq_eq_false_iff_ne.mpr (by omega)
        have hsh : okShare a1 = false := by
          unfold okBest at hok
          rw [hg, decide_eq_true hne] at hok
          simpa using hok
        rw [hsh] at HMO
        have M0 := Aside0.mk trivial
        clear hok hg hne hsh hlp
        go_enter Try.func33, Try.ntmps33
        go_wp2_with (first | (have q_ := M0; clear q_; go_at_call 63; rw [← HWB.out]; (with_reducible refine (HAP.out _ HB0.out).mono ?_); rintro e w1 ⟨rfl, hb1⟩; have hp1 := HPW.out w1 hb1; have ht1 := HTW.out w1 hb1; have HB1 := Aside0.mk (below_step HB0.out hb1); clear hb1 M0; have M1 := Aside0.mk trivial) | (have q_ := M1; clear q_; go_at_call 58; (with_reducible refine (HMO.out w1).mono ?_); rintro e w2 ⟨rfl, ⟨nd, hw2⟩⟩; have HB2 := Aside0.mk (below_at hw2.symm HB1.out); clear hw2 M1; have M2 := Aside0.mk trivial))
        go_ret3
        exact ⟨_, rfl, Kd.R_nil _ _ _ _ _, HB2.out⟩
end Go.Proofs.Ytfiohpbinpbhcaa.Q
