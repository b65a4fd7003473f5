/- The library's slices.Delete of one number and slices.Insert of one number, at a row of one's own; no conditions beyond those written. -/
import Derived.Test.YthaipkhgemachaaGreatDoorQx0
import Derived.Lib.SliceRun
import Derived.Lib.Overlaps
import Derived.Shelf.Spec.SlicesInsert
import Derived.Deep.RegionLaw
namespace Go.Proofs.YthaipkhgemachaaGreatDoor.Q
open Go.RowKit Go.Proofs.YthaipkhgemachaaGreatDoorW.PrintWords Go.Proofs.YthaipkhgemachaaGreatDoorW.PrintLast Go.Proofs.YthaipkhgemachaaGreatDoorW.PrintMore
attribute [local go_sem] max2_int min2_int max_two min_two max_three min_three max_four min_four   -- for this text's walks alone
set_option linter.unusedVariables false
set_option linter.unusedSimpArgs false

theorem infoMv : (Tryz.prog.info? 2).map (fun i => (i.zero, i.size, i.bytes)) = some (some (.int .i64 0), 1, 8) := by kernel_rfl
theorem infoMs : (Tryz.prog.info? 2).map (·.size) = some 1 := by kernel_rfl
/-- The row's cells, and those behind its end. -/
theorem own_tail {base g m c : Nat} {e : TypeId} {W : World} {xs : List Int} (h : W.ownsRow base e 1 (.slice (some ⟨g, 0, none⟩) m c) m (nums .i64 xs)) :
    ∃ cur : Array Value, W.heap[g]? = some (.cells cur e (0, 0)) ∧ cur.size = c ∧ cur.toList.take m = nums .i64 xs ∧ base ≤ g ∧ m ≤ c ∧ c ≤ maxLen ∧ xs.length = m := by
  rcases h.2 with ⟨h0, _⟩ | ⟨g', cap', cur, h0, hb, hh, hn, hc, hs, ht⟩
  · cases h0
  · injection h0 with ha _ hcp
    injection ha with ha
    injection ha with hg
    subst hg
    subst hcp
    rw [Nat.mul_one] at hs ht
    have hl := h.1
    rw [Nat.mul_one] at hl
    exact ⟨cur, hh, hs, ht, hb, hn, hc, by simpa [nums] using hl⟩
theorem own_of_cells {base g m c : Nat} {e : TypeId} {W : World} {xs : List Int} {cur : Array Value} (hh : W.heap[g]? = some (.cells cur e (0, 0))) (hs : cur.size = c) (ht : cur.toList.take m = nums .i64 xs) (hb : base ≤ g) (hn : m ≤ c) (hc : c ≤ maxLen) : W.ownsRow base e 1 (.slice (some ⟨g, 0, none⟩) m c) m (nums .i64 xs) := by
  refine ⟨?_, .inr ⟨g, c, cur, rfl, hb, hh, hn, hc, by rw [Nat.mul_one]; exact hs, by rw [Nat.mul_one]; exact ht⟩⟩
  rw [← ht, List.length_take, Array.length_toList, hs, Nat.min_eq_left hn, Nat.mul_one]
theorem R_nums {e : Nat} {w : World} {base : Nat} {ok : Nat → Prop} {v : Value} {xs : List Int} (h : Kd.R (Kd.int .i64) e w base ok v xs) : w.ownsRow base e 1 v xs.length (nums .i64 xs) := Kd.own_of_R h
theorem nums_R {e : Nat} {w : World} {base : Nat} {ok : Nat → Prop} {v : Value} {xs : List Int} (h : w.ownsRow base e 1 v xs.length (nums .i64 xs)) (hok : ∀ k, v.ownBlock = some k → ok k) : Kd.R (Kd.int .i64) e w base ok v xs := Kd.R_of_own h hok
theorem grow_one (w : World) (g o : Nat) (v : Value) : w.grownBy (w.setCell ⟨g, o, none⟩ v) (some g) := by
  have hb := (Below.refl 0 w).setCell (p := ⟨g, o, none⟩) (Nat.zero_le _) v
  exact ⟨hb.os, hb.tape, hb.output, hb.size, fun i hi hne => Below.heap_setCell _ ⟨g, o, none⟩ _ i (fun e => hne (by rw [e]))⟩
set_option maxHeartbeats 4000000 in
set_option maxRecDepth 100000 in
/-- slices.Delete(s, k, k + 1). -/
theorem del_calls (w0 W : World) (base g n c k : Nat) (ok : Nat → Prop) (xs : List Int) (HO : Kd.R (Kd.int .i64) 2 W base ok (.slice (some ⟨g, 0, none⟩) n c) xs) (HB : Below base w0 W) (hbase : base ≤ W.heap.size) (hk : k < n) (hc : n ≤ c) (hn : xs.length = n) (hok : ok g) :
    Calls Tryz.prog 50 #[.slice (some ⟨g, 0, none⟩) n c, .int .i64 (k : Int), .int .i64 ((k : Int) + 1)] W fun e w' => e = .returned (.slice (some ⟨g, 0, none⟩) (n - 1) c) ∧ Kd.R (Kd.int .i64) 2 w' base ok (.slice (some ⟨g, 0, none⟩) (n - 1) c) (xs.eraseIdx k) ∧ Below base w0 w' ∧ W.grownBy w' (some g) := by
  have h0k : (0 : Int) ≤ (k : Int) := by omega
  have hk1 : (k : Int) ≤ (k : Int) + 1 := by omega
  have h0k1 : (0 : Int) ≤ (k : Int) + 1 := by omega
  have hkn : (k : Int) + 1 ≤ (n : Int) := by omega
  have hkn0 : (k : Int) ≤ (n : Int) := by omega
  have hnc : (n : Int) ≤ (c : Int) := by omega
  have hkc : (k : Int) ≤ (c : Int) := by omega
  have hne : ((k : Int) == (k : Int) + 1) = false := beq_eq_false_iff_ne.mpr (by omega)
  have ht1 : ((k : Int) + 1).toNat = k + 1 := by omega
  have HOA := Aside0.mk HO
  have HBA := Aside0.mk HB
  have HBS := Aside0.mk hbase
  have HN := Aside0.mk hn
  have HK := Aside0.mk hk
  have HC := Aside0.mk hc
  have HOK := Aside0.mk hok
  have HLE : Aside0 ((xs.eraseIdx k).length = n - 1) := ⟨by rw [List.length_eraseIdx_of_lt (by omega), hn]⟩
  clear HO HB hbase hn hk hc hok
  go_enter Tryz.func50, Tryz.ntmps50
  go_wp2_with (fail)
  refine start_ (n := 8) (S := fun _ => True) (ds := []) #[false, false, false, false, false, false, false, false] (by kernel_rfl) rfl rfl trivial (fun hHeld => ?_)
  refine pure_ (i := 0) (N := some 20) (v := ?_) (a' := ?_) #[true, false, false, false, false, false, false, false] rfl rfl (by kernel_rfl) (fun _ _ _ h => h) (Or.inl ⟨by rfl, ?_⟩) ?_ ?_
  rotate_left
  · intro w'
    go_simp
    with_reducible rfl
  rotate_left
  · simp only [Act.put, List.setIfInBounds_toArray, List.set_cons_zero, List.set_cons_succ, i64_w, i32_w]
    rfl
  refine pure_ (i := 1) (N := some 21) (v := ?_) (a' := ?_) #[true, true, false, false, false, false, false, false] rfl rfl (by kernel_rfl) (fun _ _ _ h => h) (Or.inl ⟨by rfl, ?_⟩) ?_ ?_
  rotate_left
  · intro w'
    go_simp
    with_reducible rfl
  rotate_left
  · simp only [Act.put, List.setIfInBounds_toArray, List.set_cons_zero, List.set_cons_succ, i64_w, i32_w]
    rfl
  refine pure_ (i := 3) (N := some 23) (v := ?_) (a' := ?_) #[true, true, false, true, false, false, false, false] rfl rfl (by kernel_rfl) (fun _ _ _ h => h) (Or.inl ⟨by rfl, ?_⟩) ?_ ?_
  rotate_left
  · intro w'
    go_simp
    with_reducible rfl
  rotate_left
  · simp only [Act.put, List.setIfInBounds_toArray, List.set_cons_zero, List.set_cons_succ, i64_w, i32_w]
    rfl
  refine pure_ (i := 4) (N := some 24) (v := ?_) (a' := ?_) #[true, true, false, true, true, false, false, false] rfl rfl (by kernel_rfl) (fun _ _ _ h => h) (Or.inl ⟨by rfl, ?_⟩) ?_ ?_
  rotate_left
  · intro w'
    go_simp
    with_reducible rfl
  rotate_left
  · simp only [Act.put, List.setIfInBounds_toArray, List.set_cons_zero, List.set_cons_succ, i64_w, i32_w]
    rfl
  refine pure_ (i := 2) (N := some 22) (v := ?_) (a' := ?_) #[true, true, true, true, true, false, false, false] rfl rfl (by kernel_rfl) (fun _ _ _ h => h) (Or.inl ⟨by rfl, ?_⟩) ?_ ?_
  rotate_left
  · intro w'
    go_simp
    with_reducible rfl
  rotate_left
  · simp only [Act.put, List.setIfInBounds_toArray, List.set_cons_zero, List.set_cons_succ, i64_w, i32_w]
    rfl
  refine pure_ (i := 5) (N := some 25) (v := ?_) (a' := ?_) #[true, true, true, true, true, true, false, false] rfl rfl (by kernel_rfl) (fun _ _ _ h => h) (Or.inl ⟨by rfl, ?_⟩) ?_ ?_
  rotate_left
  · intro w'
    go_simp
    with_reducible rfl
  rotate_left
  · simp only [Act.put, List.setIfInBounds_toArray, List.set_cons_zero, List.set_cons_succ, i64_w, i32_w]
    rfl
  refine one_ (i := 6) (N := some 26) #[true, true, true, true, true, true, true, false] rfl rfl (by kernel_rfl) (by decide) (fun K hK => ?_)
  refine Kd.R_delete_step (Kd.int .i64) (w0 := w0) base (by rfl) (.tmp 22) (.tmp 25) 25 2 rfl Tryz.underlying25 infoMs (g := g) (n := n) (c := c) (k := k) (m := n - (k + 1)) (c2 := c - (k + 1)) (xs := xs) (ok := ok) rfl rfl ?dA rfl ?dO HK.out ?dB ?dS ?_
  (case dA => show _ = if c = k + 1 then _ else (some (⟨g, 0 + (k + 1) * 1, none⟩ : Addr)); rw [Nat.zero_add, Nat.mul_one])
  (case dO => exact Kd.R_drew HOA.out)
  (case dB => exact below_drew HBA.out)
  (case dS => exact HBS.out)
  intro w1 hr hb hg
  have HR1 := Aside0.mk hr
  have HB1 := Aside0.mk hb
  have HG1 : Aside0 (W.grownBy w1 (some g)) := ⟨⟨hg.os, hg.tape, hg.output, hg.size, hg.block⟩⟩
  clear hr hb hg
  refine hK.out _ _ trivial (fun hHeld => ?_)
  clear hK K
  refine norm_ (a' := ?_) ?_ ?_
  rotate_left
  · show Act.put _ (some 26) _ = _
    simp only [Act.put, List.setIfInBounds_toArray, List.set_cons_zero, List.set_cons_succ, i64_w, i32_w]
    rfl
  refine pure_ (i := 7) (N := some 0) (v := ?_) (a' := ?_) #[true, true, true, true, true, true, true, true] rfl rfl (by kernel_rfl) (fun _ _ _ h => h) (Or.inl ⟨by rfl, ?_⟩) ?_ ?_
  rotate_left
  · intro w'
    go_simp
    with_reducible rfl
  rotate_left
  · simp only [Act.put, List.setIfInBounds_toArray, List.set_cons_zero, List.set_cons_succ, i64_w, i32_w]
    rfl
  refine done_ (by kernel_rfl) ?_
  generalize (if c = k + 1 then some (⟨g, 0, none⟩ : Addr) else some ⟨g, k + 1, none⟩) = AA
  have hrow := R_nums HR1.out
  rw [HLE.out] at hrow
  obtain ⟨cur, hh, hs, htk, hbg, hmc, hcm, hxl⟩ := own_tail hrow
  have hkn1 : n - 1 < cur.size := by rw [hs]; have := HK.out; have := HC.out; omega
  have hone : n - (n - 1) = 1 := by have := HK.out; omega
  have hcl2 : ∀ ty cc, (Builtin.clear_ #[25] ty #[.slice (some ⟨g, n - 1, none⟩) 1 cc]).run Tryz.prog w1 = .ok (.tuple #[]) (w1.setCells g (n - 1) (List.replicate 1 (.int .i64 0))) :=
    fun ty cc => Go.Lib.run_clear_slice w1 _ _ ty (.int .i64 0) Tryz.underlying25 Tryz.zeroValue2 rfl rfl g (n - 1) 1 cc (by omega)
      (fun t ht => by obtain rfl : t = 0 := by omega
                      rw [Nat.add_zero, blk_cell hh, Array.getElem?_eq_getElem hkn1]; rfl)
      (fun t ht => blk_frozen hh _)
  have hset : w1.setCells g (n - 1) (List.replicate 1 (.int .i64 0)) = w1.setCell ⟨g, n - 1, none⟩ (.int .i64 0) := rfl
  rw [hset] at hcl2
  have HF : Aside0 (Kd.R (Kd.int .i64) 2 (w1.setCell ⟨g, n - 1, none⟩ (.int .i64 0)) base ok (.slice (some ⟨g, 0, none⟩) (n - 1) c) (xs.eraseIdx k) ∧ Below base w0 (w1.setCell ⟨g, n - 1, none⟩ (.int .i64 0)) ∧ W.grownBy (w1.setCell ⟨g, n - 1, none⟩ (.int .i64 0)) (some g)) := ⟨by
    refine ⟨nums_R ?_ (fun q hq => ?_), ?_, ?_⟩
    · rw [HLE.out]
      refine own_of_cells (blk_set hh (n - 1) (.int .i64 0)) (by rw [Array.size_setIfInBounds]; exact hs) ?_ hbg hmc hcm
      rw [← htk]
      apply List.ext_getElem?
      intro j
      simp only [Array.toList_setIfInBounds, List.getElem?_take]
      split
      · rw [List.getElem?_set_ne (by omega)]
      · rfl
    · cases hq; exact HOK.out
    · exact HB1.out.setCell hbg _
    · exact World.grownBy.trans HG1.out (grow_one w1 g (n - 1) _)⟩
  clear hrow hh hs htk hbg hxl hkn1 hset
  have hnn : n - 1 ≤ n := by omega
  have hnz : ((n - 1 : Nat) : Int) ≤ (n : Int) := by omega
  have hz0 : (0 : Int) ≤ ((n - 1 : Nat) : Int) := by omega
  go_wp2
  go_ret
  exact ⟨rfl, HF.out.1, HF.out.2.1, HF.out.2.2⟩
set_option maxHeartbeats 4000000 in
set_option maxRecDepth 100000 in
/-- slices.Insert(s, len(s), x). -/
theorem ins_end (w0 W : World) (base g n c : Nat) (x : Int) (b : Addr) (ok : Nat → Prop) (xs : List Int) (HO : Kd.R (Kd.int .i64) 2 W base ok (.slice (some ⟨g, 0, none⟩) n c) xs) (hn : xs.length = n) (hC : Kd.C (Kd.int .i64) W (some b) 1 [x]) (HB : Below base w0 W) (hbase : base ≤ W.heap.size) (hok : ∀ k, W.heap.size ≤ k → ok k) (hl : n ≤ 10) (hnc : n ≤ c) :
    Calls Tryz.prog 51 #[.slice (some ⟨g, 0, none⟩) n c, .int .i64 (n : Int), .slice (some b) 1 1] W fun e w' => ∃ v, e = .returned v ∧ Kd.R (Kd.int .i64) 2 w' base ok v (xs ++ [x]) ∧ Below base w0 w' ∧ W.grownBy w' (some g) := by
  have h0n : (0 : Int) ≤ (n : Int) := by omega
  have hcc : (n : Int) ≤ (c : Int) := by omega
  have HOA := Aside0.mk HO
  have HCA := Aside0.mk hC
  have HBA := Aside0.mk HB
  have HBS := Aside0.mk hbase
  have HN := Aside0.mk hn
  have HL := Aside0.mk hl
  have HOK := Aside0.mk hok
  clear HO HB hbase hn hl hok hC hnc

  go_enter Tryz.func51, Tryz.ntmps51
  go_wp2_with ((with_reducible refine gate_builtin (b := .append) (xs := #[.tmp 23, .tmp 24]) rfl ?_); at_builtin; refine Kd.R_append_rows (Kd.int .i64) (w0 := w0) base rfl (.tmp 23) (.tmp 24) 25 2 (.int .i64 0) 8 rfl Tryz.underlying25 info2 rfl (by decide) (by omega) _ xs [x] _ _ _ ok (fun _ => False) rfl rfl ?aO ?aR (fun _ _ h => h) (fun _ h => h.elim) ?aF ?aB ?aS ?aL ?_; (case aR => exact HCA.out); (case aB => exact HBA.out); (case aF => exact HOK.out); (case aO => exact HOA.out); (case aS => exact HBS.out); (case aL => have := HL.out; have := HN.out; first | omega | (simp; omega)); intro v9 w9 ho hb hg hat; have HV9 := Aside0.mk ho; have HB9 := Aside0.mk hb; have HG9 := Aside0.mk hg; clear ho hb hg hat)
  all_goals go_ret
  all_goals exact ⟨_, rfl, HV9.out, HB9.out, HG9.out⟩
set_option maxHeartbeats 4000000 in
set_option maxRecDepth 100000 in
/-- slices.Insert(s, 0, x) at one number with room. -/
theorem ins_zero (w0 W : World) (base g c vb : Nat) (x y : Int) (ok : Nat → Prop) (HO : Kd.R (Kd.int .i64) 2 W base ok (.slice (some ⟨g, 0, none⟩) 1 c) [y]) (hv : W.heap[vb]? = some (.cells #[.int .i64 x] 2 (0, 0))) (hne : vb ≠ g) (HB : Below base w0 W) (hbase : base ≤ W.heap.size) (hok : ok g) (hc : 2 ≤ c) :
    Calls Tryz.prog 51 #[.slice (some ⟨g, 0, none⟩) 1 c, .int .i64 0, .slice (some ⟨vb, 0, none⟩) 1 1] W fun e w' => ∃ v, e = .returned v ∧ Kd.R (Kd.int .i64) 2 w' base ok v [x, y] ∧ Below base w0 w' ∧ W.grownBy w' (some g) := by
  have hrow := R_nums HO
  obtain ⟨cur, hh, hs, htk, hbg, hmc, hcm, hxl⟩ := own_tail hrow
  have hsz : (Tryz.prog.info? 2).map (·.size) = some 1 := infoMs
  have h1c : 1 < cur.size := by omega
  have h0c : 0 < cur.size := by omega
  have hy0 : cur[0]? = some (.int .i64 y) := by
    have h0 := congrArg (fun l => l[0]?) htk
    simp only [List.getElem?_take] at h0
    rw [if_pos (by simp), Array.getElem?_toList] at h0
    rw [h0]; rfl
  have hz1 : ¬ ((1 : Int) = 0) := by omega
  have hcz : (2 : Int) ≤ (c : Int) := by omega
  have hct : ¬ ((c : Int) < 2) := by omega
  have hb2 : ¬ (c = 1) := by omega
  have hw1 : IntKind.i64.wrap 1 = 1 := by decide
  have mixed : Tryz.prog.follows Departure.mixedOrders = true := by kernel_rfl
  have hov : ∀ lb cb, (callFunc 71 #[.slice (some ⟨vb, 0, none⟩) 1 1, .slice (some ⟨g, 1, none⟩) lb cb]).run Tryz.prog W = .ok (.value (.bool false)) W := fun lb cb => by
    rw [run_callFunc_extern Tryz.func71 (by kernel_rfl) (by kernel_rfl) (by kernel_rfl) (e := Extern.SlicesOverlaps.overlaps #[25, 25] #[4]) (by kernel_rfl),
      Go.Lib.run_overlaps_apart W 25 4 2 Tryz.underlying25 1 Tryz.sizeOf2 ⟨vb, 0, none⟩ ⟨g, 1, none⟩ 1 1 lb cb hne 2 2 1 c (by simp [World.shape?, hv]) (by simp [World.shape?, hh, hs]) (by omega) (blk_frozen hv 0) (blk_frozen hv 1)]
    rfl
  have hcp1 : ∀ ty dc sc, (Builtin.copy_ #[25, 25] ty #[.slice (some ⟨g, 1, none⟩) 1 dc, .slice (some ⟨g, 0, none⟩) 2 sc]).run Tryz.prog W.drew = .ok (goInt 1) (W.drew.setCells g 1 [.int .i64 y]) := fun ty dc sc =>
    run_copy_cells W.drew _ _ ty 2 g 1 1 dc ⟨g, 0, none⟩ 2 sc [.int .i64 y] Tryz.underlying25 hsz rfl
      (fun j v hj => by
        match j, hj with
        | 0, hj => obtain rfl : Value.int .i64 y = v := by simpa using hj
                   exact (blk_cell (blk_drew hh) 0).trans hy0)
      (fun j hj => by obtain rfl : j = 0 := by (have : j < 1 := hj); omega
                      rw [blk_cell (blk_drew hh), Array.getElem?_eq_getElem h1c]; rfl)
      (fun j hj => blk_frozen (blk_drew hh) _) (fun v hv => by simp at hv; rw [hv]; rfl)
  obtain ⟨W1, hW1⟩ : ∃ W1, W1 = W.drew.setCells g 1 [.int .i64 y] := ⟨_, rfl⟩
  have hW1' : W1 = W.drew.setCell ⟨g, 1, none⟩ (.int .i64 y) := hW1
  have hh1 : W1.heap[g]? = some (.cells (cur.setIfInBounds 1 (.int .i64 y)) 2 (0, 0)) := by rw [hW1']; exact blk_set (blk_drew hh) 1 _
  have hv1 : W1.heap[vb]? = some (.cells #[.int .i64 x] 2 (0, 0)) := by rw [hW1']; exact blk_far (blk_drew hv) hne _
  have hcp2 : ∀ ty dc, (Builtin.copy_ #[25, 25] ty #[.slice (some ⟨g, 0, none⟩) 2 dc, .slice (some ⟨vb, 0, none⟩) 1 1]).run Tryz.prog W1 = .ok (goInt 1) (W1.setCells g 0 [.int .i64 x]) := fun ty dc =>
    run_copy_cells W1 _ _ ty 2 g 0 2 dc ⟨vb, 0, none⟩ 1 1 [.int .i64 x] Tryz.underlying25 hsz rfl
      (fun j v hj => by
        match j, hj with
        | 0, hj => obtain rfl : Value.int .i64 x = v := by simpa using hj
                   exact (blk_cell hv1 0).trans rfl)
      (fun j hj => by obtain rfl : j = 0 := by (have : j < 1 := hj); omega
                      rw [blk_cell hh1, Array.getElem?_eq_getElem (by rw [Array.size_setIfInBounds]; exact h0c)]; rfl)
      (fun j hj => blk_frozen hh1 _) (fun v hv => by simp at hv; rw [hv]; rfl)
  have HF : Aside0 (Kd.R (Kd.int .i64) 2 (W1.setCells g 0 [.int .i64 x]) base ok (.slice (some ⟨g, 0, none⟩) 2 c) [x, y] ∧ Below base w0 (W1.setCells g 0 [.int .i64 x]) ∧ W.grownBy (W1.setCells g 0 [.int .i64 x]) (some g)) := ⟨by
    show Kd.R (Kd.int .i64) 2 (W1.setCell ⟨g, 0, none⟩ (.int .i64 x)) base ok (.slice (some ⟨g, 0, none⟩) 2 c) [x, y] ∧ Below base w0 (W1.setCell ⟨g, 0, none⟩ (.int .i64 x)) ∧ W.grownBy (W1.setCell ⟨g, 0, none⟩ (.int .i64 x)) (some g)
    refine ⟨nums_R (own_of_cells (m := 2) (blk_set hh1 0 (.int .i64 x)) (by simp only [Array.size_setIfInBounds]; exact hs) ?_ hbg hc hcm) (fun q hq => by cases hq; exact hok), ?_, ?_⟩
    · obtain ⟨l⟩ := cur
      match l, h1c with
      | a :: b :: r, _ => simp [nums]
    · rw [hW1']; exact ((below_drew HB).setCell hbg _).setCell hbg _
    · rw [hW1']
      have h1 := grow_one W.drew g 1 (.int .i64 y)
      exact World.grownBy.trans ⟨h1.os, h1.tape, h1.output, h1.size, h1.block⟩ (grow_one _ g 0 _)⟩
  clear hW1'
  subst hW1
  clear hrow hh hs htk hbg hmc hcm hxl h1c h0c hy0 hh1 hv1 HO HB hv hbase hok hne
  go_enter Tryz.func51, Tryz.ntmps51
  go_wp2_with (simp only [hov])
  go_region_law_o (refine step_copy_runI rfl _ _ 25 25 rfl _ _ (by simp [Act.eval, Act.put]) (by simp [Act.eval, Act.put]) (hcp1 _ _ _) ?_)
  go_wp2_with (at_builtin; refine wpList_copy_runI _ rfl _ _ 25 25 rfl _ _ rfl rfl (hcp2 _ _) ?_)
  go_ret
  exact ⟨_, rfl, HF.out.1, HF.out.2.1, HF.out.2.2⟩
end Go.Proofs.YthaipkhgemachaaGreatDoor.Q
