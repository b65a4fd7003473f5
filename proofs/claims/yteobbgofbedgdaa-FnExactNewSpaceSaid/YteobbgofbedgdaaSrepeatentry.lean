/- slices.Repeat makes eight rows of one; no conditions beyond those written. -/
import Derived.Test.YteobbgofbedgdaaQx0
import Derived.Laws.CopyOwn
import Derived.Deep.RegionLaw
namespace Go.Proofs.Yteobbgofbedgdaa.Q
open Go.RowKit Go.Proofs.YteobbgofbedgdaaW.PrintWords Go.Proofs.YteobbgofbedgdaaW.PrintLast Go.Proofs.YteobbgofbedgdaaW.PrintMore
attribute [local go_sem] max2_int min2_int max_two min_two max_three min_three max_four min_four   -- for this text's walks alone
set_option linter.unusedVariables false
set_option linter.unusedSimpArgs false

theorem run_copy_rows {P : Program} (w : World) (dT sT ty elem : TypeId) (m g o dLen dCap : Nat) (a : Addr) (sLen sCap : Nat) (cur : Array Value) (t : TypeId) (cs : List Value) (n : Nat)
    (hu : P.underlying dT = some (.slice elem)) (hs : (P.info? elem).map (·.size) = some m)
    (hg : w.heap[g]? = some (.cells cur t (0, 0))) (hmin : Nat.min sLen dLen = n) (hn : cs.length = n * m)
    (hsrc : ∀ j v, cs[j]? = some v → w.cell? (a.add j) = some v) (hfit : o + cs.length ≤ cur.size) (h1 : ∀ v ∈ cs, v.oneCell' = true) :
    (Builtin.copy_ #[dT, sT] ty #[.slice (some ⟨g, o, none⟩) dLen dCap, .slice (some a) sLen sCap]).run P w =
      .ok (goInt n) (w.setRow g (cur.toList.take o ++ cs ++ cur.toList.drop (o + cs.length)).toArray) := by
  have hl := run_loadCells_list (P := P) w a cs hsrc
  have hst := run_storeCells_at P g o t cs 0 cur w hg (by simpa using hfit) h1
  rw [hn] at hl
  cases hq : P.info? elem with
  | none => simp [hq] at hs
  | some i =>
    have hi : i.size = m := by simpa [hq] using hs
    subst hmin
    simp [Builtin.copy_, run_underlying hu, Builtin.lenOf, Builtin.firstCells, sizeOf, typeInfo, hq, hi, hl, hst]
theorem wpList_copy_rows {P : Program} {w : World} {ops : Array Oper} {rest : List Oper} {o : Oper} {a : Act} {Q : Exit → Act → World → Prop} (hgd : o.guard = none) (d s : Operand) (dT sT : TypeId)
    (ho : o.op = .call { callee := .builtin .copy, args := #[d, s], argTypes := #[dT, sT] }) (elem : TypeId) (m : Nat) (hu : P.underlying dT = some (.slice elem)) (hsz : (P.info? elem).map (·.size) = some m)
    (g off dLen dCap : Nat) (ad : Addr) (sLen sCap : Nat) (hd : a.eval d = .slice (some ⟨g, off, none⟩) dLen dCap) (hs : a.eval s = .slice (some ad) sLen sCap)
    (cur : List Value) (t : TypeId) (hg : w.heap[g]? = some (.cells cur.toArray t (0, 0))) (cs : List Value) (n : Nat) (hmin : Nat.min sLen dLen = n) (hn : cs.length = n * m)
    (hsrc : ∀ j v, cs[j]? = some v → w.cell? (ad.add j) = some v) (hfit : off + cs.length ≤ cur.length) (h1 : ∀ v ∈ cs, v.oneCell' = true) (B : Nat) (w0 : World) (hb : RowKit.Below B w0 w) (hBg : B ≤ g)
    (h : ∀ w', RowKit.Hid (w'.heap[g]? = some (.cells (splice cur off cs).toArray t (0, 0))) → RowKit.Below B w0 w' → wpList P ops Q rest (a.put o.dst (goInt n)) w') : wpList P ops Q (o :: rest) a w := by
  refine wpList_plain hgd fun K hK => ?_
  have hrun := run_copy_rows (P := P) w dT sT o.type elem m g off dLen dCap ad sLen sCap cur.toArray t cs n hu hsz hg hmin hn hsrc (by simpa using hfit) h1
  unfold Oper.wp
  simp [execOp, ho, resolve, invoke, builtin, hd, hs, hrun, Result.andThen]
  exact hK _ _ (h _ (show _ = _ by simpa [splice] using setRow_heap w g _ _ t _ hg) (below_setRow hb hBg _))
theorem step_copy_rows {P : Program} {ops : Array Oper} {o : Oper} {a : Act} {w : World} {K : Act → World → Prop} {Q : Exit → Act → World → Prop} {E : Prop} (hgd : o.guard = none) (d s : Operand) (dT sT : TypeId)
    (ho : o.op = .call { callee := .builtin .copy, args := #[d, s], argTypes := #[dT, sT] }) (elem : TypeId) (m : Nat) (hu : P.underlying dT = some (.slice elem)) (hsz : (P.info? elem).map (·.size) = some m)
    (g off dLen dCap : Nat) (ad : Addr) (sLen sCap : Nat) (hd : a.eval d = .slice (some ⟨g, off, none⟩) dLen dCap) (hs : a.eval s = .slice (some ad) sLen sCap)
    (cur : List Value) (t : TypeId) (hg : w.heap[g]? = some (.cells cur.toArray t (0, 0))) (cs : List Value) (n : Nat) (hmin : Nat.min sLen dLen = n) (hn : cs.length = n * m)
    (hsrc : ∀ j v, cs[j]? = some v → w.cell? (ad.add j) = some v) (hfit : off + cs.length ≤ cur.length) (h1 : ∀ v ∈ cs, v.oneCell' = true) (B : Nat) (w0 : World) (hb : RowKit.Below B w0 w) (hBg : B ≤ g)
    (h : ∀ w', RowKit.Hid (w'.heap[g]? = some (.cells (splice cur off cs).toArray t (0, 0))) → RowKit.Below B w0 w' → K (a.put o.dst (goInt n)) w') :
    if Region.wanted o (yielded ops a.tmps) = true then Oper.wp P o a w K Q else E := by
  have hw : Region.wanted o (yielded ops a.tmps) = true := by simp [Region.wanted, hgd]
  rw [if_pos hw]
  have hrun := run_copy_rows (P := P) w dT sT o.type elem m g off dLen dCap ad sLen sCap cur.toArray t cs n hu hsz hg hmin hn hsrc (by simpa using hfit) h1
  unfold Oper.wp
  simp [execOp, ho, resolve, invoke, builtin, hd, hs, hrun, Result.andThen]
  exact h _ (show _ = _ by simpa [splice] using setRow_heap w g _ _ t _ hg) (below_setRow hb hBg _)
set_option maxHeartbeats 4000000 in
set_option maxRecDepth 100000 in
theorem mul64_18 (w : World) : Calls Try.prog 134 #[.int .u64 1, .int .u64 8] w fun e w' => e = .returned (.tuple #[.int .u64 0, .int .u64 8]) ∧ w' = w := by
  go_enter Try.func134, Try.ntmps134
  go_wp2_with (fail)
  go_ret2
  exact ⟨rfl, rfl⟩
set_option maxHeartbeats 4000000 in
set_option maxRecDepth 100000 in
theorem mul_18 (w : World) : Calls Try.prog 124 #[.int .u64 1, .int .u64 8] w fun e w' => e = .returned (.tuple #[.int .u64 0, .int .u64 8]) ∧ w' = w := by
  go_enter Try.func124, Try.ntmps124
  go_wp2_with (go_at_call 134; (with_reducible refine (mul64_18 _).mono ?_); rintro e w2 ⟨rfl, rfl⟩)
  go_ret2
  exact ⟨rfl, rfl⟩
def eCells : List Value := [.int .i64 (-1), .bool false, .bool false, .bool false]
def zCells : List Value := [.int .i64 0, .bool false, .bool false, .bool false]
def rowE : Nat → List Value
  | 1 => eCells ++ zCells ++ zCells ++ zCells ++ zCells ++ zCells ++ zCells ++ zCells
  | 2 => eCells ++ eCells ++ zCells ++ zCells ++ zCells ++ zCells ++ zCells ++ zCells
  | 4 => eCells ++ eCells ++ eCells ++ eCells ++ zCells ++ zCells ++ zCells ++ zCells
  | _ => eCells ++ eCells ++ eCells ++ eCells ++ eCells ++ eCells ++ eCells ++ eCells
def zRow : List Value := zCells ++ zCells ++ zCells ++ zCells ++ zCells ++ zCells ++ zCells ++ zCells
theorem infoEntry : (Try.prog.info? 104).map (fun i => (i.zero, i.size, i.bytes)) = some (some (.agg #[.int .i64 0, .bool false, .bool false, .bool false]), 4, 16) := by kernel_rfl
theorem sizeEntry : (Try.prog.info? 104).map (·.size) = some 4 := by kernel_rfl
theorem make_entry (W : World) : (Instr.makeSlice 71 (.int .i64 8) (.int .i64 8)).run Try.prog W = .ok (.slice (some ⟨W.heap.size, 0, none⟩) 8 8) (W.alloc (.cells zRow.toArray 104)) := by
  obtain ⟨i, hi, hz, hs, hb⟩ := info_parts infoEntry
  have := run_make W 71 104 i _ Try.underlying71 hi hz .i64 .i64 (8 : Int) (8 : Int) (by omega) (Int.le_refl _) (by rw [hb]; omega) (by omega)
  have e : madeCells (Value.agg #[.int .i64 0, .bool false, .bool false, .bool false]).cells (Int.toNat 8 * 4) = zRow.toArray := by kernel_rfl
  rw [this, hs, e]
  rfl
theorem cell_at {w : World} {g : Nat} {L : List Value} {t : TypeId} (h : w.heap[g]? = some (.cells L.toArray t)) (i : Nat) (v : Value) (hv : L[i]? = some v) : w.cell? ⟨g, i, none⟩ = some v := by
  rw [blk_cell h i]; simpa using hv
theorem rowE_src {w : World} {g k : Nat} {t : TypeId} (h : w.heap[g]? = some (.cells (rowE k).toArray t)) (n : Nat) : ∀ j v, ((rowE k).take n)[j]? = some v → w.cell? (Addr.add ⟨g, 0, none⟩ j) = some v := by
  intro j v hv
  have e : Addr.add ⟨g, 0, none⟩ j = ⟨g, j, none⟩ := by cases j <;> simp [Addr.add]
  rw [e]
  refine cell_at h j v ?_
  rw [List.getElem?_take] at hv
  split at hv
  · exact hv
  · cases hv
set_option maxHeartbeats 8000000 in
set_option maxRecDepth 100000 in
theorem repeat8 (ge ce : Nat) (t : TypeId) (W : World) (hx : W.heap[ge]? = some (.cells eCells.toArray t (0, 0))) :
    Calls Try.prog 99 #[.slice (some ⟨ge, 0, none⟩) 1 ce, .int .i64 8] W fun e W' => e = .returned (.slice (some ⟨W.heap.size, 0, none⟩) 8 8) ∧ Below W.heap.size W W' ∧ W'.heap[W.heap.size]? = some (.cells (rowE 8).toArray 104 (0, 0)) := by
  have HX := Aside0.mk hx
  clear hx
  have hmk := make_entry
  go_enter Try.func99, Try.ntmps99
  have hsrc : ∀ j v, eCells[j]? = some v → (W.alloc (.cells zRow.toArray 104)).cell? (Addr.add ⟨ge, 0, none⟩ j) = some v := by
    intro j v hv
    have h1 := cell_at HX.out j v hv
    have h2 := ((below_alloc (Below.refl W.heap.size W) (.cells zRow.toArray 104)).cell (World.block_lt_of_cell? _ _ h1)).trans h1
    have e : Addr.add ⟨ge, 0, none⟩ j = ⟨ge, j, none⟩ := by cases j <;> simp [Addr.add]
    rw [e]; exact h2
  have HS := Aside0.mk hsrc
  clear hsrc
  go_wp2_with (first | (go_at_call 124; (with_reducible refine (mul_18 _).mono ?_); rintro e w2 ⟨rfl, hw⟩; have hw' := hw.symm; subst hw'; clear hw) | (refine wpList_copy_rows rfl (.tmp 31) (.tmp 32) 71 71 rfl 104 4 Try.underlying71 sizeEntry W.heap.size 0 8 8 ⟨ge, 0, none⟩ 1 ce rfl rfl zRow 104 (blk_new _ _) eCells 1 rfl rfl HS.out (by decide) (by decide) W.heap.size W (below_alloc (Below.refl _ _) _) (Nat.le_refl _) ?_; intro W3 HG3 hb3; have HB3 := Aside0.mk hb3; clear hb3))
  have HG := Aside0.mk (show W3.heap[W.heap.size]? = some (.cells (rowE 1).toArray 104) from HG3.out)
  clear HG3 hmk HS HX
  go_loopg [8] 8 (fun gg s8 wr => ∃ k : Nat, s8 = .int .i64 k ∧ Aside0 ((k = 1 ∨ k = 2 ∨ k = 4 ∨ k = 8) ∧ 8 - k ≤ gg) ∧ Aside0 (wr.heap[W.heap.size]? = some (.cells (rowE k).toArray 104)) ∧ Aside0 (Below W.heap.size W wr))
  case atStart => exact ⟨1, rfl, ⟨by omega⟩, HG, HB3⟩
  case round =>
    clear HG HB3
    obtain ⟨k, rfl, HK, HG, HB⟩ := hrel
    obtain ⟨hk, hgg⟩ := HK.out
    rcases hk with rfl | rfl | rfl | rfl
    · go_upto_region 9 with (fail)
      have hgd : wr.drew.heap[W.heap.size]? = some (.cells (rowE 1).toArray 104) := HG.out
      have hbd : Below W.heap.size W wr.drew := below_drew HB.out
      have HGD := Aside0.mk hgd
      have HBD := Aside0.mk hbd
      clear hgd hbd
      go_region_law (refine step_copy_rows rfl (.tmp 41) (.tmp 44) 71 71 rfl 104 4 Try.underlying71 sizeEntry W.heap.size 4 7 7 ⟨W.heap.size, 0, none⟩ 1 8 (by kernel_rfl) (by kernel_rfl) (rowE 1) 104 HGD.out ((rowE 1).take 4) 1 rfl rfl (rowE_src HGD.out _) (by decide) (by decide) W.heap.size W HBD.out (Nat.le_refl _) ?_; intro W4 HG4 hb4)
      go_wp2_with (fail)
      go_roundg 6
      case measure => omega
      case rel => exact ⟨2, rfl, ⟨by omega⟩, ⟨HG4.out⟩, ⟨hb4⟩⟩
    · go_upto_region 9 with (fail)
      have hgd : wr.drew.heap[W.heap.size]? = some (.cells (rowE 2).toArray 104) := HG.out
      have hbd : Below W.heap.size W wr.drew := below_drew HB.out
      have HGD := Aside0.mk hgd
      have HBD := Aside0.mk hbd
      clear hgd hbd
      go_region_law (refine step_copy_rows rfl (.tmp 41) (.tmp 44) 71 71 rfl 104 4 Try.underlying71 sizeEntry W.heap.size 8 6 6 ⟨W.heap.size, 0, none⟩ 2 8 (by kernel_rfl) (by kernel_rfl) (rowE 2) 104 HGD.out ((rowE 2).take 8) 2 rfl rfl (rowE_src HGD.out _) (by decide) (by decide) W.heap.size W HBD.out (Nat.le_refl _) ?_; intro W4 HG4 hb4)
      go_wp2_with (fail)
      go_roundg 4
      case measure => omega
      case rel => exact ⟨4, rfl, ⟨by omega⟩, ⟨HG4.out⟩, ⟨hb4⟩⟩
    · go_upto_region 9 with (fail)
      have hgd : wr.drew.heap[W.heap.size]? = some (.cells (rowE 4).toArray 104) := HG.out
      have hbd : Below W.heap.size W wr.drew := below_drew HB.out
      have HGD := Aside0.mk hgd
      have HBD := Aside0.mk hbd
      clear hgd hbd
      go_region_law (refine step_copy_rows rfl (.tmp 41) (.tmp 44) 71 71 rfl 104 4 Try.underlying71 sizeEntry W.heap.size 16 4 4 ⟨W.heap.size, 0, none⟩ 4 8 (by kernel_rfl) (by kernel_rfl) (rowE 4) 104 HGD.out ((rowE 4).take 16) 4 rfl rfl (rowE_src HGD.out _) (by decide) (by decide) W.heap.size W HBD.out (Nat.le_refl _) ?_; intro W4 HG4 hb4)
      go_wp2_with (fail)
      go_roundg 0
      case measure => omega
      case rel => exact ⟨8, rfl, ⟨by omega⟩, ⟨HG4.out⟩, ⟨hb4⟩⟩
    · go_wp2_with (fail)
      go_ret
      exact ⟨rfl, HB.out, HG.out⟩
end Go.Proofs.Yteobbgofbedgdaa.Q
