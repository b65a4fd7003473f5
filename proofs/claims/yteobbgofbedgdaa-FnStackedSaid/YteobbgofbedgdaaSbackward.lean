/- The library's slices.Backward over numbers: the places from the last one to the first; no other conditions. -/
import Derived.Test.YteobbgofbedgdaaQx0
import Derived.Test.YteobbgofbedgdaaSbase
import Derived.RangeFuncBox
import Derived.RangeFuncLeaves
import Derived.RangeFuncWrites
import Derived.RangeFuncBound
import Derived.Shelf.Abstract
import Derived.OwnWalkIn
import Derived.TacticsInMore
import Derived.LoopNIn
import Derived.LoopIn
import Derived.Maps.AppendAt
namespace Go.Proofs.Yteobbgofbedgdaa.Q
open Go.RowKit Go.Proofs.YteobbgofbedgdaaW.PrintWords Go.Proofs.YteobbgofbedgdaaW.PrintLast Go.Proofs.YteobbgofbedgdaaW.PrintMore
attribute [local go_sem] max2_int min2_int max_two min_two max_three min_three max_four min_four   -- for this text's walks alone
set_option linter.unusedVariables false
set_option linter.unusedSimpArgs false

attribute [local go_sem] Oper.semAt_some
open Go.ChangeShapes Go.WideShapes Go.Shelf
/-- The places from n down to k. -/
def downTo (n k : Nat) : List Nat := (List.range' k (n - k)).reverse
theorem downTo_self (n : Nat) : downTo n n = [] := by unfold downTo; rw [Nat.sub_self]; rfl
theorem downTo_succ (n k : Nat) (h : k < n) : downTo n k = downTo n (k + 1) ++ [k] := by
  unfold downTo
  rw [show n - k = (n - (k + 1)) + 1 by omega, List.range'_succ, List.reverse_cons]
theorem downTo_length (n k : Nat) : (downTo n k).length = n - k := by unfold downTo; rw [List.length_reverse, List.length_range']
theorem downTo_zero (n : Nat) : downTo n 0 = (List.range n).reverse := by unfold downTo; rw [Nat.sub_zero, List.range_eq_range']
theorem back_block (ad : Addr) (j : Nat) : (ad.add j).block = ad.block := by unfold Addr.add; split <;> rfl
/-- What lay below n₀ lies as it lay, and so does the box Bs. -/
def KeepB (n₀ Bs : Nat) (t : TypeId) (W W' : World) : Prop := Below n₀ W W' ∧ ∀ v, Boxed W Bs t v → Boxed W' Bs t v
theorem KeepB.refl (n₀ Bs : Nat) (t : TypeId) (W : World) : KeepB n₀ Bs t W W := ⟨Below.refl _ _, fun _ h => h⟩
theorem KeepB.trans {n₀ Bs : Nat} {t : TypeId} {A B C : World} (h : KeepB n₀ Bs t A B) (k : KeepB n₀ Bs t B C) : KeepB n₀ Bs t A C := ⟨h.1.trans k.1, fun v hv => k.2 v (h.2 v hv)⟩
theorem keepB_b {n₀ Bs : Nat} {t : TypeId} {w : World} (hn : n₀ ≤ w.heap.size) (hB : Bs < w.heap.size) (W : World) (l : Nat) (o o' : Obj) (hl : w.heap.size ≤ l) (h1 : W.heap[l]? = some o) (h2 : o.isCells = false) (h3 : o.isWalk = false) : KeepB n₀ Bs t W (W.putObj l o') :=
  ⟨belowK_b (w := w) hn W l o o' hl h1 h2 h3, fun v hv => hv.kept (grownBy_putObj' W l o') (by intro e; cases e; omega)⟩
theorem Boxed.drewN {W : World} {B : Nat} {t : TypeId} {v : Value} (h : Boxed W B t v) (m : Nat) : Boxed (W.drewN m) B t v := h
theorem boxed_below {n : Nat} {W W' : World} {B : Nat} {t : TypeId} {v : Value} (h : Boxed W B t v) (hb : Below n W W') (hn : B < n) : Boxed W' B t v := (hb.block B hn).trans h
set_option maxRecDepth 100000 in
set_option maxHeartbeats 2000000 in
/-- The iterator over a slice from its end, for every loop body that keeps what lay below n₀. -/
theorem backward1_in (F : Fence) (n : Nat) (h7 : F.fn 122) (hro : F.round = none) (hn : 1 ≤ n) (l Bs n₀ len cap : Nat) (A : Option Addr) (zs : List Int) (hreach : len ≤ 1000000000) (J Jx : List Nat → World → Prop)
    (hA : 0 < len → ∃ ad, A = some ad ∧ ad.block < n₀)
    (hY : ∀ (pre : List Nat) (x : Nat) (W : World), J pre W → pre.length < len → YieldAt F (n - 1) Try.prog l #[.int .i64 x, .int .i64 (zs[x]?.getD 0)] W fun e W' =>
      (e = .returned (.bool true) ∧ J (pre ++ [x]) W' ∧ KeepB n₀ Bs 24 W W') ∨ (e = .returned (.bool false) ∧ Jx (pre ++ [x]) W'))
    (W : World) (hBs : Boxed W Bs 24 (.slice A len cap)) (hc : ∀ ad, A = some ad → ∀ j, j < len → W.cell? (ad.add j) = some (.int .i64 (zs[j]?.getD 0))) (h0 : J [] W) :
    CallsIn F n Try.prog 122 #[.func (.yield l) #[] #[], .pointer (some ⟨Bs, 0, none⟩)] W fun e W' => (∃ v, e = .returned v) ∧
      ((∃ ys, ys = downTo len 0 ∧ J ys W') ∨ (∃ pre, True ∧ Jx pre W')) := by
  refine callsIn_of_wp Try.func122 rfl h7 ?_ hro
  simp only [Try.ntmps122, List.size_toArray, List.length_cons, List.length_nil, Nat.reduceAdd, Nat.reduceSub, Array.replicate_succ, Array.replicate_zero, List.push_toArray, List.append_toArray, List.nil_append, List.cons_append]
  have hbox0 := hBs.cell
  gi_wp2
  gi_loopw [3] (fun i wr => ∃ m : Nat, m ≤ len ∧ i = .int .i64 ((m : Int) - 1) ∧ J (downTo len m) wr ∧ KeepB n₀ Bs 24 W wr)
    (fun i _ => (intOf i + 1).toNat)
  case atStart => exact ⟨len, Nat.le_refl _, rfl, by rw [downTo_self]; exact h0, KeepB.refl _ _ _ _⟩
  case round =>
    obtain ⟨m, hm, rfl, hJs, hnx⟩ := hrel
    have hbox := (hnx.2 _ hBs).cell
    cases m with
    | zero =>
      gi_wp2
      go_end0
      exact ⟨⟨_, rfl⟩, .inl ⟨_, rfl, hJs⟩⟩
    | succ k =>
      have hlt : k < len := by omega
      obtain ⟨ad, rfl, hab⟩ := hA (by omega)
      have hcx : wr.cell? (ad.add k) = some (.int .i64 (zs[k]?.getD 0)) := (hnx.1.cell (p := ad.add k) (by rw [back_block]; exact hab)).trans (hc ad rfl k hlt)
      obtain ⟨fn, tmps, assign, body, hy, hR⟩ := hY _ k wr hJs (by rw [downTo_length]; omega)
      have hkz : ((k + 1 : Nat) : Int) - 1 = (k : Int) := by omega
      rw [hkz]
      have h0k : (0 : Int) ≤ (k : Int) := by omega
      have hkl : (k : Int) < (len : Int) := by omega
      gi_wp2
      refine hR.mono ?_
      rintro e W3 (⟨rfl, hJ3, hk3⟩ | ⟨rfl, hJx3⟩)
      · gi_wp2
        go_roundw
        case rel => exact ⟨k, by omega, rfl, by rw [downTo_succ len k hlt]; exact hJ3, hnx.trans hk3⟩
        case measure => simp [intOf]
      · gi_wp2
        refine bodyPost_ret (results_none rfl _ _ _) rfl ?_
        exact ⟨⟨_, rfl⟩, .inr ⟨_, trivial, hJx3⟩⟩
theorem backward_stops (F : Fence) (n : Nat) (h7 : F.fn 122) (hro : F.round = none) (hn : 1 ≤ n) (Bs n₀ : Nat) (A : Option Addr) (c : Nat) (zs : List Int) (w : World) (hlen : zs.length ≤ 1000000000)
    (hc : Boxed w Bs 24 (.slice A zs.length c)) (hR : Kd.C (Kd.int .i64) w A zs.length zs) (hA : ∀ ad, A = some ad → 0 < zs.length → ad.block < n₀) :
    SeqStopsK F n Try.prog 122 #[.pointer (some ⟨Bs, 0, none⟩)] (fun x : Nat => #[Value.int .i64 x, Value.int .i64 (zs[x]?.getD 0)]) (KeepB n₀ Bs 24) (fun ys => ys = downTo zs.length 0) (fun _ => True) zs.length w := fun l J Jx W hW _ _ hY h0 => by
  have hc' := boxed_below hc hW hc.lt
  refine backward1_in F n h7 hro hn l Bs n₀ zs.length c A zs hlen J Jx (fun hp => ?_) hY W hc' (fun ad e j hj => ?_) h0
  · obtain ⟨ad, e, _⟩ := hR.2.2 hp
    exact ⟨ad, e, hA ad e hp⟩
  · obtain ⟨ad2, e2, hx⟩ := Kd.at_int (Kd.C_below hR hW) (j : Int) (by omega) (by omega)
    rw [e] at e2
    cases e2
    rw [rd_lt zs j hj, Int.toNat_natCast] at hx
    rw [hx, List.getElem?_eq_getElem hj]; rfl
set_option maxHeartbeats 2000000 in
theorem backward_calls (A : Option Addr) (n c : Nat) (w : World) :
    Calls Try.prog 91 #[.slice A n c] w fun e w' => e = .returned (.func (.func 122) #[] #[.pointer (some ⟨w.heap.size, 0, none⟩)]) ∧ w' = w.alloc (.cells #[.slice A n c] 24) := by
  go_enter Try.func91, Try.ntmps91
  go_wp2
  go_ret
  exact ⟨rfl, rfl⟩
end Go.Proofs.Yteobbgofbedgdaa.Q
