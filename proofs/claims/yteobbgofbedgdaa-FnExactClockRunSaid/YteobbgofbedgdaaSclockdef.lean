/- The clock, in plain lists; and a row of frames in memory; no conditions. -/
import Derived.Test.YteobbgofbedgdaaQx0
namespace Go.Proofs.Yteobbgofbedgdaa.Q
open Go.RowKit Go.Proofs.YteobbgofbedgdaaW.PrintWords Go.Proofs.YteobbgofbedgdaaW.PrintLast Go.Proofs.YteobbgofbedgdaaW.PrintMore
attribute [local go_sem] max2_int min2_int max_two min_two max_three min_three max_four min_four   -- for this text's walks alone
set_option linter.unusedVariables false
set_option linter.unusedSimpArgs false

abbrev CF := Int × Bool × Bool
def cells3 : List CF → List Value
  | [] => []
  | f :: H => .int .i64 f.1 :: .bool f.2.1 :: .bool f.2.2 :: cells3 H
theorem cells3_length (H : List CF) : (cells3 H).length = H.length * 3 := by
  induction H with
  | nil => rfl
  | cons f H ih => simp only [cells3, List.length_cons, ih]; omega
theorem cells3_append (H K : List CF) : cells3 (H ++ K) = cells3 H ++ cells3 K := by
  induction H with
  | nil => rfl
  | cons f H ih => simp only [List.cons_append, cells3, ih]
def rdC (H : List CF) (p : Nat) : CF := H.getD p (0, false, false)
theorem rdC_lt (H : List CF) (p : Nat) (h : p < H.length) : rdC H p = H[p] := by
  unfold rdC
  rw [List.getD_eq_getElem?_getD, List.getElem?_eq_getElem h, Option.getD_some]
theorem cells3_get (H : List CF) (i : Nat) (h : i < H.length) : (cells3 H)[i * 3]? = some (.int .i64 (rdC H i).1) ∧ (cells3 H)[i * 3 + 1]? = some (.bool (rdC H i).2.1) ∧ (cells3 H)[i * 3 + 2]? = some (.bool (rdC H i).2.2) := by
  induction H generalizing i with
  | nil => exact absurd h (Nat.not_lt_zero _)
  | cons f H ih =>
    cases i with
    | zero => exact ⟨rfl, rfl, rfl⟩
    | succ i =>
      have h2 := ih i (by simpa using h)
      rw [show (i + 1) * 3 = i * 3 + 1 + 1 + 1 by omega, show i * 3 + 1 + 1 + 1 + 1 = i * 3 + 1 + 1 + 1 + 1 from rfl]
      exact h2
theorem cells3_set (H : List CF) (i : Nat) (h : i < H.length) (a : Int) (b c : Bool) : (cells3 H).set (i * 3) (.int .i64 a) = cells3 (H.set i (a, (rdC H i).2)) ∧ (cells3 H).set (i * 3 + 1) (.bool b) = cells3 (H.set i ((rdC H i).1, b, (rdC H i).2.2)) ∧ (cells3 H).set (i * 3 + 2) (.bool c) = cells3 (H.set i ((rdC H i).1, (rdC H i).2.1, c)) := by
  induction H generalizing i with
  | nil => exact absurd h (Nat.not_lt_zero _)
  | cons f H ih =>
    cases i with
    | zero => exact ⟨rfl, rfl, rfl⟩
    | succ i =>
      obtain ⟨h1, h2, h3⟩ := ih i (by simpa using h)
      have e : rdC (f :: H) (i + 1) = rdC H i := rfl
      rw [e, show (i + 1) * 3 = i * 3 + 1 + 1 + 1 by omega]
      simp only [cells3, List.set_cons_succ]
      refine ⟨by rw [h1], ?_, ?_⟩
      · show _ :: _ :: _ :: (cells3 H).set (i * 3 + 1) _ = _
        rw [h2]
      · show _ :: _ :: _ :: (cells3 H).set (i * 3 + 2) _ = _
        rw [h3]
/-- A row of frames of one's own. -/
structure Held (W : World) (base g c : Nat) (H : List CF) : Prop where
  own : W.ownsRow base 66 3 (.slice (some ⟨g, 0, none⟩) H.length c) H.length (cells3 H)
section
variable {W W' : World} {base g c : Nat} {H : List CF}
theorem Held.blk (h : Held W base g c H) : ∃ cur, base ≤ g ∧ W.heap[g]? = some (.cells cur 66 (0, 0)) ∧ H.length ≤ c ∧ c ≤ maxLen ∧ cur.size = c * 3 ∧ cur.toList.take (H.length * 3) = cells3 H := by
  obtain ⟨_, h2⟩ := h.own
  rcases h2 with ⟨hv, _⟩ | ⟨g', cap, cur, hv, h3, h4, h5, h6, h7, h8⟩
  · cases hv
  · injection hv with e1 e2 e3
    injection e1 with e1
    injection e1 with e1
    subst e1; subst e3
    exact ⟨cur, h3, h4, h5, h6, h7, h8⟩
theorem Held.cellAt (h : Held W base g c H) (k : Nat) (hk : k < H.length * 3) : W.cell? ⟨g, k, none⟩ = (cells3 H)[k]? ∧ W.frozen? ⟨g, k, none⟩ = false := by
  obtain ⟨cur, _, hb, _, _, hs, ht⟩ := h.blk
  refine ⟨?_, blk_frozen hb k⟩
  rw [blk_cell hb, ← ht, List.getElem?_take_of_lt hk, Array.getElem?_toList]
theorem Held.cells (h : Held W base g c H) (i : Nat) (hi : i < H.length) : W.cell? ⟨g, i * 3, none⟩ = some (.int .i64 (rdC H i).1) ∧ W.cell? ⟨g, i * 3 + 1, none⟩ = some (.bool (rdC H i).2.1) ∧ W.cell? ⟨g, i * 3 + 2, none⟩ = some (.bool (rdC H i).2.2) := by
  obtain ⟨h1, h2, h3⟩ := cells3_get H i hi
  exact ⟨(h.cellAt _ (by omega)).1.trans h1, (h.cellAt _ (by omega)).1.trans h2, (h.cellAt _ (by omega)).1.trans h3⟩
theorem Held.setAt (h : Held W base g c H) {H2 : List CF} (k : Nat) (hk : k < H.length * 3) (u : Value) (hl : H2.length = H.length) (he : (cells3 H).set k u = cells3 H2) : Held (W.setCell ⟨g, k, none⟩ u) base g c H2 := by
  obtain ⟨cur, h1, hb, h3, h4, hs, ht⟩ := h.blk
  refine ⟨⟨cells3_length H2, .inr ⟨g, c, cur.setIfInBounds k u, by rw [hl], h1, blk_set hb k u, by omega, h4, by simpa using hs, ?_⟩⟩⟩
  rw [← he, ← ht, hl, Array.toList_setIfInBounds, List.take_set]
theorem Held.below (h : Held W base g c H) (hb : Below W.heap.size W W') : Held W' base g c H := by
  obtain ⟨cur, h1, h2, h3, h4, hs, ht⟩ := h.blk
  exact ⟨⟨cells3_length H, .inr ⟨g, c, cur, rfl, h1, blk_below h2 hb, h3, h4, hs, ht⟩⟩⟩
theorem Held.far (h : Held W base g c H) {p : Addr} (hp : g ≠ p.block) (u : Value) : Held (W.setCell p u) base g c H := by
  obtain ⟨cur, h1, h2, h3, h4, hs, ht⟩ := h.blk
  exact ⟨⟨cells3_length H, .inr ⟨g, c, cur, rfl, h1, blk_far h2 hp u, h3, h4, hs, ht⟩⟩⟩
theorem Held.grown (h : Held W base g c H) {row : Option Nat} (hg : W.grownBy W' row) (hne : some g ≠ row) : Held W' base g c H := by
  obtain ⟨cur, h1, h2, h3, h4, hs, ht⟩ := h.blk
  exact ⟨⟨cells3_length H, .inr ⟨g, c, cur, rfl, h1, blk_grown h2 hg hne, h3, h4, hs, ht⟩⟩⟩
end
/- The clock. -/
def cntM (h : List CF) : Nat := h.countP fun f => f.2.1
def unm (h : List CF) (p : Nat) : List CF := h.set p ((rdC h p).1, false, (rdC h p).2.2)
theorem unm_length (h : List CF) (p : Nat) : (unm h p).length = h.length := by unfold unm; rw [List.length_set]
theorem cntM_unm (h : List CF) (p : Nat) (hp : p < h.length) (hm : (rdC h p).2.1 = true) : cntM (unm h p) + 1 = cntM h := by
  induction h generalizing p with
  | nil => exact absurd hp (Nat.not_lt_zero _)
  | cons f h ih =>
    cases p with
    | zero =>
      have hm : f.2.1 = true := hm
      show cntM ((f.1, false, f.2.2) :: h) + 1 = cntM (f :: h)
      unfold cntM
      rw [List.countP_cons, List.countP_cons, hm]
      simp
    | succ p =>
      have h2 := ih p (by simpa using hp) hm
      show cntM (f :: unm h p) + 1 = cntM (f :: h)
      unfold cntM at h2 ⊢
      rw [List.countP_cons, List.countP_cons]
      omega
def spinC : Nat → List CF → Nat → List CF × Nat
  | 0, h, p => (h, p)
  | k + 1, h, p => if (rdC h p).2.1 = true then spinC k (unm h p) ((p + 1) % h.length) else (h, p)
theorem spinC_stop (k : Nat) (h : List CF) (p : Nat) (hm : (rdC h p).2.1 = false) : spinC k h p = (h, p) := by
  cases k with
  | zero => rfl
  | succ k => unfold spinC; rw [if_neg (by rw [hm]; simp)]
theorem cntM_le (h : List CF) : cntM h ≤ h.length := List.countP_le_length
theorem spinC_facts (k : Nat) : ∀ (h : List CF) (p : Nat), p < h.length → (spinC k h p).1.length = h.length ∧ (spinC k h p).2 < h.length := by
  induction k with
  | zero => exact fun h p hp => ⟨rfl, hp⟩
  | succ k ih =>
    intro h p hp
    unfold spinC
    split
    · have h2 := ih (unm h p) ((p + 1) % h.length) (by rw [unm_length]; exact Nat.mod_lt _ (by omega))
      rw [unm_length] at h2
      exact h2
    · exact ⟨rfl, hp⟩
/-- One access: the frames and the hand, the fault, what is written back. -/
def stepC (fr : Nat) (h : List CF) (p : Nat) (kd ad : Int) : (List CF × Nat) × Int × Int :=
  let i := h.findIdx (fun f => f.1 == ad)
  if i < h.length then ((h.set i ((rdC h i).1, true, (rdC h i).2.2 || kd == 1), p), 0, 0)
  else if h.length < fr then ((h ++ [(ad, true, kd == 1)], p), 1, 0)
  else (((spinC h.length h p).1.set (spinC h.length h p).2 (ad, true, kd == 1), ((spinC h.length h p).2 + 1) % h.length), 1, if (rdC (spinC h.length h p).1 (spinC h.length h p).2).2.2 = true then 1 else 0)
def runC (fr : Nat) (t : List S60) : Nat → (List CF × Nat) × List Int × Int
  | 0 => (([], 0), [], 0)
  | i + 1 => ((stepC fr (runC fr t i).1.1 (runC fr t i).1.2 (rd_T60 t (i : Int)).f0 (rd_T60 t (i : Int)).f1).1, (runC fr t i).2.1 ++ [(stepC fr (runC fr t i).1.1 (runC fr t i).1.2 (rd_T60 t (i : Int)).f0 (rd_T60 t (i : Int)).f1).2.1], (runC fr t i).2.2 + (stepC fr (runC fr t i).1.1 (runC fr t i).1.2 (rd_T60 t (i : Int)).f0 (rd_T60 t (i : Int)).f1).2.2)
end Go.Proofs.Yteobbgofbedgdaa.Q
