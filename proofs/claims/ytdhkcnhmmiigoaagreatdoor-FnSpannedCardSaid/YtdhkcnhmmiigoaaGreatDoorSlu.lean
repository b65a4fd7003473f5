/- Parts of the proof, laid together: contracts and lemmas; no conditions beyond those written. -/
import Derived.Test.YtdhkcnhmmiigoaaGreatDoorQx0
import Derived.Test.YtdhkcnhmmiigoaaGreatDoorQx1
import Derived.Test.YtdhkcnhmmiigoaaGreatDoorSupto
import Derived.Test.YtdhkcnhmmiigoaaGreatDoorStxtdef
import Derived.Test.YtdhkcnhmmiigoaaGreatDoorSsetval
import Derived.Test.YtdhkcnhmmiigoaaGreatDoorHsetOf
namespace Go.Proofs.YtdhkcnhmmiigoaaGreatDoor.Q
open Go.RowKit Go.Proofs.YtdhkcnhmmiigoaaGreatDoorW.PrintWords Go.Proofs.YtdhkcnhmmiigoaaGreatDoorW.PrintLast Go.Proofs.YtdhkcnhmmiigoaaGreatDoorW.PrintMore
attribute [local go_sem] max2_int min2_int max_two min_two max_three min_three max_four min_four   -- for this text's walks alone
set_option linter.unusedVariables false
set_option linter.unusedSimpArgs false
section
def lu (l : List Int) (a : Int) : Nat → Int
  | 0 => -1
  | i + 1 => if rd l (i : Int) = a then (i : Int) else lu l a i
theorem lu_range (l : List Int) (a : Int) (i : Nat) : -1 ≤ lu l a i ∧ lu l a i < (i : Int) := by
  induction i with
  | zero => exact ⟨by simp [lu], by simp [lu]⟩
  | succ i ih =>
    unfold lu
    split <;> omega
theorem lu_hit {l : List Int} {a : Int} {i : Nat} (h : 0 ≤ lu l a i) : rd l (lu l a i) = a := by
  induction i with
  | zero => simp [lu] at h
  | succ i ih =>
    unfold lu at h ⊢
    by_cases e : rd l (i : Int) = a
    · rw [if_pos e]; exact e
    · rw [if_neg e] at h ⊢; exact ih h
theorem lu_after {l : List Int} {a : Int} {i : Nat} : ∀ j : Nat, lu l a i < (j : Int) → j < i → rd l (j : Int) ≠ a := by
  induction i with
  | zero => intro j _ h; omega
  | succ i ih =>
    intro j h1 h2
    unfold lu at h1
    by_cases e : rd l (i : Int) = a
    · rw [if_pos e] at h1; omega
    · rw [if_neg e] at h1
      by_cases hj : j = i
      · subst hj; exact e
      · exact ih j h1 (by omega)
theorem rd_take (l : List Int) (n j : Nat) (h : j < n) : rd (l.take n) (j : Int) = rd l (j : Int) := by
  show (l.take n).getD j 0 = l.getD j 0
  rw [List.getD_eq_getElem?_getD, List.getD_eq_getElem?_getD, List.getElem?_take_of_lt h]
theorem lu_take (l : List Int) (a : Int) (n i : Nat) (h : i ≤ n) : lu (l.take n) a i = lu l a i := by
  induction i with
  | zero => rfl
  | succ i ih =>
    unfold lu
    rw [rd_take l n i (by omega), ih (by omega)]
theorem ev_lastUse_l0 (l : List Int) (a : Int) (h : l.length ≤ 35184372088832) : ∀ i : Nat, i ≤ l.length → Ev (fun k => impl_lastUse.l0 k l a ((i : Int) - 1)) (lu l a i) := by
  intro i
  induction i with
  | zero =>
    intro _
    apply Ev.succ
    simp only [impl_lastUse.l0]
    exact Ev.ite_neg (by omega) (Ev.now _)
  | succ i ih =>
    intro hi
    apply Ev.succ
    simp only [impl_lastUse.l0]
    rw [show ((i + 1 : Nat) : Int) - 1 = (i : Int) by omega]
    refine Ev.ite_pos (by omega) (Ev.ite_pos (by omega) (Ev.ite_pos (by omega) ?_))
    unfold lu
    by_cases e : rd l (i : Int) = a
    · rw [if_pos e]; exact Ev.ite_pos e (Ev.now _)
    · rw [if_neg e, wrap64_id (by omega) (by omega)]
      exact Ev.ite_neg e (ih (by omega))
theorem ev_lastUse (l : List Int) (a : Int) (h : l.length ≤ 35184372088832) : Ev (fun k => impl_lastUse.f k l a) (lu l a l.length) := by
  unfold impl_lastUse.f
  rw [wrap64_id (by omega) (by omega)]
  exact ev_lastUse_l0 l a h l.length (Nat.le_refl _)
theorem ev_lastUse_take (l : List Int) (a : Int) (i : Nat) (hi : i ≤ l.length) (h : l.length ≤ 35184372088832) : Ev (fun k => impl_lastUse.f k (l.take i) a) (lu l a i) := by
  have hl : (l.take i).length = i := by simp; omega
  have := ev_lastUse (l.take i) a (by omega)
  rwa [hl, lu_take l a i i (Nat.le_refl _)] at this
/-- What has been used between the last use of an address and its use i. -/
def between (l : List Int) (i : Nat) : List Int := setL ((l.take i).drop (lu l (rd l (i : Int)) i + 1).toNat)
theorem between_length (l : List Int) (i : Nat) : (between l i).length ≤ i := by
  unfold between
  have h := setL_length_le ((l.take i).drop (lu l (rd l (i : Int)) i + 1).toNat)
  rw [List.length_drop, List.length_take] at h
  omega
end
section
def spI (rows : List Int) : Nat → List Int
  | 0 => [0]
  | i + 1 => spI rows i ++ (spI rows i).map (fun y => xo y (rd rows (i : Int)))
def stepS (out : List Int) (r : Int) : Nat → List Int
  | 0 => out
  | k + 1 => if xo (rd out (k : Int)) r ∈ stepS out r k then stepS out r k else stepS out r k ++ [xo (rd out (k : Int)) r]
def spS (rows : List Int) : Nat → List Int
  | 0 => [0]
  | i + 1 => stepS (spS rows i) (rd rows (i : Int)) (spS rows i).length
theorem stepS_succ (out : List Int) (r : Int) (k : Nat) : stepS out r (k + 1) = if xo (rd out (k : Int)) r ∈ stepS out r k then stepS out r k else stepS out r k ++ [xo (rd out (k : Int)) r] := rfl
theorem spI_length (rows : List Int) (i : Nat) : (spI rows i).length = 2 ^ i := by
  induction i with
  | zero => rfl
  | succ i ih => unfold spI; rw [List.length_append, List.length_map, ih, Nat.pow_succ]; omega
theorem stepS_pre (out : List Int) (r : Int) (k : Nat) : ∃ t, stepS out r k = out ++ t ∧ t.length ≤ k := by
  induction k with
  | zero => exact ⟨[], by simp [stepS], by simp⟩
  | succ k ih =>
    obtain ⟨t, e, h⟩ := ih
    rw [stepS_succ]
    split
    · exact ⟨t, e, by omega⟩
    · exact ⟨t ++ [xo (rd out (k : Int)) r], by rw [e, List.append_assoc], by rw [List.length_append, List.length_singleton]; omega⟩
theorem stepS_length (out : List Int) (r : Int) (k : Nat) : out.length ≤ (stepS out r k).length ∧ (stepS out r k).length ≤ out.length + k := by
  obtain ⟨t, e, h⟩ := stepS_pre out r k
  rw [e, List.length_append]; omega
theorem stepS_rd (out : List Int) (r : Int) (k j : Nat) (hj : j < out.length) : rd (stepS out r k) (j : Int) = rd out (j : Int) := by
  obtain ⟨t, e, h⟩ := stepS_pre out r k
  rw [e, rd_lt _ j (by rw [List.length_append]; omega), rd_lt out j hj, List.getElem_append_left hj]
theorem spS_length (rows : List Int) (i : Nat) : (spS rows i).length ≤ 2 ^ i := by
  induction i with
  | zero => simp [spS]
  | succ i ih =>
    have := (stepS_length (spS rows i) (rd rows (i : Int)) (spS rows i).length).2
    unfold spS
    rw [Nat.pow_succ]; omega
theorem stepS_mem (out : List Int) (r x : Int) (k : Nat) : x ∈ stepS out r k ↔ x ∈ out ∨ ∃ j : Nat, j < k ∧ x = xo (rd out (j : Int)) r := by
  induction k with
  | zero => simp [stepS]
  | succ k ih =>
    have key : x ∈ stepS out r (k + 1) ↔ x ∈ stepS out r k ∨ x = xo (rd out (k : Int)) r := by
      rw [stepS_succ]
      split
      · rename_i h
        constructor
        · exact fun hx => .inl hx
        · rintro (hx | rfl)
          · exact hx
          · exact h
      · simp
    rw [key, ih]
    constructor
    · rintro ((h | ⟨j, hj, e⟩) | e)
      · exact .inl h
      · exact .inr ⟨j, by omega, e⟩
      · exact .inr ⟨k, by omega, e⟩
    · rintro (h | ⟨j, hj, e⟩)
      · exact .inl (.inl h)
      · by_cases hk : j = k
        · exact .inr (by rw [e, hk])
        · exact .inl (.inr ⟨j, by omega, e⟩)
theorem sp_mem (rows : List Int) (i : Nat) : ∀ x, x ∈ spI rows i ↔ x ∈ spS rows i := by
  induction i with
  | zero => intro x; rfl
  | succ i ih =>
    intro x
    unfold spI spS
    rw [stepS_mem, List.mem_append, ih x, List.mem_map]
    constructor
    · rintro (h | ⟨y, hy, rfl⟩)
      · exact .inl h
      · have hy2 := (ih y).1 hy
        obtain ⟨j, hj, rfl⟩ := List.getElem_of_mem hy2
        exact .inr ⟨j, hj, by rw [rd_lt _ j hj]⟩
    · rintro (h | ⟨j, hj, rfl⟩)
      · exact .inl h
      · refine .inr ⟨rd (spS rows i) (j : Int), (ih _).2 ?_, rfl⟩
        rw [rd_lt _ j hj]; exact List.getElem_mem hj
theorem spI_range (rows : List Int) (hr : ∀ x ∈ rows, 0 ≤ x ∧ x ≤ 63) (i : Nat) (hi : i ≤ rows.length) : ∀ x ∈ spI rows i, 0 ≤ x ∧ x ≤ 63 := by
  induction i with
  | zero => intro x hx; simp [spI] at hx; omega
  | succ i ih =>
    intro x hx
    unfold spI at hx
    rcases List.mem_append.1 hx with h | h
    · exact ih (by omega) x h
    · obtain ⟨y, hy, rfl⟩ := List.mem_map.1 h
      have hrow := hr _ (List.getElem_mem (l := rows) (n := i) (by omega))
      rw [← rd_lt rows i (by omega)] at hrow
      exact (xor_xo (ih (by omega) y hy) hrow).2
theorem setL_congr {a b : List Int} (h : ∀ x, x ∈ a ↔ x ∈ b) : setL a = setL b :=
  setL_eq (setL_facts b).1 (fun x => ((setL_facts b).2 x).trans (h x).symm)
end
section
/-- The other addresses of the set of a use since the last use of its address. -/
def othersOf (R U : List Int) (i : Nat) : List Int := (between U i).filter fun x => !(!decide (setVal R (rd U (i : Int)) = setVal R x))
def missAt (R : List Int) (p : Int) (U : List Int) (i : Nat) : Bool := !decide (0 ≤ lu U (rd U (i : Int)) i) || decide (p ≤ ((othersOf R U i).length : Int))
def misN (R : List Int) (p : Int) (U : List Int) : Nat → Nat
  | 0 => 0
  | i + 1 => misN R p U i + if missAt R p U i = true then 1 else 0
theorem misN_le (R : List Int) (p : Int) (U : List Int) (i : Nat) : misN R p U i ≤ i := by
  induction i with
  | zero => simp [misN]
  | succ i ih => unfold misN; split <;> omega
end
section
theorem r8At_ok (l : List Int) (hb : Bytes l) (i n : Nat) (hn : 1 ≤ n) : ∃ x : Nat, laws_r8At.f l (i : Int) (n : Int) = some (x : Int) ∧ x < n := by
  unfold laws_r8At.f
  by_cases h1 : n ≤ 1
  · exact ⟨0, by rw [if_pos (by omega)]; rfl, by omega⟩
  · rw [if_neg (by omega)]
    by_cases h : i < l.length
    · have hr := hb _ (List.getElem_mem h)
      rw [if_neg (by omega), if_pos (by omega), if_pos (by omega), if_neg (by omega), rd_lt l i h, wrap64_id (by omega) (by omega)]
      have t0 := Int.tmod_nonneg (n : Int) hr.1
      have t1 := Int.tmod_lt_of_pos l[i] (show (0 : Int) < (n : Int) by omega)
      exact ⟨(Int.tmod l[i] (n : Int)).toNat, by rw [Int.toNat_of_nonneg t0], by omega⟩
    · exact ⟨0, by rw [if_pos (by omega)]; rfl, by omega⟩
end
section
def okAddr (n : Int) : Bool := decide (0 ≤ n) && decide (n ≤ 63)
theorem okAddr_iff (n : Int) : okAddr n = true ↔ 0 ≤ n ∧ n ≤ 63 := by simp [okAddr]
end
section
def okRows (l : List Int) : Bool := (l.all fun n => decide (0 ≤ n) && decide (n ≤ 63)) && decide (l.length ≤ 3)
theorem okRows_iff (l : List Int) : okRows l = true ↔ (∀ x ∈ l, 0 ≤ x ∧ x ≤ 63) ∧ l.length ≤ 3 := by
  simp [okRows]
end
section
theorem ev_ascending (n : Nat) (hn : n ≤ 1000000) : Ev (fun k => impl_ascending.f k (n : Int)) (upto (fun j => (j : Int)) n) := by
  unfold impl_ascending.f
  refine Ev.up (fun i k => impl_ascending.l0 k (upto (fun j => (j : Int)) i) (n : Int) (i : Int)) n _ ?_ ?_
  · apply Ev.succ
    simp only [impl_ascending.l0]
    exact Ev.ite_neg (by omega) (Ev.now _)
  · intro i hi ih
    have hl := upto_length (fun j => (j : Int)) i
    rw [upto_succ] at ih
    apply Ev.succ
    simp only [impl_ascending.l0]
    refine Ev.ite_pos (by omega) (Ev.ite_pos (by omega) ?_)
    rw [wrap64_succ (by omega)]
    exact ih
theorem upto64_mem {x : Int} (h : x ∈ upto (fun j => (j : Int)) 64) : 0 ≤ x ∧ x ≤ 63 := by
  unfold upto at h
  obtain ⟨j, hj, rfl⟩ := List.mem_map.1 h
  have := List.mem_range.1 hj
  omega
end
section
/-- A struct with one row, in a box, and the result's box. -/
structure BoxW (g1 g2 : Nat) (w W : World) (v : Value) (S : List Int) : Prop where
  res : W.heap[g1]? = some (.cells #[.slice none 0 0] 26 (0, 0))
  box : W.heap[g2]? = some (.cells #[v] 26 (0, 0))
  row : Kd.R (Kd.int .i64) 2 W w.heap.size (fun _ => True) v S
  bel : Below w.heap.size w W
  far : w.heap.size ≤ g1 ∧ w.heap.size ≤ g2 ∧ g1 ≠ g2
section
variable {g1 g2 : Nat} {w W : World} {v : Value} {S : List Int}
theorem BoxW.below {W' : World} (h : BoxW g1 g2 w W v S) (hb : Below W.heap.size W W') : BoxW g1 g2 w W' v S :=
  ⟨blk_below h.res hb, blk_below h.box hb, Kd.R_below h.row hb, h.bel.trans (hb.mono h.bel.size), h.far⟩
theorem BoxW.cell (h : BoxW g1 g2 w W v S) : W.cell? ⟨g2, 0, none⟩ = some v := by rw [blk_cell h.box]; rfl
theorem BoxW.rescell (h : BoxW g1 g2 w W v S) : W.cell? ⟨g1, 0, none⟩ = some (.slice none 0 0) := by rw [blk_cell h.res]; rfl
theorem BoxW.resset (h : BoxW g1 g2 w W v S) (u : Value) : (W.setCell ⟨g1, 0, none⟩ u).heap[g1]? = some (.cells #[u] 26 (0, 0)) := blk_set h.res 0 u
theorem BoxW.grown {w1 : World} (h : BoxW g1 g2 w W v S) (hg : W.grownBy w1 v.ownBlock) : w1.heap[g1]? = some (.cells #[.slice none 0 0] 26 (0, 0)) ∧ w1.heap[g2]? = some (.cells #[v] 26 (0, 0)) :=
  ⟨blk_grown h.res hg (Kd.R_ne h.row h.res (by decide)), blk_grown h.box hg (Kd.R_ne h.row h.box (by decide))⟩
theorem BoxW.app {w1 : World} {v1 : Value} {S1 : List Int} (h : BoxW g1 g2 w W v S) (ho : Kd.R (Kd.int .i64) 2 w1 w.heap.size (fun _ => True) v1 S1) (hb : Below w.heap.size w w1) (hg : W.grownBy w1 v.ownBlock) : BoxW g1 g2 w (w1.setCell ⟨g2, 0, none⟩ v1) v1 S1 := by
  have h1 := blk_grown h.res hg (Kd.R_ne h.row h.res (by decide))
  have h2 := blk_grown h.box hg (Kd.R_ne h.row h.box (by decide))
  exact ⟨blk_far h1 (by show g1 ≠ g2; exact h.far.2.2) v1, blk_set h2 0 v1, Kd.R_set ho h2 (by decide) 0 v1, hb.setCell (p := ⟨g2, 0, none⟩) (by show w.heap.size ≤ g2; exact h.far.2.1) v1, h.far⟩
end
theorem rd_ba_ext {a b : ByteArray} (h : a.data.toList = b.data.toList) : a = b := by
  obtain ⟨⟨x⟩⟩ := a
  obtain ⟨⟨y⟩⟩ := b
  have e : x = y := h
  rw [e]
theorem rd_toList (s : ByteArray) : s.toList = s.data.toList := by
  first | exact ByteArray.toList_eq s | exact Go.ByteArray.toList_eq s
theorem infoI : (Tryz.prog.info? 2).map (fun i => (i.zero, i.size, i.bytes)) = some (some (.int .i64 0), 1, 8) := by kernel_rfl
def bt (s : ByteArray) (i : Nat) : Int := if h : i < s.size then ((s[i]'h).toNat : Int) else 0
theorem bt_at (s : ByteArray) (i : Nat) (h : i < s.size) : ((s[i]'h).toNat : Int) = bt s i := by unfold bt; rw [dif_pos h]
theorem bt_range (s : ByteArray) (i : Nat) : 0 ≤ bt s i ∧ bt s i ≤ 255 := by
  unfold bt
  split
  · rename_i h
    have := (s[i]'h).toNat_lt
    omega
  · omega
end
section
theorem impl_setOf_f (l : List Int) (h : l.length ≤ 17592186044416) : impl_setOf.f l = some (setL l) := by unfold impl_setOf.f; rw [if_pos h]
end
section
def okUses (l : List Int) : Bool := (l.all okAddr) && decide (l.length ≤ 60)
theorem okUses_iff (l : List Int) : okUses l = true ↔ (∀ x ∈ l, 0 ≤ x ∧ x ≤ 63) ∧ l.length ≤ 60 := by
  simp [okUses, okAddr]
end
section
/-- The place of the first element at which p holds, or -1. -/
def idxF {α : Type} (p : α → Bool) (l : List α) : Int := if l.findIdx p < l.length then (l.findIdx p : Int) else -1
theorem idxF_hit {α : Type} (p : α → Bool) (l : List α) (k : Nat) (hk : k < l.length) (h : p l[k] = true) (hb : ∀ j, (hj : j < k) → p (l[j]'(by omega)) = false) : idxF p l = k := by
  have e : l.findIdx p = k := (List.findIdx_eq hk).2 ⟨h, fun j hj => hb j hj⟩
  unfold idxF
  rw [e, if_pos hk]
theorem idxF_miss {α : Type} (p : α → Bool) (l : List α) (hb : ∀ j, (hj : j < l.length) → p (l[j]) = false) : idxF p l = -1 := by
  unfold idxF
  rw [if_neg]
  intro hlt
  have := hb _ hlt
  rw [List.findIdx_getElem (w := hlt)] at this
  simp at this
theorem idxF_nonneg {α : Type} (p : α → Bool) (l : List α) : decide (idxF p l ≥ 0) = l.any p := by
  rw [Bool.eq_iff_iff, decide_eq_true_iff, List.any_eq_true]
  unfold idxF
  constructor
  · intro h
    by_cases hlt : l.findIdx p < l.length
    · exact ⟨_, List.getElem_mem hlt, List.findIdx_getElem (w := hlt)⟩
    · rw [if_neg hlt] at h; omega
  · rintro ⟨x, hx, hp⟩
    rw [if_pos (List.findIdx_lt_length_of_exists ⟨x, hx, hp⟩)]
    omega
end
end Go.Proofs.YtdhkcnhmmiigoaaGreatDoor.Q
