/- What BestCuts holds in memory: the intervals, and the table of the best cuts; no conditions. -/
import Derived.Test.YtellojkbfnfacaaQx0
import Derived.Laws.MakeOwn
namespace Go.Proofs.Ytellojkbfnfacaa.Q
open Go.RowKit Go.Proofs.YtellojkbfnfacaaW.PrintWords Go.Proofs.YtellojkbfnfacaaW.PrintLast Go.Proofs.YtellojkbfnfacaaW.PrintMore
attribute [local go_sem] max2_int min2_int max_two min_two max_three min_three max_four min_four   -- for this text's walks alone
set_option linter.unusedVariables false
set_option linter.unusedSimpArgs false

structure CutW (w : World) (bx g : Nat) (Ai : Option Addr) (ci : Nat) (iv : List (List Int)) (n lo : Nat) (K : Nat → Int × List Int) (W : World) : Prop where
  all : W.heap[bx]? = some (.cells #[.slice Ai iv.length ci] 29 (0, 0))
  row : Kd.R (Kd.slice 2 (Kd.int .i64)) 24 W w.heap.size (fun _ => True) (.slice Ai iv.length ci) iv
  tab : ∃ cur, W.heap[g]? = some (.cells cur 53 (0, 0)) ∧ cur.size = (n + 1) * 2 ∧ (∀ b, b ≤ n → ∃ z A l c, cur[b * 2]? = some (.int .i64 z) ∧ cur[b * 2 + 1]? = some (.slice A l c)) ∧ ∀ b, lo ≤ b → b ≤ n → ∃ v, cur[b * 2]? = some (.int .i64 (K b).1) ∧ cur[b * 2 + 1]? = some v ∧ Kd.R (Kd.int .i64) 2 W w.heap.size (fun _ => True) v (K b).2
  far : w.heap.size ≤ g
  bel : Below w.heap.size w W
section
variable {w W W' : World} {bx g : Nat} {Ai : Option Addr} {ci : Nat} {iv : List (List Int)} {n lo : Nat} {K : Nat → Int × List Int}
theorem CutW.below (h : CutW w bx g Ai ci iv n lo K W) (hb : Below W.heap.size W W') : CutW w bx g Ai ci iv n lo K W' := by
  obtain ⟨cur, h1, h2, h3, h4⟩ := h.tab
  exact ⟨blk_below h.all hb, Kd.R_below h.row hb, ⟨cur, blk_below h1 hb, h2, h3, fun b hb1 hb2 => (by obtain ⟨v, e1, e2, e3⟩ := h4 b hb1 hb2; exact ⟨v, e1, e2, Kd.R_below e3 hb⟩)⟩, h.far, below_step h.bel hb⟩
theorem CutW.box (h : CutW w bx g Ai ci iv n lo K W) {p : Nat} {cs : Array Value} (hp : W.heap[p]? = some (.cells cs 53 (0, 0))) (hne : g ≠ p) (hle : w.heap.size ≤ p) (j : Nat) (u : Value) : CutW w bx g Ai ci iv n lo K (W.setCell ⟨p, j, none⟩ u) := by
  obtain ⟨cur, h1, h2, h3, h4⟩ := h.tab
  exact ⟨blk_far h.all (p := ⟨p, j, none⟩) (blk_ne h.all hp (by decide)) u, Kd.R_set h.row hp (by decide) j u, ⟨cur, blk_far h1 (p := ⟨p, j, none⟩) hne u, h2, h3, fun b hb1 hb2 => (by obtain ⟨v, e1, e2, e3⟩ := h4 b hb1 hb2; exact ⟨v, e1, e2, Kd.R_set e3 hp (by decide) j u⟩)⟩, h.far, h.bel.setCell (p := ⟨p, j, none⟩) hle u⟩
theorem CutW.reads (h : CutW w bx g Ai ci iv n lo K W) : W.cell? ⟨bx, 0, none⟩ = some (.slice Ai iv.length ci) ∧ Kd.C (Kd.slice 2 (Kd.int .i64)) W Ai iv.length iv := ⟨blk_cell h.all 0, (Kd.R_reads' h.row).2.2⟩
theorem CutW.ent (h : CutW w bx g Ai ci iv n lo K W) (b : Nat) (h1 : lo ≤ b) (h2 : b ≤ n) : ∃ A c, W.cell? ⟨g, b * 2, none⟩ = some (.int .i64 (K b).1) ∧ W.cell? ⟨g, b * 2 + 1, none⟩ = some (.slice A (K b).2.length c) ∧ Kd.R (Kd.int .i64) 2 W w.heap.size (fun _ => True) (.slice A (K b).2.length c) (K b).2 := by
  obtain ⟨cur, t1, t2, t3, t4⟩ := h.tab
  obtain ⟨v, e1, e2, e3⟩ := t4 b h1 h2
  obtain ⟨A, c, rfl⟩ := Kd.R_slice e3
  exact ⟨A, c, by rw [blk_cell t1, e1], by rw [blk_cell t1, e2], e3⟩
theorem CutW.some_ (h : CutW w bx g Ai ci iv n lo K W) (b : Nat) (h2 : b ≤ n) : (∃ z, W.cell? ⟨g, b * 2, none⟩ = some (.int .i64 z)) ∧ (∃ A l c, W.cell? ⟨g, b * 2 + 1, none⟩ = some (.slice A l c)) ∧ ∀ j, W.frozen? ⟨g, j, none⟩ = false := by
  obtain ⟨cur, t1, t2, t3, t4⟩ := h.tab
  obtain ⟨z, A, l, c, e1, e2⟩ := t3 b h2
  exact ⟨⟨z, by rw [blk_cell t1, e1]⟩, ⟨A, l, c, by rw [blk_cell t1, e2]⟩, fun j => blk_frozen t1 j⟩
theorem CutW.put (h : CutW w bx g Ai ci iv n (lo + 1) K W) (hlo : lo ≤ n) (A : Option Addr) (c : Nat) (hR : Kd.R (Kd.int .i64) 2 W w.heap.size (fun _ => True) (.slice A (K lo).2.length c) (K lo).2) :
    CutW w bx g Ai ci iv n lo K ((W.setCell ⟨g, lo * 2, none⟩ (.int .i64 (K lo).1)).setCell ⟨g, lo * 2 + 1, none⟩ (.slice A (K lo).2.length c)) := by
  obtain ⟨cur, t1, t2, t3, t4⟩ := h.tab
  have s1 := blk_set t1 (lo * 2) (.int .i64 (K lo).1)
  have s2 := blk_set s1 (lo * 2 + 1) (.slice A (K lo).2.length c)
  have hall : ((W.setCell ⟨g, lo * 2, none⟩ (.int .i64 (K lo).1)).setCell ⟨g, lo * 2 + 1, none⟩ (.slice A (K lo).2.length c)).heap[bx]? = _ := blk_far (blk_far h.all (p := ⟨g, lo * 2, none⟩) (blk_ne h.all t1 (by decide)) _) (p := ⟨g, lo * 2 + 1, none⟩) (blk_ne h.all t1 (by decide)) _
  refine ⟨hall, Kd.R_set (Kd.R_set h.row t1 (by decide) _ _) s1 (by decide) _ _, ⟨_, s2, by simpa using t2, fun b hb => ?_, fun b hb1 hb2 => ?_⟩, h.far, (h.bel.setCell (p := ⟨g, lo * 2, none⟩) h.far _).setCell (p := ⟨g, lo * 2 + 1, none⟩) h.far _⟩
  · obtain ⟨z, A', l, c', e1, e2⟩ := t3 b hb
    by_cases e : b = lo
    · subst e
      refine ⟨(K b).1, A, (K b).2.length, c, ?_, ?_⟩
      · rw [Array.getElem?_setIfInBounds_ne (by omega), Array.getElem?_setIfInBounds_self_of_lt (by omega)]
      · rw [Array.getElem?_setIfInBounds_self_of_lt (by simp; omega)]
    · refine ⟨z, A', l, c', ?_, ?_⟩
      · rw [Array.getElem?_setIfInBounds_ne (by omega), Array.getElem?_setIfInBounds_ne (by omega), e1]
      · rw [Array.getElem?_setIfInBounds_ne (by omega), Array.getElem?_setIfInBounds_ne (by omega), e2]
  · by_cases e : b = lo
    · subst e
      refine ⟨.slice A (K b).2.length c, ?_, ?_, Kd.R_set (Kd.R_set hR t1 (by decide) _ _) s1 (by decide) _ _⟩
      · rw [Array.getElem?_setIfInBounds_ne (by omega), Array.getElem?_setIfInBounds_self_of_lt (by omega)]
      · rw [Array.getElem?_setIfInBounds_self_of_lt (by simp; omega)]
    · obtain ⟨v, e1, e2, e3⟩ := t4 b (by omega) hb2
      refine ⟨v, ?_, ?_, Kd.R_set (Kd.R_set e3 t1 (by decide) _ _) s1 (by decide) _ _⟩
      · rw [Array.getElem?_setIfInBounds_ne (by omega), Array.getElem?_setIfInBounds_ne (by omega), e1]
      · rw [Array.getElem?_setIfInBounds_ne (by omega), Array.getElem?_setIfInBounds_ne (by omega), e2]
end
theorem infoCut : (Try.prog.info? 53).map (fun i => (i.zero, i.size, i.bytes)) = some (some (.agg #[.int .i64 0, .slice none 0 0]), 2, 32) := by kernel_rfl
theorem make_cut (W : World) (n : Nat) (hn : n ≤ 1000) (x : Int) (hx : x = (n : Int)) : (Instr.makeSlice 51 (.int .i64 x) (.int .i64 x)).run Try.prog W = .ok (.slice (some ⟨W.heap.size, 0, none⟩) n n) (W.alloc (.cells (madeCells #[.int .i64 0, .slice none 0 0] (n * 2)) 53)) := by
  subst hx
  obtain ⟨i, hi, hz, hs, hb⟩ := info_parts infoCut
  have := run_make W 51 53 i _ Try.underlying51 hi hz .i64 .i64 (n : Int) (n : Int) (by omega) (Int.le_refl _) (by rw [hb]; omega) (by omega)
  rw [this, hs, Int.toNat_natCast]
  rfl
theorem made_get (a b : Value) (m i : Nat) (h : i < m) : (madeCells #[a, b] (m * 2))[i * 2]? = some a ∧ (madeCells #[a, b] (m * 2))[i * 2 + 1]? = some b := by
  constructor
  · rw [Array.getElem?_eq_getElem (by rw [size_madeCells]; omega)]
    simp [madeCells]
  · rw [Array.getElem?_eq_getElem (by rw [size_madeCells]; omega)]
    have e : (i * 2 + 1) % 2 = 1 := by omega
    simp [madeCells, e]
theorem cut_start {w w4 : World} {Ai : Option Addr} {ci : Nat} {iv : List (List Int)} (n : Nat) (K : Nat → Int × List Int) (hr : Kd.R (Kd.slice 2 (Kd.int .i64)) 24 w4 w.heap.size (fun _ => True) (.slice Ai iv.length ci) iv) (hb : Below w.heap.size w w4) :
    CutW w w4.heap.size (w4.heap.size + 1) Ai ci iv n (n + 1) K ((w4.alloc (.cells #[.slice Ai iv.length ci] 29)).alloc (.cells (madeCells #[.int .i64 0, .slice none 0 0] ((n + 1) * 2)) 53)) := by
  have hg := blk_new (w4.alloc (.cells #[.slice Ai iv.length ci] 29)) (.cells (madeCells #[.int .i64 0, .slice none 0 0] ((n + 1) * 2)) 53)
  rw [World.size_alloc] at hg
  refine ⟨blk_alloc (blk_new w4 _) _, Kd.R_alloc (Kd.R_alloc hr _) _, ⟨_, hg, size_madeCells _ _, fun b hb2 => ?_, fun b h1 h2 => by omega⟩, by have := hb.size; omega, below_alloc (below_alloc hb _) _⟩
  obtain ⟨h1, h2⟩ := made_get (.int .i64 0) (.slice none 0 0) (n + 1) b (by omega)
  exact ⟨0, none, 0, 0, h1, h2⟩
/-- The best cuts so far, in their box. -/
def BoxC (w : World) (p : Nat) (e : Int × List Int) (W : World) : Prop := ∃ A c, W.heap[p]? = some (.cells #[.int .i64 e.1, .slice A e.2.length c] 53 (0, 0)) ∧ Kd.R (Kd.int .i64) 2 W w.heap.size (fun _ => True) (.slice A e.2.length c) e.2
theorem BoxC.below {w W W' : World} {p : Nat} {e : Int × List Int} (h : BoxC w p e W) (hb : Below W.heap.size W W') : BoxC w p e W' := by
  obtain ⟨A, c, h1, h2⟩ := h
  exact ⟨A, c, blk_below h1 hb, Kd.R_below h2 hb⟩
theorem BoxC.store {w W : World} {p : Nat} {e e2 : Int × List Int} (h : BoxC w p e W) (A : Option Addr) (c : Nat) (hR : Kd.R (Kd.int .i64) 2 W w.heap.size (fun _ => True) (.slice A e2.2.length c) e2.2) : BoxC w p e2 ((W.setCell ⟨p, 0, none⟩ (.int .i64 e2.1)).setCell ⟨p, 1, none⟩ (.slice A e2.2.length c)) := by
  obtain ⟨A0, c0, h1, h2⟩ := h
  have s1 := blk_set h1 0 (.int .i64 e2.1)
  have s2 := blk_set s1 1 (.slice A e2.2.length c)
  exact ⟨A, c, s2, Kd.R_set (Kd.R_set hR h1 (by decide) _ _) s1 (by decide) _ _⟩
theorem two_rows {W : World} {g : Nat} {Ax Ay : Option Addr} {cx cy : Nat} {x y : List Int} (h : W.heap[g]? = some (.cells #[.slice Ax x.length cx, .slice Ay y.length cy] 24 (0, 0))) (hx : Kd.C (Kd.int .i64) W Ax x.length x) (hcx : x.length ≤ cx) (hy : Kd.C (Kd.int .i64) W Ay y.length y) (hcy : y.length ≤ cy) :
    Kd.C (Kd.slice 2 (Kd.int .i64)) W (some ⟨g, 0, none⟩) [x, y].length [x, y] := by
  refine ⟨rfl, by simp, fun _ => ⟨⟨g, 0, none⟩, rfl, fun j p hj => ?_⟩⟩
  have hadd : ∀ k, (⟨g, 0, none⟩ : Addr).add k = ⟨g, k, none⟩ := fun k => by
    cases k with
    | zero => rfl
    | succ k => simp [Addr.add]
  match j, hj with
  | 0, hj =>
    obtain rfl : x = p := by simpa using hj
    refine ⟨[.slice Ax x.length cx], rfl, ⟨Ax, cx, rfl, hcx, hx⟩, fun i u hu => ?_⟩
    match i, hu with
    | 0, hu =>
      obtain rfl : Value.slice Ax x.length cx = u := by simpa using hu
      rw [hadd, show 0 * (Kd.slice 2 (Kd.int .i64)).sz + 0 = 0 by rw [Nat.zero_mul], blk_cell h]; rfl
  | 1, hj =>
    obtain rfl : y = p := by simpa using hj
    refine ⟨[.slice Ay y.length cy], rfl, ⟨Ay, cy, rfl, hcy, hy⟩, fun i u hu => ?_⟩
    match i, hu with
    | 0, hu =>
      obtain rfl : Value.slice Ay y.length cy = u := by simpa using hu
      rw [hadd, show 1 * (Kd.slice 2 (Kd.int .i64)).sz + 0 = 1 from rfl, blk_cell h]; rfl
theorem blk_new1 (W : World) (o1 o : Obj) : ((W.alloc o1).alloc o).heap[W.heap.size + 1]? = some o := by
  have := blk_new (W.alloc o1) o
  rwa [World.size_alloc] at this
theorem blk_new2 (W : World) (o1 o2 o : Obj) : (((W.alloc o1).alloc o2).alloc o).heap[W.heap.size + 1 + 1]? = some o := by
  have := blk_new1 (W.alloc o1) o2 o
  rwa [World.size_alloc] at this
/-- An empty box that has been made before a call. -/
theorem cbox_after {W w9 : World} (hb : Below W.heap.size W w9) (k : Nat) (hk : W.heap[k]? = some (.cells #[.int .i64 0, .slice none 0 0] 53 (0, 0))) :
    w9.cell? ⟨k, 0, none⟩ = some (.int .i64 0) ∧ w9.cell? ⟨k, 1, none⟩ = some (.slice none 0 0) ∧ w9.frozen? ⟨k, 0, none⟩ = false ∧ w9.frozen? ⟨k, 1, none⟩ = false ∧ (∀ u, (w9.setCell ⟨k, 0, none⟩ u).cell? ⟨k, 1, none⟩ = some (.slice none 0 0)) ∧ (∀ u, (w9.setCell ⟨k, 0, none⟩ u).frozen? ⟨k, 1, none⟩ = false) ∧ w9.heap[k]? = some (.cells #[.int .i64 0, .slice none 0 0] 53 (0, 0)) := by
  have h := blk_below hk hb
  exact ⟨blk_cell h 0, blk_cell h 1, blk_frozen h 0, blk_frozen h 1, fun u => blk_cell (blk_set h 0 u) 1, fun u => blk_frozen (blk_set h 0 u) 1, h⟩
theorem cbox_use {W w9 : World} {Q : Prop} (hb : Below W.heap.size W w9) (k : Nat) (hk : W.heap[k]? = some (.cells #[.int .i64 0, .slice none 0 0] 53 (0, 0)))
    (f : (w9.cell? ⟨k, 0, none⟩ = some (.int .i64 0) ∧ w9.cell? ⟨k, 1, none⟩ = some (.slice none 0 0) ∧ w9.frozen? ⟨k, 0, none⟩ = false ∧ w9.frozen? ⟨k, 1, none⟩ = false ∧ (∀ u, (w9.setCell ⟨k, 0, none⟩ u).cell? ⟨k, 1, none⟩ = some (.slice none 0 0)) ∧ (∀ u, (w9.setCell ⟨k, 0, none⟩ u).frozen? ⟨k, 1, none⟩ = false) ∧ w9.heap[k]? = some (.cells #[.int .i64 0, .slice none 0 0] 53 (0, 0))) → Q) : Q := f (cbox_after hb k hk)
theorem cbox_stored {w9 : World} {k : Nat} (h : w9.heap[k]? = some (.cells #[.int .i64 0, .slice none 0 0] 53 (0, 0))) (u v : Value) : ((w9.setCell ⟨k, 0, none⟩ u).setCell ⟨k, 1, none⟩ v).heap[k]? = some (.cells #[u, v] 53 (0, 0)) := blk_set (blk_set h 0 u) 1 v
theorem cbox_row {w9 : World} {k base : Nat} {A : Option Addr} {c n : Nat} {xs : List Int} (h : w9.heap[k]? = some (.cells #[.int .i64 0, .slice none 0 0] 53 (0, 0))) (hR : Kd.R (Kd.int .i64) 2 w9 base (fun _ => True) (.slice A n c) xs) (u v : Value) : Kd.R (Kd.int .i64) 2 ((w9.setCell ⟨k, 0, none⟩ u).setCell ⟨k, 1, none⟩ v) base (fun _ => True) (.slice A n c) xs := Kd.R_set (Kd.R_set hR h (by decide) 0 u) (blk_set h 0 u) (by decide) 1 v
/-- A box of cuts as it is read. -/
theorem cbox_reads {W : World} {k : Nat} {z : Int} {v : Value} (h : W.heap[k]? = some (.cells #[.int .i64 z, v] 53 (0, 0))) : W.cell? ⟨k, 0, none⟩ = some (.int .i64 z) ∧ W.cell? ⟨k, 1, none⟩ = some v ∧ W.frozen? ⟨k, 0, none⟩ = false ∧ W.frozen? ⟨k, 1, none⟩ = false ∧ (∀ u, (W.setCell ⟨k, 0, none⟩ u).cell? ⟨k, 1, none⟩ = some v) ∧ (∀ u, (W.setCell ⟨k, 0, none⟩ u).frozen? ⟨k, 1, none⟩ = false) :=
  ⟨blk_cell h 0, blk_cell h 1, blk_frozen h 0, blk_frozen h 1, fun u => blk_cell (blk_set h 0 u) 1, fun u => blk_frozen (blk_set h 0 u) 1⟩
theorem CutW.stored {w W : World} {bx g : Nat} {Ai : Option Addr} {ci : Nat} {iv : List (List Int)} {n lo : Nat} {K : Nat → Int × List Int} (h : CutW w bx g Ai ci iv n lo K W) {p : Nat} {cs : Array Value} (hp : W.heap[p]? = some (.cells cs 53 (0, 0))) (hne : g ≠ p) (hle : w.heap.size ≤ p) (u v : Value) : CutW w bx g Ai ci iv n lo K ((W.setCell ⟨p, 0, none⟩ u).setCell ⟨p, 1, none⟩ v) :=
  (h.box hp hne hle 0 u).box (blk_set hp 0 u) hne hle 1 v
theorem cbox_all {W8 w9 : World} {k base : Nat} {A : Option Addr} {c n : Nat} {xs : List Int} (h : w9.heap[k]? = some (.cells #[.int .i64 0, .slice none 0 0] 53 (0, 0))) (hb : Below W8.heap.size W8 w9) (hk : W8.heap.size ≤ k) (hR : Kd.R (Kd.int .i64) 2 w9 base (fun _ => True) (.slice A n c) xs) (z : Int) (v : Value) :
    ∃ (W9 : World) (gc : Nat), W9 = (w9.setCell ⟨k, 0, none⟩ (.int .i64 z)).setCell ⟨k, 1, none⟩ v ∧ gc = k ∧ W9.heap[gc]? = some (.cells #[.int .i64 z, v] 53 (0, 0)) ∧ Kd.R (Kd.int .i64) 2 W9 base (fun _ => True) (.slice A n c) xs ∧ Below W8.heap.size W8 W9 :=
  ⟨_, _, rfl, rfl, cbox_stored h _ _, cbox_row h hR _ _, below_set (below_set hb hk) hk⟩
theorem cbox_new {W8 w9 : World} {base : Nat} {A : Option Addr} {c n : Nat} {xs : List Int} (hb : Below W8.heap.size W8 w9) (hR : Kd.R (Kd.int .i64) 2 w9 base (fun _ => True) (.slice A n c) xs) (z : Int) (v : Value) :
    ∃ (W9 : World) (gc : Nat), W9 = w9.alloc (.cells #[.int .i64 z, v] 53) ∧ gc = w9.heap.size ∧ W9.heap[gc]? = some (.cells #[.int .i64 z, v] 53 (0, 0)) ∧ Kd.R (Kd.int .i64) 2 W9 base (fun _ => True) (.slice A n c) xs ∧ Below W8.heap.size W8 W9 :=
  ⟨_, _, rfl, rfl, blk_new w9 _, Kd.R_alloc hR _, below_alloc hb _⟩
end Go.Proofs.Ytellojkbfnfacaa.Q
