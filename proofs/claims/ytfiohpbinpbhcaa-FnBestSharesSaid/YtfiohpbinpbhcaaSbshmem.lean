/- What BestShares holds in memory while it makes its next tables: rows of shares and a row of misses, apart from each other; no conditions beyond those written. -/
import Derived.Test.YtfiohpbinpbhcaaQx0
import Derived.Test.YtfiohpbinpbhcaaHconcat
import Derived.Lib.SliceRun
import Derived.RangeFuncBox
namespace Go.Proofs.Ytfiohpbinpbhcaa.Q
open Go.RowKit Go.Proofs.YtfiohpbinpbhcaaW.PrintWords Go.Proofs.YtfiohpbinpbhcaaW.PrintLast Go.Proofs.YtfiohpbinpbhcaaW.PrintMore
attribute [local go_sem] max2_int min2_int max_two min_two max_three min_three max_four min_four   -- for this text's walks alone
set_option linter.unusedVariables false
set_option linter.unusedSimpArgs false

theorem infoQB : (Try.prog.info? 22).map (fun i => (i.zero, i.size, i.bytes)) = some (some (.slice none 0 0), 1, 24) := by kernel_rfl
theorem infoIB : (Try.prog.info? 2).map (fun i => (i.zero, i.size, i.bytes)) = some (some (.int .i64 0), 1, 8) := by kernel_rfl
/-- Blocks that are no cells may be written. -/
theorem R_book {α : Type} {d : Kd α} {e : Nat} {X Y : World} {base : Nat} {ok : Nat → Prop} {v : Value} {xs : List α} {row : Option Nat} (h : d.R e X base ok v xs) (hg : X.grownBy Y row) (hr : ∀ r, row = some r → ∃ o : Obj, X.heap[r]? = some o ∧ o.isCells = false) : d.R e Y base ok v xs := by
  refine Kd.R_mono (Kd.R_grown (Kd.R_bound h) hg (fun k hk e => ?_)) (fun k hk => hk.1)
  obtain ⟨o, ho, hc⟩ := hr k e.symm
  obtain ⟨_, _, _, q, _, cells, hq⟩ := hk
  rw [ho] at hq
  cases hq
  cases hc
theorem rows_new (V : World) (base : Nat) (hb : base ≤ V.heap.size) : Kd.R (Kd.slice 2 (Kd.int .i64)) 22 (V.alloc (.cells #[] 22)) base (fun _ => True) (.slice (some ⟨V.heap.size, 0, none⟩) 0 0) [] := by
  refine ⟨fun _ _ => trivial, [], ?_, Reps.none _ _⟩
  have h := own_lit V base 22 .i64 [] hb (by simp)
  simp only [nums, List.map_nil, List.length_nil] at h
  exact h
theorem ints_new (V : World) (base : Nat) (hb : base ≤ V.heap.size) : Kd.R (Kd.int .i64) 2 (V.alloc (.cells #[] 2)) base (fun _ => True) (.slice (some ⟨V.heap.size, 0, none⟩) 0 0) [] := by
  refine Kd.R_of_own ?_ (fun _ _ => trivial)
  have h := own_lit V base 2 .i64 [] hb (by simp)
  simpa [nums, encs] using h
/-- The next tables. -/
structure NX (V2 V : World) (vA vB : Value) (X : List (List Int)) (Y : List Int) (G : Nat → Prop) : Prop where
  ex : ∃ P : Nat → Prop, (∀ k, P k → k < V.heap.size) ∧ (∀ k, G k → k < V.heap.size → P k) ∧ Kd.R (Kd.slice 2 (Kd.int .i64)) 22 V V2.heap.size P vA X ∧ Kd.R (Kd.int .i64) 2 V V2.heap.size (fun k => ¬ P k) vB Y
  bel : Below V2.heap.size V2 V
section
variable {V2 V V' : World} {vA vB : Value} {X : List (List Int)} {Y : List Int} {G : Nat → Prop}
theorem NX.start (V2 : World) : NX V2 V2 (.slice none 0 0) (.slice none 0 0) [] [] (fun _ => False) := ⟨⟨fun _ => False, fun _ h => h.elim, fun _ h => h.elim, Kd.R_nil _ _ _ _ _, Kd.R_nil _ _ _ _ _⟩, Below.refl _ _⟩
theorem NX.start2 (V : World) : NX V ((V.alloc (.cells #[] 22)).alloc (.cells #[] 2)) (.slice (some ⟨V.heap.size, 0, none⟩) 0 0) (.slice (some ⟨V.heap.size + 1, 0, none⟩) 0 0) [] [] (fun _ => False) := by
  have h := ints_new (V.alloc (.cells #[] 22)) V.heap.size (by simp)
  rw [World.size_alloc] at h
  refine ⟨⟨fun k => k = V.heap.size, fun k hk => by simp; omega, fun _ h => h.elim, Kd.R_alloc ⟨fun k hk => ?_, (rows_new V V.heap.size (Nat.le_refl _)).2.choose, ?_⟩ _, ⟨fun k hk => ?_, h.2⟩⟩, below_alloc (below_alloc (Below.refl _ _) _) _⟩
  · simp [Value.ownBlock] at hk; omega
  · have hs := (rows_new V V.heap.size (Nat.le_refl _)).2.choose_spec
    refine ⟨hs.1, hs.2.1, fun j p hj => by simp at hj⟩
  · simp [Value.ownBlock] at hk; omega
theorem NX.free (h : NX V2 V vA vB X Y G) : NX V2 V vA vB X Y (fun _ => False) := by
  obtain ⟨P, h1, h2, h3, h4⟩ := h.ex
  exact ⟨⟨P, h1, fun _ h => h.elim, h3, h4⟩, h.bel⟩
/-- What is made from now on is kept for the rows. -/
theorem NX.keep (h : NX V2 V vA vB X Y G) (hb : Below V.heap.size V V') : NX V2 V' vA vB X Y (fun k => G k ∨ V.heap.size ≤ k) := by
  obtain ⟨P, h1, h2, h3, h4⟩ := h.ex
  refine ⟨⟨fun k => P k ∨ (V.heap.size ≤ k ∧ k < V'.heap.size), fun k hk => ?_, fun k hk hlt => ?_, Kd.R_mono (Kd.R_below h3 hb) (fun k hk => .inl hk), ?_⟩, below_step h.bel hb⟩
  · rcases hk with hk | hk
    · exact Nat.lt_of_lt_of_le (h1 k hk) hb.size
    · exact hk.2
  · rcases hk with hk | hk
    · by_cases hl : k < V.heap.size
      · exact .inl (h2 k hk hl)
      · exact .inr ⟨Nat.not_lt.1 hl, hlt⟩
    · exact .inr ⟨hk, hlt⟩
  · refine Kd.R_mono (Kd.R_below (Kd.R_bound h4) hb) (fun k hk he => ?_)
    rcases he with he | he
    · exact hk.1 he
    · exact Nat.not_lt.2 he.1 hk.2.2.1
theorem NX.bound (h : NX V2 V vA vB X Y G) (hb : Below V.heap.size V V') : NX V2 V' vA vB X Y (fun k => G k ∧ k < V.heap.size) := by
  obtain ⟨P, h1, h2, h3, h4⟩ := h.ex
  exact ⟨⟨P, fun k hk => Nat.lt_of_lt_of_le (h1 k hk) hb.size, fun k hk _ => h2 k hk.1 hk.2, Kd.R_below h3 hb, Kd.R_below h4 hb⟩, below_step h.bel hb⟩
theorem NX.below (h : NX V2 V vA vB X Y (fun _ => False)) (hb : Below V.heap.size V V') : NX V2 V' vA vB X Y (fun _ => False) := by
  obtain ⟨P, h1, h2, h3, h4⟩ := h.ex
  exact ⟨⟨P, fun k hk => Nat.lt_of_lt_of_le (h1 k hk) hb.size, fun k hk _ => hk.elim, Kd.R_below h3 hb, Kd.R_below h4 hb⟩, below_step h.bel hb⟩
theorem NX.slices (h : NX V2 V vA vB X Y G) : ∃ A c B b, vA = .slice A X.length c ∧ vB = .slice B Y.length b := by
  obtain ⟨P, h1, h2, h3, h4⟩ := h.ex
  obtain ⟨A, c, rfl⟩ := Kd.R_slice h3
  obtain ⟨B, b, rfl⟩ := Kd.R_slice h4
  exact ⟨A, c, B, b, rfl, rfl⟩
theorem NX.sliceA (h : NX V2 V vA vB X Y G) : ∃ A c, vA = .slice A X.length c := by
  obtain ⟨A, c, _, _, e, _⟩ := h.slices
  exact ⟨A, c, e⟩
theorem NX.sliceB (h : NX V2 V vA vB X Y G) : ∃ A c, vB = .slice A Y.length c := by
  obtain ⟨_, _, A, c, _, e⟩ := h.slices
  exact ⟨A, c, e⟩
theorem NX.rows (h : NX V2 V vA vB X Y G) : Kd.R (Kd.slice 2 (Kd.int .i64)) 22 V V2.heap.size (fun _ => True) vA X ∧ Kd.R (Kd.int .i64) 2 V V2.heap.size (fun _ => True) vB Y := by
  obtain ⟨P, h1, h2, h3, h4⟩ := h.ex
  exact ⟨Kd.R_mono h3 (fun _ _ => trivial), Kd.R_mono h4 (fun _ _ => trivial)⟩
/-- One row, read at one cell. -/
theorem one_row {α : Type} {R : α → List Value → Prop} {W : World} {b t : Nat} {u : Value} {x : α} (h : W.heap[b]? = some (.cells #[u] t (0, 0))) (hR : R x [u]) : ReadsRow R 1 W (some ⟨b, 0, none⟩) 1 [x] := by
  refine ⟨rfl, by simp, fun _ => ⟨⟨b, 0, none⟩, rfl, fun j p hj => ?_⟩⟩
  match j, hj with
  | 0, hj =>
    obtain rfl : x = p := by simpa using hj
    refine ⟨[u], rfl, hR, fun i q hq => ?_⟩
    match i, hq with
    | 0, hq =>
      obtain rfl : u = q := by simpa using hq
      rw [show (⟨b, 0, none⟩ : Addr).add (0 * 1 + 0) = ⟨b, 0, none⟩ from rfl, blk_cell h]; rfl
variable {ops : Array Oper} {o : Oper} {a : Act} {Q : Exit → Act → World → Prop} {Kc : Act → World → Prop}
/-- A row is put behind the rows. -/
theorem NX.stepA (h : NX V2 V vA vB X Y G) (hw : Region.wanted o (yielded ops a.tmps) = true) (s x : Operand) (ho : o.op = .call { callee := .builtin .append, args := #[s, x], argTypes := #[40, 40] })
    {u : Value} {y : List Int} {b : Nat} (hs : a.eval s = vA) (hx : a.eval x = .slice (some ⟨b, 0, none⟩) 1 1) (hb : V.heap[b]? = some (.cells #[u] 22 (0, 0))) (hu : Kd.R (Kd.int .i64) 2 V V2.heap.size G u y) (hl : X.length ≤ 1000)
    (K : ∀ v1 w1, NX V2 w1 v1 vB (X ++ [y]) Y (fun _ => False) → (∀ (g : Nat) (cs : Array Value), V.heap[g]? = some (Obj.cells cs 2 (0, 0)) → w1.heap[g]? = some (Obj.cells cs 2 (0, 0))) → Kc (a.put o.dst v1) w1) :
    if Region.wanted o (yielded ops a.tmps) = true then Oper.wp Try.prog o a V Kc Q else Kc (a.put o.dst undef) V := by
  obtain ⟨P, h1, h2, h3, h4⟩ := h.ex
  have hty := Kd.R_typed h3
  refine Kd.R_append_rows_step (Kd.slice 2 (Kd.int .i64)) (Rr := fun y' cs => ∃ v, cs = [v] ∧ Kd.R (Kd.int .i64) 2 V V2.heap.size (fun k => G k ∧ k < V.heap.size ∧ some k ≠ vA.ownBlock) v y') (w0 := V2) (W := V) V2.heap.size hw s x 40 22 (.slice none 0 0) 24 ho Try.underlying40 infoQB rfl (by decide) (by omega) vA X [y] (some ⟨b, 0, none⟩) 1 1 (fun k => P k ∨ V.heap.size ≤ k) (fun k => G k ∧ k < V.heap.size ∧ some k ≠ vA.ownBlock) hs hx (Kd.R_mono h3 (fun k hk => .inl hk)) (one_row hb ⟨u, rfl, ?_⟩) ?_ ?_ (fun k hk => .inr hk) h.bel h.bel.size (by omega) ?_
  · refine Kd.R_mono (Kd.R_bound hu) (fun k hk => ⟨hk.1, hk.2.2.1, fun e => ?_⟩)
    obtain ⟨cells, hc⟩ := hty k e.symm
    obtain ⟨_, _, _, q, hq, cells2, hc2⟩ := hk
    rw [hc] at hc2
    have hq2 : q = 2 := by simpa [Kd.int, Kd.scalar] using hq
    rw [hq2] at hc2
    simp at hc2
  · rintro y' cs ⟨v, rfl, hv⟩
    exact ⟨v, rfl, hv⟩
  · exact fun k hk => ⟨.inl (h2 k hk.1 hk.2.1), hk.2.2⟩
  · intro v1 w1 hR hB hg hat
    refine K v1 w1 ⟨⟨fun k => (P k ∨ V.heap.size ≤ k) ∧ k < w1.heap.size, fun k hk => hk.2, fun k hk _ => hk.elim, Kd.R_mono (Kd.R_bound hR) (fun k hk => ⟨hk.1, hk.2.2.1⟩), ?_⟩, hB⟩ (fun g cs hc => ?_)
    · refine Kd.R_mono (Kd.R_grown (Kd.R_bound h4) hg (fun k hk e => hk.1 (h3.1 k e.symm))) (fun k hk he => ?_)
      rcases he.1 with he | he
      · exact hk.1 he
      · exact Nat.not_lt.2 he hk.2.2.1
    · exact blk_grown hc hg (Kd.R_ne h3 hc (by decide))
/-- A number is put behind the numbers. -/
theorem NX.stepB (h : NX V2 V vA vB X Y G) (hw : Region.wanted o (yielded ops a.tmps) = true) (s x : Operand) (ho : o.op = .call { callee := .builtin .append, args := #[s, x], argTypes := #[22, 22] })
    {z : Int} {b : Nat} (hs : a.eval s = vB) (hx : a.eval x = .slice (some ⟨b, 0, none⟩) 1 1) (hb : V.heap[b]? = some (.cells #[.int .i64 z] 2 (0, 0))) (hl : Y.length ≤ 1000)
    (K : ∀ v1 w1, NX V2 w1 vA v1 X (Y ++ [z]) (fun k => G k ∧ k < V.heap.size) → (∀ (u : Value) (y : List Int), Kd.R (Kd.int .i64) 2 V V2.heap.size G u y → Kd.R (Kd.int .i64) 2 w1 V2.heap.size (fun k => G k ∧ k < V.heap.size) u y) → (∀ (g : Nat) (cs : Array Value), V.heap[g]? = some (Obj.cells cs 22 (0, 0)) → w1.heap[g]? = some (Obj.cells cs 22 (0, 0))) → Kc (a.put o.dst v1) w1) :
    if Region.wanted o (yielded ops a.tmps) = true then Oper.wp Try.prog o a V Kc Q else Kc (a.put o.dst undef) V := by
  obtain ⟨P, h1, h2, h3, h4⟩ := h.ex
  refine Kd.R_append_rows_step (Kd.int .i64) (Rr := fun (z : Int) cs => cs = [Value.int .i64 z]) (w0 := V2) (W := V) V2.heap.size hw s x 22 2 (.int .i64 0) 8 ho Try.underlying22 infoIB rfl (by decide) (by omega) vB Y [z] (some ⟨b, 0, none⟩) 1 1 (fun k => ¬ P k) (fun _ => False) hs hx h4 (one_row hb rfl) (fun _ _ h => h) (fun _ h => h.elim) (fun k hk hp => Nat.not_lt.2 hk (h1 k hp)) h.bel h.bel.size (by omega) ?_
  intro v1 w1 hR hB hg hat
  have hno : ∀ k, P k → some k ≠ vB.ownBlock := fun k hk e => h4.1 k e.symm hk
  refine K v1 w1 ⟨⟨P, fun k hk => Nat.lt_of_lt_of_le (h1 k hk) hg.size, fun k hk _ => h2 k hk.1 hk.2, Kd.R_grown h3 hg hno, hR⟩, hB⟩ (fun u y hu => ?_) (fun g cs hc => ?_)
  · exact Kd.R_mono (Kd.R_grown (Kd.R_bound hu) hg (fun k hk => hno k (h2 k hk.1 hk.2.2.1))) (fun k hk => ⟨hk.1, hk.2.2.1⟩)
  · exact blk_grown hc hg (Kd.R_ne h4 hc (by decide))
/-- A row of one number, just laid. -/
theorem lit_one (V : World) (base : Nat) (hb : base ≤ V.heap.size) (z : Int) (G : Nat → Prop) (hG : G V.heap.size) : Kd.R (Kd.int .i64) 2 (V.alloc (.cells #[.int .i64 z] 2)) base G (.slice (some ⟨V.heap.size, 0, none⟩) 1 1) [z] := by
  refine Kd.R_of_own ?_ (fun k hk => ?_)
  · have h := own_lit V base 2 .i64 [z] hb (by simp)
    simpa [nums, encs] using h
  · have : k = V.heap.size := by simp [Value.ownBlock] at hk; omega
    rw [this]; exact hG
end
/-- Two rows in a literal, as the library reads them. -/
theorem two_rowsB {W : World} {g : Nat} {Ax Ay : Option Addr} {cx cy : Nat} {x y : List Int} (h : W.heap[g]? = some (.cells #[.slice Ax x.length cx, .slice Ay y.length cy] 22 (0, 0))) (hx : Kd.C (Kd.int .i64) W Ax x.length x) (hcx : x.length ≤ cx) (hy : Kd.C (Kd.int .i64) W Ay y.length y) (hcy : y.length ≤ cy) :
    Kd.C (Kd.slice 2 (Kd.int .i64)) W (some ⟨g, 0, none⟩) [x, y].length [x, y] := by
  refine ⟨rfl, by simp, fun _ => ⟨⟨g, 0, none⟩, rfl, fun j p hj => ?_⟩⟩
  have hadd : ∀ k, (⟨g, 0, none⟩ : Addr).add k = ⟨g, k, none⟩ := fun k => by
    cases k with
    | zero => rfl
    | succ k => simp [Addr.add]
  match j, hj with
  | 0, hj =>
    obtain rfl : x = p := by simpa using hj
    refine ⟨[.slice Ax x.length cx], rfl, ⟨Ax, cx, rfl, hcx, hx⟩, fun i u hu => ?_⟩
    match i, hu with
    | 0, hu =>
      obtain rfl : Value.slice Ax x.length cx = u := by simpa using hu
      rw [hadd, show 0 * (Kd.slice 2 (Kd.int .i64)).sz + 0 = 0 by rw [Nat.zero_mul], blk_cell h]; rfl
  | 1, hj =>
    obtain rfl : y = p := by simpa using hj
    refine ⟨[.slice Ay y.length cy], rfl, ⟨Ay, cy, rfl, hcy, hy⟩, fun i u hu => ?_⟩
    match i, hu with
    | 0, hu =>
      obtain rfl : Value.slice Ay y.length cy = u := by simpa using hu
      rw [hadd, show 1 * (Kd.slice 2 (Kd.int .i64)).sz + 0 = 1 from rfl, blk_cell h]; rfl
theorem cat_callB (x : Int) (X : List Int) (A8 : Option Addr) (c8 : Nat) (W : World) (g gx : Nat) (h1 : W.heap[g]? = some (.cells #[.slice (some ⟨gx, 0, none⟩) 1 1, .slice A8 X.length c8] 22 (0, 0))) (h2 : W.heap[gx]? = some (.cells #[.int .i64 x] 2 (0, 0))) (hX : Kd.C (Kd.int .i64) W A8 X.length X) (hc : X.length ≤ c8) (hl : X.length ≤ 100) :
    Calls Try.prog 65 #[.slice (some ⟨g, 0, none⟩) 2 2] W fun e w' => ∃ v0_ : Value, e = .returned v0_ ∧ Kd.R (Kd.int .i64) 2 w' W.heap.size (fun _ => True) v0_ (x :: X) ∧ Below W.heap.size W w' := by
  have hx1 : Kd.C (Kd.int .i64) W (some ⟨gx, 0, none⟩) [x].length [x] := one_row h2 rfl
  have hrows := two_rowsB (x := [x]) (y := X) (Ax := some ⟨gx, 0, none⟩) (cx := 1) h1 hx1 (Nat.le_refl _) hX hc
  exact slices_Concat_int64_int64.calls (some ⟨g, 0, none⟩) 2 [[x], X] (x :: X) W hrows (Nat.le_refl _) (by unfold slices_Concat_int64_int64.f; rw [if_pos (by simp; omega)]; simp)
end Go.Proofs.Ytfiohpbinpbhcaa.Q
