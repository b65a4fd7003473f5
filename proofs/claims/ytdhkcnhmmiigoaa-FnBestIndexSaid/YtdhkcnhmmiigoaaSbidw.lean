/- Parts of the proof, laid together: contracts and lemmas; no conditions beyond those written. -/
import Derived.Test.YtdhkcnhmmiigoaaQx0
import Derived.Test.YtdhkcnhmmiigoaaSlead
import Derived.Test.YtdhkcnhmmiigoaaSplaced
import Derived.Test.YtdhkcnhmmiigoaaSred
namespace Go.Proofs.Ytdhkcnhmmiigoaa.Q
open Go.RowKit Go.Proofs.YtdhkcnhmmiigoaaW.PrintWords Go.Proofs.YtdhkcnhmmiigoaaW.PrintLast Go.Proofs.YtdhkcnhmmiigoaaW.PrintMore
attribute [local go_sem] max2_int min2_int max_two min_two max_three min_three max_four min_four   -- for this text's walks alone
set_option linter.unusedVariables false
set_option linter.unusedSimpArgs false
section
def BidS (bL bB : Nat) (k : Nat) : Prop := k = bL ∨ k = bB
/-- Rows of one's own that are no box. -/
def BidR (w : World) (bL bB : Nat) (W : World) (A : Option Addr) (c : Nat) (x : List Nat) : Prop := Kd.R (Kd.int .i64) 2 W w.heap.size (fun k => ¬ BidS bL bB k) (.slice A (nI x).length c) (nI x)
theorem BidR.below {w W W' : World} {bL bB : Nat} {A : Option Addr} {c : Nat} {x : List Nat} (h : BidR w bL bB W A c x) (hb : Below W.heap.size W W') : BidR w bL bB W' A c x := Kd.R_below h hb
theorem BidR.kept {w W W' : World} {bL bB : Nat} {A : Option Addr} {c : Nat} {x : List Nat} (h : BidR w bL bB W A c x) (hk : Kept W W' (BidS bL bB)) : BidR w bL bB W' A c x := Kd.R_kept h hk (fun _ hk => hk)
theorem BidR.reads {w W : World} {bL bB : Nat} {A : Option Addr} {c : Nat} {x : List Nat} (h : BidR w bL bB W A c x) : (nI x).length ≤ c ∧ Kd.C (Kd.int .i64) W A (nI x).length (nI x) := (Kd.R_reads' h).2
structure BidW (w : World) (bP bU bL bB : Nat) (A2 : Option Addr) (c2 : Nat) (l2 : List Int) (p : Int) (s : List Nat × Int) (W : World) : Prop where
  hP : W.heap[bP]? = some (.cells #[.int .i64 p] 2 (0, 0))
  hU : W.heap[bU]? = some (.cells #[.slice A2 l2.length c2] 24 (0, 0))
  hL : W.heap[bL]? = some (.cells #[.int .i64 s.2] 2 (0, 0))
  hB : ∃ A c, W.heap[bB]? = some (.cells #[.slice A (nI s.1).length c] 26 (0, 0)) ∧ BidR w bL bB W A c s.1
  far : bP ≠ bL ∧ w.heap.size ≤ bL ∧ w.heap.size ≤ bB
  row : Kd.C (Kd.int .i64) W A2 l2.length l2
  len : l2.length ≤ c2
  bel : Below w.heap.size w W
  row0 : Kd.C (Kd.int .i64) w A2 l2.length l2
section
variable {w W W' : World} {bP bU bL bB : Nat} {A2 : Option Addr} {c2 : Nat} {l2 : List Int} {p : Int} {s : List Nat × Int}
theorem Kept.bel_ {S : Nat → Prop} (hb : Below W.heap.size W W') : Kept W W' S := Kept.of_below hb S
theorem BidW.below (h : BidW w bP bU bL bB A2 c2 l2 p s W) (hb : Below W.heap.size W W') : BidW w bP bU bL bB A2 c2 l2 p s W' := by
  obtain ⟨A, c, h1, h2⟩ := h.hB
  exact ⟨blk_below h.hP hb, blk_below h.hU hb, blk_below h.hL hb, ⟨A, c, blk_below h1 hb, h2.below hb⟩, h.far, Kd.C_below h.row hb, h.len, below_step h.bel hb, h.row0⟩
theorem BidW.ty (h : BidW w bP bU bL bB A2 c2 l2 p s W) : bP ≠ bU ∧ bP ≠ bB ∧ bU ≠ bL ∧ bU ≠ bB ∧ bL ≠ bB := by
  obtain ⟨A, c, h1, h2⟩ := h.hB
  exact ⟨blk_ne h.hP h.hU (by decide), blk_ne h.hP h1 (by decide), blk_ne h.hU h.hL (by decide), blk_ne h.hU h1 (by decide), blk_ne h.hL h1 (by decide)⟩
theorem BidW.store (h : BidW w bP bU bL bB A2 c2 l2 p s W) (x : List Nat) (A : Option Addr) (c : Nat) (hR : BidR w bL bB W A c x) (q : Int) :
    BidW w bP bU bL bB A2 c2 l2 p (x, q) ((W.setCell ⟨bB, 0, none⟩ (.slice A (nI x).length c)).setCell ⟨bL, 0, none⟩ (.int .i64 q)) ∧ Kept W ((W.setCell ⟨bB, 0, none⟩ (.slice A (nI x).length c)).setCell ⟨bL, 0, none⟩ (.int .i64 q)) (BidS bL bB) := by
  obtain ⟨t1, t2, t3, t4, t5⟩ := h.ty
  obtain ⟨A0, c0, h1, _⟩ := h.hB
  have hbel : Below w.heap.size w ((W.setCell ⟨bB, 0, none⟩ (.slice A (nI x).length c)).setCell ⟨bL, 0, none⟩ (.int .i64 q)) := (h.bel.setCell (p := ⟨bB, 0, none⟩) h.far.2.2 _).setCell (p := ⟨bL, 0, none⟩) h.far.2.1 _
  have hk : Kept W ((W.setCell ⟨bB, 0, none⟩ (.slice A (nI x).length c)).setCell ⟨bL, 0, none⟩ (.int .i64 q)) (BidS bL bB) := ((Kept.refl W (BidS bL bB)).setCell (p := ⟨bB, 0, none⟩) (.inl (.inr rfl)) _).setCell (p := ⟨bL, 0, none⟩) (.inl (.inl rfl)) _
  refine ⟨⟨blk_kept h.hP hk (fun e => e.elim h.far.1 t2), blk_kept h.hU hk (fun e => e.elim t3 t4), ?_, ⟨A, c, ?_, hR.kept hk⟩, h.far, Kd.C_below h.row0 hbel, h.len, hbel, h.row0⟩, hk⟩
  · exact blk_set (blk_far h.hL (p := ⟨bB, 0, none⟩) t5 _) 0 _
  · exact blk_far (blk_set h1 0 _) (p := ⟨bL, 0, none⟩) (fun e => t5 e.symm) _
end
end
section
def redK (l : List Nat) (i k : Nat) : Bool := decide (k = i) || decide (l.getD k 0 &&& ldN (l.getD i 0) = 0)
def redI (l : List Nat) (i : Nat) : Bool := !(decide (l.getD i 0 = 0) || (decide (0 < i) && decide (l.getD (i - 1) 0 ≤ l.getD i 0))) && (List.range' 0 l.length).all (redK l i)
def redB (l : List Nat) : Bool := (List.range' 0 l.length).all (redI l)
/-- The reduced rows with one more of the first n numbers. -/
def xTo (rows : List Nat) (n : Nat) : List (List Nat) := ((List.range' 1 n).filter fun r => redB (rows ++ [r])).map fun r => rows ++ [r]
theorem xTo_succ (rows : List Nat) (n : Nat) : xTo rows (n + 1) = xTo rows n ++ (if redB (rows ++ [n + 1]) = true then [rows ++ [n + 1]] else []) := by
  unfold xTo
  rw [List.range'_1_concat, List.filter_append, List.map_append, Nat.add_comm 1 n]
  congr 1
  by_cases h : redB (rows ++ [n + 1]) = true <;> simp [List.filter_cons, h]
theorem xTo_length (rows : List Nat) (n : Nat) : (xTo rows n).length ≤ n := by
  unfold xTo
  rw [List.length_map]
  have := List.length_filter_le (fun r => redB (rows ++ [r])) (List.range' 1 n)
  rwa [List.length_range'] at this
def tryT : Nat → List (List Nat)
  | 0 => [[]]
  | k + 1 => (tryT k).flatMap fun rows => xTo rows 63
theorem flat_len (f : List Nat → List (List Nat)) (hf : ∀ x, (f x).length ≤ 63) : ∀ L : List (List Nat), (L.flatMap f).length ≤ 63 * L.length
  | [] => by simp
  | x :: L => by
    have h1 := hf x
    have h2 := flat_len f hf L
    rw [List.flatMap_cons, List.length_append, List.length_cons]; omega
theorem tryT_length : ∀ k, (tryT k).length ≤ 63 ^ k
  | 0 => by simp [tryT]
  | k + 1 => by
    have h1 := flat_len (fun rows => xTo rows 63) (fun x => xTo_length x 63) (tryT k)
    have h2 := tryT_length k
    unfold tryT
    rw [Nat.pow_succ]; omega
theorem tryT_small {k : Nat} (h : k ≤ 3) : (tryT k).length ≤ 250047 := by
  have h1 := tryT_length k
  have h2 : 63 ^ k ≤ 63 ^ 3 := Nat.pow_le_pow_right (by omega) h
  have h3 : (63 : Nat) ^ 3 = 250047 := by decide
  omega
theorem xTo_mem {rows x : List Nat} {n : Nat} (h : x ∈ xTo rows n) : ∃ r, 1 ≤ r ∧ r ≤ n ∧ x = rows ++ [r] ∧ redB (rows ++ [r]) = true := by
  unfold xTo at h
  obtain ⟨r, hr, rfl⟩ := List.mem_map.1 h
  obtain ⟨h1, h2⟩ := List.mem_filter.1 hr
  rw [List.mem_range'_1] at h1
  exact ⟨r, h1.1, by omega, rfl, h2⟩
theorem tryT_mem : ∀ (k : Nat) (x : List Nat), x ∈ tryT k → x.length = k ∧ (∀ r ∈ x, r < 64) ∧ redB x = true
  | 0, x, h => by
    have := List.mem_singleton.1 h
    subst this
    exact ⟨rfl, by simp, rfl⟩
  | k + 1, x, h => by
    obtain ⟨y, hy, hx⟩ := List.mem_flatMap.1 h
    obtain ⟨r, h1, h2, rfl, h3⟩ := xTo_mem hx
    obtain ⟨g1, g2, _⟩ := tryT_mem k y hy
    refine ⟨by rw [List.length_append, g1]; rfl, fun z hz => ?_, h3⟩
    rcases List.mem_append.1 hz with hz | hz
    · exact g2 z hz
    · have := List.mem_singleton.1 hz; omega
theorem bfold_mem (f : List Nat → Int) : ∀ (L : List (List Nat)) (s : List Nat × Int), (bfold f s L).1 = s.1 ∨ (bfold f s L).1 ∈ L
  | [], _ => .inl rfl
  | x :: L, s => by
    have e0 : bfold f s (x :: L) = bfold f (bstep f s x) L := rfl
    rw [e0]
    rcases bfold_mem f L (bstep f s x) with h | h
    · rw [h]
      unfold bstep
      split
      · exact .inr (by simp)
      · exact .inl rfl
    · exact .inr (List.mem_cons_of_mem _ h)
theorem nI_range {x : List Nat} (h : ∀ r ∈ x, r < 64) : ∀ y ∈ nI x, 0 ≤ y ∧ y ≤ 63 := by
  intro y hy
  unfold nI at hy
  obtain ⟨r, hr, rfl⟩ := List.mem_map.1 hy
  have := h r hr
  omega
theorem bfold_succ (f : List Nat → Int) (s : List Nat × Int) (L : List (List Nat)) (i : Nat) (h : i < L.length) : bfold f s (L.take (i + 1)) = bstep f (bfold f s (L.take i)) L[i] := by
  rw [List.take_succ_eq_append_getElem h, bfold_append]; rfl
end
end Go.Proofs.Ytdhkcnhmmiigoaa.Q
