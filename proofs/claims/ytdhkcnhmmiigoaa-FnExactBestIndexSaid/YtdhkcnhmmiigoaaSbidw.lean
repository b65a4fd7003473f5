/- Parts of the proof, laid together: contracts and lemmas; no conditions beyond those written. -/
import Derived.Test.YtdhkcnhmmiigoaaQx0
import Derived.Test.YtdhkcnhmmiigoaaSlead
import Derived.Test.YtdhkcnhmmiigoaaQx2
import Derived.Test.YtdhkcnhmmiigoaaSvalidindex
import Derived.Test.YtdhkcnhmmiigoaaSxor
import Derived.Test.YtdhkcnhmmiigoaaSheldindex
import Derived.Test.YtdhkcnhmmiigoaaSlu
import Derived.Test.YtdhkcnhmmiigoaaSred
namespace Go.Proofs.Ytdhkcnhmmiigoaa.Q
open Go.RowKit Go.Proofs.YtdhkcnhmmiigoaaW.PrintWords Go.Proofs.YtdhkcnhmmiigoaaW.PrintLast Go.Proofs.YtdhkcnhmmiigoaaW.PrintMore
attribute [local go_sem] max2_int min2_int max_two min_two max_three min_three max_four min_four   -- for this text's walks alone
set_option linter.unusedVariables false
set_option linter.unusedSimpArgs false
section
def BidS (bL bB : Nat) (k : Nat) : Prop := k = bL ∨ k = bB
/-- Rows of one's own that are no box. -/
def BidR (w : World) (bL bB : Nat) (W : World) (A : Option Addr) (c : Nat) (x : List Nat) : Prop := Kd.R (Kd.int .i64) 2 W w.heap.size (fun k => ¬ BidS bL bB k) (.slice A (nI x).length c) (nI x)
theorem BidR.below {w W W' : World} {bL bB : Nat} {A : Option Addr} {c : Nat} {x : List Nat} (h : BidR w bL bB W A c x) (hb : Below W.heap.size W W') : BidR w bL bB W' A c x := Kd.R_below h hb
theorem BidR.kept {w W W' : World} {bL bB : Nat} {A : Option Addr} {c : Nat} {x : List Nat} (h : BidR w bL bB W A c x) (hk : Kept W W' (BidS bL bB)) : BidR w bL bB W' A c x := Kd.R_kept h hk (fun _ hk => hk)
theorem BidR.reads {w W : World} {bL bB : Nat} {A : Option Addr} {c : Nat} {x : List Nat} (h : BidR w bL bB W A c x) : (nI x).length ≤ c ∧ Kd.C (Kd.int .i64) W A (nI x).length (nI x) := (Kd.R_reads' h).2
structure BidW (w : World) (bP bU bL bB : Nat) (A2 : Option Addr) (c2 : Nat) (l2 : List Int) (p : Int) (s : List Nat × Int) (W : World) : Prop where
  hP : W.heap[bP]? = some (.cells #[.int .i64 p] 2 (0, 0))
  hU : W.heap[bU]? = some (.cells #[.slice A2 l2.length c2] 24 (0, 0))
  hL : W.heap[bL]? = some (.cells #[.int .i64 s.2] 2 (0, 0))
  hB : ∃ A c, W.heap[bB]? = some (.cells #[.slice A (nI s.1).length c] 26 (0, 0)) ∧ BidR w bL bB W A c s.1
  far : bP ≠ bL ∧ w.heap.size ≤ bL ∧ w.heap.size ≤ bB
  row : Kd.C (Kd.int .i64) W A2 l2.length l2
  len : l2.length ≤ c2
  bel : Below w.heap.size w W
  row0 : Kd.C (Kd.int .i64) w A2 l2.length l2
section
variable {w W W' : World} {bP bU bL bB : Nat} {A2 : Option Addr} {c2 : Nat} {l2 : List Int} {p : Int} {s : List Nat × Int}
theorem Kept.bel_ {S : Nat → Prop} (hb : Below W.heap.size W W') : Kept W W' S := Kept.of_below hb S
theorem BidW.below (h : BidW w bP bU bL bB A2 c2 l2 p s W) (hb : Below W.heap.size W W') : BidW w bP bU bL bB A2 c2 l2 p s W' := by
  obtain ⟨A, c, h1, h2⟩ := h.hB
  exact ⟨blk_below h.hP hb, blk_below h.hU hb, blk_below h.hL hb, ⟨A, c, blk_below h1 hb, h2.below hb⟩, h.far, Kd.C_below h.row hb, h.len, below_step h.bel hb, h.row0⟩
theorem BidW.ty (h : BidW w bP bU bL bB A2 c2 l2 p s W) : bP ≠ bU ∧ bP ≠ bB ∧ bU ≠ bL ∧ bU ≠ bB ∧ bL ≠ bB := by
  obtain ⟨A, c, h1, h2⟩ := h.hB
  exact ⟨blk_ne h.hP h.hU (by decide), blk_ne h.hP h1 (by decide), blk_ne h.hU h.hL (by decide), blk_ne h.hU h1 (by decide), blk_ne h.hL h1 (by decide)⟩
theorem BidW.store (h : BidW w bP bU bL bB A2 c2 l2 p s W) (x : List Nat) (A : Option Addr) (c : Nat) (hR : BidR w bL bB W A c x) (q : Int) :
    BidW w bP bU bL bB A2 c2 l2 p (x, q) ((W.setCell ⟨bB, 0, none⟩ (.slice A (nI x).length c)).setCell ⟨bL, 0, none⟩ (.int .i64 q)) ∧ Kept W ((W.setCell ⟨bB, 0, none⟩ (.slice A (nI x).length c)).setCell ⟨bL, 0, none⟩ (.int .i64 q)) (BidS bL bB) := by
  obtain ⟨t1, t2, t3, t4, t5⟩ := h.ty
  obtain ⟨A0, c0, h1, _⟩ := h.hB
  have hbel : Below w.heap.size w ((W.setCell ⟨bB, 0, none⟩ (.slice A (nI x).length c)).setCell ⟨bL, 0, none⟩ (.int .i64 q)) := (h.bel.setCell (p := ⟨bB, 0, none⟩) h.far.2.2 _).setCell (p := ⟨bL, 0, none⟩) h.far.2.1 _
  have hk : Kept W ((W.setCell ⟨bB, 0, none⟩ (.slice A (nI x).length c)).setCell ⟨bL, 0, none⟩ (.int .i64 q)) (BidS bL bB) := ((Kept.refl W (BidS bL bB)).setCell (p := ⟨bB, 0, none⟩) (.inl (.inr rfl)) _).setCell (p := ⟨bL, 0, none⟩) (.inl (.inl rfl)) _
  refine ⟨⟨blk_kept h.hP hk (fun e => e.elim h.far.1 t2), blk_kept h.hU hk (fun e => e.elim t3 t4), ?_, ⟨A, c, ?_, hR.kept hk⟩, h.far, Kd.C_below h.row0 hbel, h.len, hbel, h.row0⟩, hk⟩
  · exact blk_set (blk_far h.hL (p := ⟨bB, 0, none⟩) t5 _) 0 _
  · exact blk_far (blk_set h1 0 _) (p := ⟨bL, 0, none⟩) (fun e => t5 e.symm) _
end
end
section
theorem impl_isPlaced_f (l : List Int) (p : Int) (U : List Int) : impl_isPlaced.f l p U = some (okRows l && (isIn 1 4 p && okUses U)) := by
  unfold impl_isPlaced.f
  rw [impl_ValidIndex_f, impl_inRange_f, impl_ValidUses_f]
  cases okRows l <;> cases isIn 1 4 p <;> cases okUses U <;> rfl
end
section
/-- The other addresses of the set of a use since the last use of its address. -/
def othersOf (R U : List Int) (i : Nat) : List Int := (between U i).filter fun x => !(!decide (setVal R (rd U (i : Int)) = setVal R x))
def missAt (R : List Int) (p : Int) (U : List Int) (i : Nat) : Bool := !decide (0 ≤ lu U (rd U (i : Int)) i) || decide (p ≤ ((othersOf R U i).length : Int))
def misN (R : List Int) (p : Int) (U : List Int) : Nat → Nat
  | 0 => 0
  | i + 1 => misN R p U i + if missAt R p U i = true then 1 else 0
theorem misN_le (R : List Int) (p : Int) (U : List Int) (i : Nat) : misN R p U i ≤ i := by
  induction i with
  | zero => simp [misN]
  | succ i ih => unfold misN; split <;> omega
end
section
def fit1 (rows : List Nat) (row i : Nat) : Bool := decide (row &&& ldN (rows.getD i 0) = 0) && (decide (rows.getD i 0 &&& ldN row = 0) && (decide (i + 1 < rows.length) || decide (row < rows.getD i 0)))
def fitsTo (rows : List Nat) (row j : Nat) : Bool := (List.range j).all (fit1 rows row)
theorem fitsTo_succ (rows : List Nat) (row j : Nat) : fitsTo rows row (j + 1) = (fitsTo rows row j && fit1 rows row j) := by unfold fitsTo; rw [List.range_succ, List.all_append]; simp
def fitsR (rows : List Nat) (row : Nat) : Bool := fitsTo rows row rows.length
/-- All reduced rows that begin with some, with d more. -/
def rAll : Nat → List Nat → List (List Nat)
  | 0, rows => [rows]
  | d + 1, rows => (List.range' 1 63).flatMap fun r => if fitsR rows r = true then rAll d (rows ++ [r]) else []
/-- Those whose next row is among the first n numbers. -/
def rTo (d : Nat) (rows : List Nat) (n : Nat) : List (List Nat) := (List.range' 1 n).flatMap fun r => if fitsR rows r = true then rAll d (rows ++ [r]) else []
theorem rTo_succ (d : Nat) (rows : List Nat) (n : Nat) : rTo d rows (n + 1) = rTo d rows n ++ (if fitsR rows (n + 1) = true then rAll d (rows ++ [n + 1]) else []) := by
  unfold rTo
  rw [List.range'_1_concat, List.flatMap_append, Nat.add_comm 1 n]
  simp
theorem rTo_all (d : Nat) (rows : List Nat) : rTo d rows 63 = rAll (d + 1) rows := rfl
def bstep (f : List Nat → Int) (s : List Nat × Int) (x : List Nat) : List Nat × Int := if s.2 < 0 ∨ f x < s.2 then (x, f x) else s
def bfold (f : List Nat → Int) (s : List Nat × Int) (l : List (List Nat)) : List Nat × Int := l.foldl (bstep f) s
theorem bfold_append (f : List Nat → Int) (s : List Nat × Int) (l m : List (List Nat)) : bfold f s (l ++ m) = bfold f (bfold f s l) m := List.foldl_append
/-- The misses of rows. -/
def misI (p : Int) (U : List Int) (x : List Nat) : Int := (misN (nI x) p U U.length : Int)
end
end Go.Proofs.Ytdhkcnhmmiigoaa.Q
