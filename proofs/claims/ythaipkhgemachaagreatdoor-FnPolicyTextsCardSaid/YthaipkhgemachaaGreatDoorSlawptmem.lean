/- Parts of the proof, laid together: contracts and lemmas; no conditions beyond those written. -/
import Derived.Test.YthaipkhgemachaaGreatDoorQx0
import Derived.Deep.QuietTactic
import Derived.Test.YthaipkhgemachaaGreatDoorSbase
import Derived.Test.YthaipkhgemachaaGreatDoorSupto
import Derived.Test.YthaipkhgemachaaGreatDoorQx2
namespace Go.Proofs.YthaipkhgemachaaGreatDoor.Q
open Go.RowKit Go.Proofs.YthaipkhgemachaaGreatDoorW.PrintWords Go.Proofs.YthaipkhgemachaaGreatDoorW.PrintLast Go.Proofs.YthaipkhgemachaaGreatDoorW.PrintMore
attribute [local go_sem] max2_int min2_int max_two min_two max_three min_three max_four min_four   -- for this text's walks alone
set_option linter.unusedVariables false
set_option linter.unusedSimpArgs false
section
structure PolV where
  A0 : Option Addr
  c0 : Nat
  H : List (List Int)
  A1 : Option Addr
  c1 : Nat
  M : List Int
/-- A policy's rows as they lie in memory. -/
structure PolIn (W : World) (p : PolV) : Prop where
  rows : Kd.C (Kd.slice 2 (Kd.int .i64)) W p.A0 p.H.length p.H
  len0 : p.H.length ≤ p.c0
  miss : Kd.C (Kd.int .i64) W p.A1 p.M.length p.M
  len1 : p.M.length ≤ p.c1
theorem PolIn.below {W W' : World} {p : PolV} (h : PolIn W p) (hb : Below W.heap.size W W') : PolIn W' p :=
  ⟨Kd.C_below h.rows hb, h.len0, Kd.C_below h.miss hb, h.len1⟩
/-- What a maker of a policy answers, with a word that it has made it. -/
def PolTwo (w : World) (H : List (List Int)) (M : List Int) (e : Ending) (w' : World) : Prop :=
  ∃ A0 c0 A1 c1, e = .returned (.tuple #[.agg #[.slice A0 H.length c0, .slice A1 M.length c1], .bool true]) ∧ PolIn w' ⟨A0, c0, H, A1, c1, M⟩ ∧ Below w.heap.size w w'
/-- What a drawer of a policy answers. -/
def PolOne (w : World) (H : List (List Int)) (M : List Int) (e : Ending) (w' : World) : Prop :=
  ∃ A0 c0 A1 c1, e = .returned (.agg #[.slice A0 H.length c0, .slice A1 M.length c1]) ∧ PolIn w' ⟨A0, c0, H, A1, c1, M⟩ ∧ Below w.heap.size w w'
theorem PolIn.of_R {W : World} {b1 b2 : Nat} {ok1 ok2 : Nat → Prop} {vH vM : Value} {H : List (List Int)} {M : List Int} (hH : Kd.R (Kd.slice 2 (Kd.int .i64)) 25 W b1 ok1 vH H) (hM : Kd.R (Kd.int .i64) 2 W b2 ok2 vM M) :
    ∃ A0 c0 A1 c1, vH = .slice A0 H.length c0 ∧ vM = .slice A1 M.length c1 ∧ PolIn W ⟨A0, c0, H, A1, c1, M⟩ := by
  obtain ⟨A0, c0, e0⟩ := Kd.R_slice hH
  obtain ⟨A1, c1, e1⟩ := Kd.R_slice hM
  subst e0 e1
  exact ⟨A0, c0, A1, c1, rfl, rfl, (Kd.R_reads' hH).2.2, (Kd.R_reads' hH).2.1, (Kd.R_reads' hM).2.2, (Kd.R_reads' hM).2.1⟩
theorem PolIn.of_N {W : World} {b1 b2 : Nat} {ok1 ok2 : Nat → Prop} {vH vM : Value} {H : List (List Int)} {M : List Int} (hH : Kd.N (Kd.slice 2 (Kd.int .i64)) 25 W b1 ok1 vH H) (hM : Kd.R (Kd.int .i64) 2 W b2 ok2 vM M) :
    ∃ A0 c0 A1 c1, vH = .slice A0 H.length c0 ∧ vM = .slice A1 M.length c1 ∧ PolIn W ⟨A0, c0, H, A1, c1, M⟩ := by
  obtain ⟨A0, c0, e0⟩ := Kd.N_slice hH
  obtain ⟨A1, c1, e1⟩ := Kd.R_slice hM
  subst e0 e1
  exact ⟨A0, c0, A1, c1, rfl, rfl, (Kd.N_reads' hH).2.2, (Kd.N_reads' hH).2.1, (Kd.R_reads' hM).2.2, (Kd.R_reads' hM).2.1⟩
structure PolAt (W : World) (b : Nat) (p : PolV) : Prop where
  box : W.heap[b]? = some (.cells #[.slice p.A0 p.H.length p.c0, .slice p.A1 p.M.length p.c1] 27 (0, 0))
  pol : PolIn W p
theorem PolAt.below {W W' : World} {b : Nat} {p : PolV} (h : PolAt W b p) (hb : Below W.heap.size W W') : PolAt W' b p :=
  ⟨blk_below h.box hb, h.pol.below hb⟩
/-- All policies that a law holds. -/
structure PMem (w W : World) (xs : List (Nat × PolV)) : Prop where
  pols : ∀ x ∈ xs, PolAt W x.1 x.2
  bel : Below w.heap.size w W
section
variable {w W W' : World} {xs : List (Nat × PolV)}
theorem PMem.start (w : World) : PMem w w [] := ⟨fun x hx => absurd hx List.not_mem_nil, Below.refl _ _⟩
theorem PMem.below (h : PMem w W xs) (hb : Below W.heap.size W W') : PMem w W' xs := ⟨fun x hx => (h.pols x hx).below hb, below_step h.bel hb⟩
theorem PMem.drawn (h : PMem w W xs) (hd : Drawn0 W W') : PMem w W' xs := by
  obtain ⟨nd, hw⟩ := hd
  exact h.below (below_at hw.symm (Below.refl _ _))
theorem PMem.box (h : PMem w W xs) {A0 : Option Addr} {c0 : Nat} {H : List (List Int)} {A1 : Option Addr} {c1 : Nat} {M : List Int} (hp : PolIn W ⟨A0, c0, H, A1, c1, M⟩) :
    PMem w (W.alloc (.cells #[.slice A0 H.length c0, .slice A1 M.length c1] 27)) ((W.heap.size, ⟨A0, c0, H, A1, c1, M⟩) :: xs) := by
  have hb := below_alloc (Below.refl W.heap.size W) (.cells #[.slice A0 H.length c0, .slice A1 M.length c1] 27)
  have h2 := h.below hb
  refine ⟨fun x hx => ?_, h2.bel⟩
  rcases List.mem_cons.1 hx with rfl | hx
  · exact ⟨blk_new W _, hp.below hb⟩
  · exact h2.pols x hx
theorem PMem.cell0 {b : Nat} {A0 : Option Addr} {c0 : Nat} {H : List (List Int)} {A1 : Option Addr} {c1 : Nat} {M : List Int} (h : PMem w W xs) (hx : (b, (⟨A0, c0, H, A1, c1, M⟩ : PolV)) ∈ xs) : W.cell? ⟨b, 0, none⟩ = some (.slice A0 H.length c0) := by rw [blk_cell (h.pols _ hx).box]; rfl
theorem PMem.cell1 {b : Nat} {A0 : Option Addr} {c0 : Nat} {H : List (List Int)} {A1 : Option Addr} {c1 : Nat} {M : List Int} (h : PMem w W xs) (hx : (b, (⟨A0, c0, H, A1, c1, M⟩ : PolV)) ∈ xs) : W.cell? ⟨b, 1, none⟩ = some (.slice A1 M.length c1) := by rw [blk_cell (h.pols _ hx).box]; rfl
theorem PMem.polIn {b : Nat} {p : PolV} (h : PMem w W xs) (hx : (b, p) ∈ xs) : PolIn W p := (h.pols _ hx).pol
theorem PMem.var {m : Int} (h : PMem w W xs) (hm : w.cell? ⟨0, 0, none⟩ = some (.int .i64 m)) : W.cell? ⟨0, 0, none⟩ = some (.int .i64 m) := (h.bel.cell (World.block_lt_of_cell? _ _ hm)).trans hm
end
end
section
theorem wp_region_quiet_cls {P : Program} {C : World → Prop} {id : Nat} {Q : Exit → Act → World → Prop} {a : Act} {w : World} {l : List Oper} (hm : P.follows .mixedOrders = true) (hB : Region.lexB .any l.toArray = true) (hC : C w.drew)
    (h : wpQuiet P l.toArray C (fun a' => ∀ w', C w' → Q .normal a' w') l a) : (Code.region id l.toArray true).wp P Q a w :=
  wp_region_quiet (C := C) hm hB hC (by simpa using h)
end
section
theorem sorted_sortL (l : List Int) : (sortL l).Pairwise (· ≤ ·) := by
  have h := List.pairwise_mergeSort (le := fun (x y : Int) => decide (x ≤ y)) (fun a b c h1 h2 => by simp at *; omega) (fun a b => by simp; omega) l
  exact h.imp (fun h => by simpa using h)
theorem perm_sortL (l : List Int) : (sortL l).Perm l := List.mergeSort_perm _ _
theorem rise_at {s : List Int} (h : s.Pairwise (· < ·)) : ∀ (d i : Nat) (hj : i + d < s.length), s[i] + (d : Int) ≤ s[i + d]
  | 0, i, hj => by simp
  | d + 1, i, hj => by
    have h1 := rise_at h d i (by omega)
    have h2 : s[i + d] < s[i + (d + 1)] := List.pairwise_iff_getElem.1 h (i + d) (i + (d + 1)) (by omega) hj (by omega)
    omega
theorem upto_getElem (n i : Nat) (h : i < (upto (fun j => (j : Int)) n).length) : (upto (fun j => (j : Int)) n)[i] = (i : Int) := by
  simp [upto]
end
section
def digTxt (l : List Int) : ByteArray := strOfNums (l.map fun n => 48 + n)
def isDig (l : List Int) : Bool := decide (l.length ≤ 6) && l.all fun n => decide (0 ≤ n) && decide (n ≤ 9)
theorem strOfNums_append (a b : List Int) : strOfNums (a ++ b) = strOfNums a ++ strOfNums b := by
  unfold strOfNums
  rw [List.map_append]
  apply ByteArray.ext
  rw [ByteArray.data_append]
  simp
theorem strOfNums_size (a : List Int) : (strOfNums a).size = a.length := by
  show (a.map fun n => UInt8.ofNat n.toNat).toArray.size = _
  simp
theorem digTxt_size (l : List Int) : (digTxt l).size = l.length := by unfold digTxt; rw [strOfNums_size, List.length_map]
theorem digTxt_take (l : List Int) (i : Nat) (h : i < l.length) : digTxt (l.take (i + 1)) = digTxt (l.take i) ++ strOfNums [48 + rd l (i : Int)] := by
  unfold digTxt
  rw [take_succ_rd l i h, List.map_append, strOfNums_append]; rfl
end
section
theorem ev_ascending (n : Nat) (hn : n ≤ 1000000) : Ev (fun k => impl_ascending.f k (n : Int)) (upto (fun j => (j : Int)) n) := by
  unfold impl_ascending.f
  refine Ev.up (fun i k => impl_ascending.l0 k (upto (fun j => (j : Int)) i) (n : Int) (i : Int)) n _ ?_ ?_
  · apply Ev.succ
    simp only [impl_ascending.l0]
    exact Ev.ite_neg (by omega) (Ev.now _)
  · intro i hi ih
    have hl := upto_length (fun j => (j : Int)) i
    rw [upto_succ] at ih
    apply Ev.succ
    simp only [impl_ascending.l0]
    refine Ev.ite_pos (by omega) (Ev.ite_pos (by omega) ?_)
    rw [wrap64_succ (by omega)]
    exact ih
theorem upto64_mem {x : Int} (h : x ∈ upto (fun j => (j : Int)) 64) : 0 ≤ x ∧ x ≤ 63 := by
  unfold upto at h
  obtain ⟨j, hj, rfl⟩ := List.mem_map.1 h
  have := List.mem_range.1 hj
  omega
end
end Go.Proofs.YthaipkhgemachaaGreatDoor.Q
