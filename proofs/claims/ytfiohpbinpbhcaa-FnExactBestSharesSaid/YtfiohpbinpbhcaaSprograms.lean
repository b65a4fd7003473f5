/- Parts of the proof, laid together: contracts and lemmas; no conditions beyond those written. -/
import Derived.Test.YtfiohpbinpbhcaaQx0
import Derived.Test.YtfiohpbinpbhcaaHarePrograms
import Derived.Test.YtfiohpbinpbhcaaQx2
import Derived.Test.YtfiohpbinpbhcaaSsetldef
import Derived.Test.YtfiohpbinpbhcaaSnested
import Derived.Test.YtfiohpbinpbhcaaScurve
import Derived.Test.YtfiohpbinpbhcaaSuses
import Derived.Test.YtfiohpbinpbhcaaSbestshares
import Derived.Test.YtfiohpbinpbhcaaScrv
namespace Go.Proofs.Ytfiohpbinpbhcaa.Q
open Go.RowKit Go.Proofs.YtfiohpbinpbhcaaW.PrintWords Go.Proofs.YtfiohpbinpbhcaaW.PrintLast Go.Proofs.YtfiohpbinpbhcaaW.PrintMore
attribute [local go_sem] max2_int min2_int max_two min_two max_three min_three max_four min_four   -- for this text's walks alone
set_option linter.unusedVariables false
set_option linter.unusedSimpArgs false
section
theorem ev_l04Programs (P : List (List Int)) (h : P.length ≤ 9223372036854775807) (hin : ∀ y ∈ P, y.length ≤ 9223372036854775807) : Ev (fun k => spec_l04Programs.f k P) (okProgs P) := by
  unfold spec_l04Programs.f
  have key := Ev.down (fun i k => spec_l04Programs.l0 k P (i : Int)) P.length (fun i => (P.drop i).all okUses && decide (P.length ≤ 4)) ?_ ?_ 0 (Nat.zero_le _)
  · refine Ev.eq key ?_
    unfold okProgs
    rw [List.drop_zero, Bool.and_comm]
  · apply Ev.succ
    simp only [spec_l04Programs.l0]
    refine Ev.ite_neg (by omega) (Ev.eq (Ev.now _) ?_)
    simp; omega
  · intro i hi ih
    apply Ev.succ
    simp only [spec_l04Programs.l0]
    rw [rdLL P i hi, wrap64_succ (by omega), List.drop_eq_getElem_cons hi, List.all_cons]
    refine Ev.ite_pos (by omega) (Ev.ite_pos (by omega) (Ev.bind (ev_l02Uses P[i] (by have := hin _ (List.getElem_mem hi); omega)) ?_))
    cases ho : okUses P[i] with
    | true => exact Ev.ite_pos rfl (Ev.eq ih (by simp))
    | false => exact Ev.ite_neg (by simp) (Ev.eq (Ev.now _) (by simp))
theorem l04Size_f (s : Int) : spec_l04Size.f s = some (okShare s) := by
  unfold spec_l04Size.f spec_l00In.f okShare
  by_cases h0 : s ≥ 0
  · simp [h0]
  · rw [if_neg h0, decide_eq_false (show ¬ 0 ≤ s from h0)]; rfl
end
section
theorem sh1 {α : Type} {d : Kd α} {e : Nat} {w : World} {base : Nat} {ok : Nat → Prop} {v : Value} {xs : List α} (h : d.R e w base ok v xs) (o : Obj) : d.R e (w.alloc o) base ok v xs := Kd.R_alloc h o
theorem sh2 {α : Type} {d : Kd α} {e : Nat} {w : World} {base : Nat} {ok : Nat → Prop} {v : Value} {xs : List α} (h : d.R e w base ok v xs) (m : Nat) : d.R e (w.drewN m) base ok v xs := Kd.R_drewN h m
theorem sh3 {α : Type} {d : Kd α} {e : Nat} {w : World} {base : Nat} {ok : Nat → Prop} {v : Value} {xs : List α} (h : d.R e w base ok v xs) : d.R e w.drew base ok v xs := Kd.R_drew h
theorem sh4 {α : Type} {d : Kd α} {e : Nat} {w : World} {base : Nat} {ok : Nat → Prop} {v : Value} {xs : List α} (h : d.S e w base ok v xs) (o : Obj) : d.S e (w.alloc o) base ok v xs := Kd.S_alloc h o
theorem sh5 {α : Type} {d : Kd α} {e : Nat} {w : World} {base : Nat} {ok : Nat → Prop} {v : Value} {xs : List α} (h : d.S e w base ok v xs) (m : Nat) : d.S e (w.drewN m) base ok v xs := Kd.S_drewN h m
theorem sh6 {α : Type} {d : Kd α} {e : Nat} {w : World} {base : Nat} {ok : Nat → Prop} {v : Value} {xs : List α} (h : d.S e w base ok v xs) : d.S e w.drew base ok v xs := Kd.S_drew h
theorem sh7 {α : Type} {d : Kd α} {w : World} {xs : List α} {A : Option Addr} {n : Nat} (h : d.C w A n xs) (o : Obj) : d.C (w.alloc o) A n xs := Kd.C_alloc h o
theorem sh8 {α : Type} {d : Kd α} {w : World} {xs : List α} {A : Option Addr} {n : Nat} (h : d.C w A n xs) (m : Nat) : d.C (w.drewN m) A n xs := Kd.C_drewN h m
theorem sh9 {α : Type} {d : Kd α} {w : World} {xs : List α} {A : Option Addr} {n : Nat} (h : d.C w A n xs) : d.C w.drew A n xs := Kd.C_drew h
theorem sha {B : Nat} {w W : World} (h : Below B w W) (n : Nat) : Below B w (W.drewN n) := pw_below_drewN h n
theorem shb {w W : World} (h : Below w.heap.size w W) (o : Obj) : Below w.heap.size w (W.alloc o) := below_alloc h o
theorem shc {base : Nat} {w W : World} (h : Below base w W) : Below base w W.drew := below_drew1 h
end
section
def crvT (T : Nat) (p : List Int) : List Int := crv (dists p) (T + 1)
def bshD (P : List (List Int)) (T m : Nat) : List (List Int) × List Int := bsh (crvT T) T (P.drop m)
theorem bshD_end (P : List (List Int)) (T : Nat) : bshD P T P.length = ([], []) := by unfold bshD; rw [List.drop_length]; unfold bsh; rfl
theorem bshD_last (P : List (List Int)) (T k : Nat) (h : k + 1 = P.length) : bshD P T k = ((List.range (T + 1)).map (fun (a : Nat) => [(a : Int)]), (List.range (T + 1)).map fun (a : Nat) => rd (crvT T (rd_L1 P (k : Int))) (a : Int)) := by
  have e : rd_L1 P (k : Int) = P[k]'(by omega) := by
    show P.getD k [] = _
    rw [List.getD_eq_getElem?_getD, List.getElem?_eq_getElem (by omega), Option.getD_some]
  unfold bshD
  rw [e, List.drop_eq_getElem_cons (by omega), h, List.drop_length]
  unfold bsh
  rw [if_pos rfl]
theorem bshD_cons (P : List (List Int)) (T k : Nat) (h : k + 1 < P.length) : bshD P T k = ((List.range (T + 1)).map (fun n => (pk (crvT T (rd_L1 P (k : Int))) (bshD P T (k + 1)).2 n (n + 1)).1 :: (bshD P T (k + 1)).1.getD (n - (pk (crvT T (rd_L1 P (k : Int))) (bshD P T (k + 1)).2 n (n + 1)).1.toNat) []), (List.range (T + 1)).map fun n => (pk (crvT T (rd_L1 P (k : Int))) (bshD P T (k + 1)).2 n (n + 1)).2) := by
  have e : rd_L1 P (k : Int) = P[k]'(by omega) := by
    show P.getD k [] = _
    rw [List.getD_eq_getElem?_getD, List.getElem?_eq_getElem (by omega), Option.getD_some]
  have hne : P.drop (k + 1) ≠ [] := by
    intro h0
    have := congrArg List.length h0
    rw [List.length_drop, List.length_nil] at this
    omega
  unfold bshD
  rw [e, List.drop_eq_getElem_cons (show k < P.length by omega)]
  conv => lhs; unfold bsh
  rw [if_neg hne]
theorem bshD_len (P : List (List Int)) (T k : Nat) (h : k < P.length) : (bshD P T k).1.length = T + 1 ∧ (bshD P T k).2.length = T + 1 := by
  by_cases hk : k + 1 = P.length
  · rw [bshD_last P T k hk]; simp
  · rw [bshD_cons P T k (by omega)]; simp
theorem bsh_rows (C : List Int → List Int) (T : Nat) : ∀ ps : List (List Int), ∀ x ∈ (bsh C T ps).1, x.length ≤ ps.length
  | [], x, hx => by unfold bsh at hx; simp at hx
  | p :: ps, x, hx => by
    unfold bsh at hx
    by_cases h : ps = []
    · rw [if_pos h] at hx
      obtain ⟨a, _, rfl⟩ := List.mem_map.1 hx
      simp
    · rw [if_neg h] at hx
      obtain ⟨n, _, rfl⟩ := List.mem_map.1 hx
      have key : ∀ j, ((bsh C T ps).1.getD j []).length ≤ ps.length := fun j => by
        rw [List.getD_eq_getElem?_getD]
        rcases Nat.lt_or_ge j (bsh C T ps).1.length with hj | hj
        · rw [List.getElem?_eq_getElem hj, Option.getD_some]
          exact bsh_rows C T ps _ (List.getElem_mem hj)
        · rw [List.getElem?_eq_none hj]; simp
      simp only [List.length_cons]
      have := key (n - (pk (C p) (bsh C T ps).2 n (n + 1)).1.toNat)
      omega
theorem bshD_rows (P : List (List Int)) (T m j : Nat) : ((bshD P T m).1.getD j []).length ≤ P.length := by
  rw [List.getD_eq_getElem?_getD]
  rcases Nat.lt_or_ge j (bshD P T m).1.length with hj | hj
  · rw [List.getElem?_eq_getElem hj, Option.getD_some]
    have := bsh_rows (crvT T) T (P.drop m) _ (List.getElem_mem hj)
    rw [List.length_drop] at this
    omega
  · rw [List.getElem?_eq_none hj]; simp
theorem pk_range (c m : List Int) (n : Nat) : ∀ j, 0 ≤ (pk c m n j).1 ∧ (pk c m n j).1 ≤ ((j - 1 : Nat) : Int)
  | 0 => by unfold pk; simp
  | j + 1 => by
    have h := pk_range c m n j
    unfold pk
    split
    · simp
    · exact ⟨h.1, by have := h.2; omega⟩
theorem mapRange_succ {α : Type} (f : Nat → α) (n : Nat) : (List.range (n + 1)).map f = (List.range n).map f ++ [f n] := by rw [List.range_succ, List.map_append, List.map_singleton]
theorem take_mapRange {α : Type} (f : Nat → α) (T n : Nat) (h : n < T + 1) : ((List.range (T + 1)).map f).take (n + 1) = ((List.range (T + 1)).map f).take n ++ [f n] := by
  rw [List.take_succ_eq_append_getElem (by simpa using h)]
  simp
def okBest (l0 : List (List Int)) (a1 : Int) : Bool := okProgs l0 && (decide (l0 ≠ []) && okShare a1)
end
end Go.Proofs.Ytfiohpbinpbhcaa.Q
