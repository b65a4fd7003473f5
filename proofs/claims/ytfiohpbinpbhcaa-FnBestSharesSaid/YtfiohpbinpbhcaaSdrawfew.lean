/- Parts of the proof, laid together: contracts and lemmas; no conditions beyond those written. -/
import Derived.Test.YtfiohpbinpbhcaaQx0
import Derived.Test.YtfiohpbinpbhcaaQx1
import Derived.Test.YtfiohpbinpbhcaaSokuses
import Derived.Test.YtfiohpbinpbhcaaSbase
import Derived.Test.YtfiohpbinpbhcaaSdraw
import Derived.Test.YtfiohpbinpbhcaaHarePrograms
import Derived.Test.YtfiohpbinpbhcaaSbestshares
import Derived.Test.YtfiohpbinpbhcaaScrv
import Derived.Test.YtfiohpbinpbhcaaSr8sum
namespace Go.Proofs.Ytfiohpbinpbhcaa.Q
open Go.RowKit Go.Proofs.YtfiohpbinpbhcaaW.PrintWords Go.Proofs.YtfiohpbinpbhcaaW.PrintLast Go.Proofs.YtfiohpbinpbhcaaW.PrintMore
attribute [local go_sem] max2_int min2_int max_two min_two max_three min_three max_four min_four   -- for this text's walks alone
set_option linter.unusedVariables false
set_option linter.unusedSimpArgs false
section
theorem few_l1 (l : List Int) (hb : Bytes l) (base : List Int) (h1 : 1 ≤ base.length) (h2 : base.length ≤ 200) (d : Nat) : ∀ (out : List Int) (a : Nat) (sd : Int), (∀ x ∈ out, x ∈ base) → out.length + d ≤ 1000000 → a + d ≤ 1000000000000 →
    ∃ (r : List Int) (a' : Nat) (s : Int), Ev (fun k => spec_l02DrawFew.l1 k (d : Int) base out l (a : Int) sd) (r, (a' : Int), s) ∧ r.length = out.length + d ∧ (∀ x ∈ r, x ∈ base) ∧ a' ≤ a + d := by
  induction d with
  | zero =>
    intro out a sd ho hl ha
    refine ⟨out, a, sd, Ev.succ ?_, by omega, ho, by omega⟩
    simp only [spec_l02DrawFew.l1]
    exact Ev.ite_neg (by omega) (Ev.now _)
  | succ d ih =>
    intro out a sd ho hl ha
    obtain ⟨x, a1, s, e, hx, ha1⟩ := among_ok l hb a sd base h1 h2 (by omega)
    obtain ⟨r, a2, s2, e2, hr, hm, ha2⟩ := ih (out ++ [x]) a1 s (by intro y hy; rcases List.mem_append.1 hy with h | h; exact ho y h; rw [List.mem_singleton.1 h]; exact hx) (by rw [List.length_append, List.length_singleton]; omega) (by omega)
    refine ⟨r, a2, s2, Ev.succ ?_, by rw [hr, List.length_append, List.length_singleton]; omega, hm, by omega⟩
    simp only [spec_l02DrawFew.l1]
    refine Ev.ite_pos (by omega) (Ev.cbind e (Ev.ite_pos (by omega) ?_))
    have : wrap64 (((d + 1 : Nat) : Int) - 1) = (d : Int) := by rw [wrap64_id (by omega) (by omega)]; omega
    rw [this]
    exact e2
theorem few_l0 (l : List Int) (hb : Bytes l) (n kinds : Nat) (hk1 : 1 ≤ kinds) (hk : kinds ≤ 200) (hn : n ≤ 1000000) (d : Nat) : ∀ (base : List Int) (a : Nat) (sd : Int), base.length + d = kinds → (∀ x ∈ base, 0 ≤ x ∧ x ≤ 63) → a + d + n ≤ 1000000000000 →
    ∃ (r : List Int) (a' : Nat) (s : Int), Ev (fun k => spec_l02DrawFew.l0 k (n : Int) (kinds : Int) base (base.length : Int) l (a : Int) sd) (r, (a' : Int), s) ∧ r.length = n ∧ (∀ x ∈ r, 0 ≤ x ∧ x ≤ 63) ∧ a' ≤ a + d + n := by
  induction d with
  | zero =>
    intro base a sd hc hm ha
    obtain ⟨r, a2, s2, e2, hr, hm2, ha2⟩ := few_l1 l hb base (by omega) (by omega) n [] a sd (by simp) (by simp; omega) (by omega)
    refine ⟨r, a2, s2, Ev.succ ?_, by rw [hr]; simp, fun x hx => hm x (hm2 x hx), by omega⟩
    simp only [spec_l02DrawFew.l0]
    exact Ev.ite_neg (by omega) e2
  | succ d ih =>
    intro base a sd hc hm ha
    obtain ⟨x, a1, s, e, hx, ha1⟩ := pick_ok l hb a sd 64 (by omega) (by omega) (by omega)
    obtain ⟨r, a2, s2, e2, hr, hm2, ha2⟩ := ih (base ++ [(x : Int)]) a1 s (by rw [List.length_append, List.length_singleton]; omega) (by intro y hy; rcases List.mem_append.1 hy with h | h; exact hm y h; rw [List.mem_singleton.1 h]; omega) (by omega)
    refine ⟨r, a2, s2, Ev.succ ?_, hr, hm2, by omega⟩
    simp only [spec_l02DrawFew.l0]
    refine Ev.ite_pos (by omega) (Ev.cbind e (Ev.ite_pos (by omega) ?_))
    rw [wrap64_succ (by omega)]
    rw [List.length_append, List.length_singleton] at e2
    exact e2
theorem few_ok (l : List Int) (hb : Bytes l) (a : Nat) (sd : Int) (n kinds : Nat) (hk1 : 1 ≤ kinds) (hk : kinds ≤ 200) (hn : n ≤ 1000000) (ha : a ≤ 1000000000) :
    ∃ (r : List Int) (a' : Nat) (s : Int), Ev (fun k => spec_l02DrawFew.f k l (a : Int) sd (n : Int) (kinds : Int)) (r, (a' : Int), s) ∧ r.length = n ∧ (∀ x ∈ r, 0 ≤ x ∧ x ≤ 63) ∧ a' ≤ a + kinds + n := by
  unfold spec_l02DrawFew.f
  exact few_l0 l hb n kinds hk1 hk hn kinds [] a sd (by simp) (by simp) (by omega)
end
section
def crvT (T : Nat) (p : List Int) : List Int := crv (dists p) (T + 1)
def bshD (P : List (List Int)) (T m : Nat) : List (List Int) × List Int := bsh (crvT T) T (P.drop m)
theorem bshD_end (P : List (List Int)) (T : Nat) : bshD P T P.length = ([], []) := by unfold bshD; rw [List.drop_length]; unfold bsh; rfl
theorem bshD_last (P : List (List Int)) (T k : Nat) (h : k + 1 = P.length) : bshD P T k = ((List.range (T + 1)).map (fun (a : Nat) => [(a : Int)]), (List.range (T + 1)).map fun (a : Nat) => rd (crvT T (rd_L2 P (k : Int))) (a : Int)) := by
  have e : rd_L2 P (k : Int) = P[k]'(by omega) := by
    show P.getD k [] = _
    rw [List.getD_eq_getElem?_getD, List.getElem?_eq_getElem (by omega), Option.getD_some]
  unfold bshD
  rw [e, List.drop_eq_getElem_cons (by omega), h, List.drop_length]
  unfold bsh
  rw [if_pos rfl]
theorem bshD_cons (P : List (List Int)) (T k : Nat) (h : k + 1 < P.length) : bshD P T k = ((List.range (T + 1)).map (fun n => (pk (crvT T (rd_L2 P (k : Int))) (bshD P T (k + 1)).2 n (n + 1)).1 :: (bshD P T (k + 1)).1.getD (n - (pk (crvT T (rd_L2 P (k : Int))) (bshD P T (k + 1)).2 n (n + 1)).1.toNat) []), (List.range (T + 1)).map fun n => (pk (crvT T (rd_L2 P (k : Int))) (bshD P T (k + 1)).2 n (n + 1)).2) := by
  have e : rd_L2 P (k : Int) = P[k]'(by omega) := by
    show P.getD k [] = _
    rw [List.getD_eq_getElem?_getD, List.getElem?_eq_getElem (by omega), Option.getD_some]
  have hne : P.drop (k + 1) ≠ [] := by
    intro h0
    have := congrArg List.length h0
    rw [List.length_drop, List.length_nil] at this
    omega
  unfold bshD
  rw [e, List.drop_eq_getElem_cons (show k < P.length by omega)]
  conv => lhs; unfold bsh
  rw [if_neg hne]
theorem bshD_len (P : List (List Int)) (T k : Nat) (h : k < P.length) : (bshD P T k).1.length = T + 1 ∧ (bshD P T k).2.length = T + 1 := by
  by_cases hk : k + 1 = P.length
  · rw [bshD_last P T k hk]; simp
  · rw [bshD_cons P T k (by omega)]; simp
theorem bsh_rows (C : List Int → List Int) (T : Nat) : ∀ ps : List (List Int), ∀ x ∈ (bsh C T ps).1, x.length ≤ ps.length
  | [], x, hx => by unfold bsh at hx; simp at hx
  | p :: ps, x, hx => by
    unfold bsh at hx
    by_cases h : ps = []
    · rw [if_pos h] at hx
      obtain ⟨a, _, rfl⟩ := List.mem_map.1 hx
      simp
    · rw [if_neg h] at hx
      obtain ⟨n, _, rfl⟩ := List.mem_map.1 hx
      have key : ∀ j, ((bsh C T ps).1.getD j []).length ≤ ps.length := fun j => by
        rw [List.getD_eq_getElem?_getD]
        rcases Nat.lt_or_ge j (bsh C T ps).1.length with hj | hj
        · rw [List.getElem?_eq_getElem hj, Option.getD_some]
          exact bsh_rows C T ps _ (List.getElem_mem hj)
        · rw [List.getElem?_eq_none hj]; simp
      simp only [List.length_cons]
      have := key (n - (pk (C p) (bsh C T ps).2 n (n + 1)).1.toNat)
      omega
theorem bshD_rows (P : List (List Int)) (T m j : Nat) : ((bshD P T m).1.getD j []).length ≤ P.length := by
  rw [List.getD_eq_getElem?_getD]
  rcases Nat.lt_or_ge j (bshD P T m).1.length with hj | hj
  · rw [List.getElem?_eq_getElem hj, Option.getD_some]
    have := bsh_rows (crvT T) T (P.drop m) _ (List.getElem_mem hj)
    rw [List.length_drop] at this
    omega
  · rw [List.getElem?_eq_none hj]; simp
theorem pk_range (c m : List Int) (n : Nat) : ∀ j, 0 ≤ (pk c m n j).1 ∧ (pk c m n j).1 ≤ ((j - 1 : Nat) : Int)
  | 0 => by unfold pk; simp
  | j + 1 => by
    have h := pk_range c m n j
    unfold pk
    split
    · simp
    · exact ⟨h.1, by have := h.2; omega⟩
theorem mapRange_succ {α : Type} (f : Nat → α) (n : Nat) : (List.range (n + 1)).map f = (List.range n).map f ++ [f n] := by rw [List.range_succ, List.map_append, List.map_singleton]
theorem take_mapRange {α : Type} (f : Nat → α) (T n : Nat) (h : n < T + 1) : ((List.range (T + 1)).map f).take (n + 1) = ((List.range (T + 1)).map f).take n ++ [f n] := by
  rw [List.take_succ_eq_append_getElem (by simpa using h)]
  simp
def okBest (l0 : List (List Int)) (a1 : Int) : Bool := okProgs l0 && (decide (l0 ≠ []) && okShare a1)
end
end Go.Proofs.Ytfiohpbinpbhcaa.Q
