/- Parts of the proof, laid together: contracts and lemmas; no conditions beyond those written. -/
import Derived.Test.YteobbgofbedgdaaQx0
import Derived.Test.YteobbgofbedgdaaQx1
import Derived.Test.YteobbgofbedgdaaSbase
import Derived.Test.YteobbgofbedgdaaSown
namespace Go.Proofs.Yteobbgofbedgdaa.Q
open Go.RowKit Go.Proofs.YteobbgofbedgdaaW.PrintWords Go.Proofs.YteobbgofbedgdaaW.PrintLast Go.Proofs.YteobbgofbedgdaaW.PrintMore
attribute [local go_sem] max2_int min2_int max_two min_two max_three min_three max_four min_four   -- for this text's walks alone
set_option linter.unusedVariables false
set_option linter.unusedSimpArgs false
section
theorem ev_ascending (n : Nat) (hn : n ≤ 1000000) : Ev (fun k => impl_ascending.f k (n : Int)) (upto (fun j => (j : Int)) n) := by
  unfold impl_ascending.f
  refine Ev.up (fun i k => impl_ascending.l0 k (upto (fun j => (j : Int)) i) (n : Int) (i : Int)) n _ ?_ ?_
  · apply Ev.succ
    simp only [impl_ascending.l0]
    exact Ev.ite_neg (by omega) (Ev.now _)
  · intro i hi ih
    have hl := upto_length (fun j => (j : Int)) i
    rw [upto_succ] at ih
    apply Ev.succ
    simp only [impl_ascending.l0]
    refine Ev.ite_pos (by omega) (Ev.ite_pos (by omega) ?_)
    rw [wrap64_succ (by omega)]
    exact ih
theorem upto64_mem {x : Int} (h : x ∈ upto (fun j => (j : Int)) 64) : 0 ≤ x ∧ x ≤ 63 := by
  unfold upto at h
  obtain ⟨j, hj, rfl⟩ := List.mem_map.1 h
  have := List.mem_range.1 hj
  omega
end
section
def areBytes (l : List Int) : Bool := l.all fun n => decide (0 ≤ n) && decide (n ≤ 255)
/-- What a law over two texts of bytes comes to. -/
def lawOf2 (l0 l1 : List Int) : Option Bool := if (areBytes l0 && areBytes l1) = true then some true else none
theorem lawOf2_some {l0 l1 : List Int} {r : Bool} (h : lawOf2 l0 l1 = some r) : r = true ∧ (∀ y ∈ l0, 0 ≤ y ∧ y ≤ 255) ∧ ∀ y ∈ l1, 0 ≤ y ∧ y ≤ 255 := by
  unfold lawOf2 at h
  by_cases hb : (areBytes l0 && areBytes l1) = true
  · rw [if_pos hb] at h
    obtain ⟨h0, h1⟩ := Bool.and_eq_true_iff.1 hb
    refine ⟨(Option.some.inj h).symm, fun y hy => ?_, fun y hy => ?_⟩
    · have := List.all_eq_true.1 h0 y hy; simpa using this
    · have := List.all_eq_true.1 h1 y hy; simpa using this
  · rw [if_neg hb] at h; exact absurd h (by simp)
theorem lawOf2_of {l0 l1 : List Int} (h0 : ∀ y ∈ l0, (Lit.int .u8 y).wf = true) (h1 : ∀ y ∈ l1, (Lit.int .u8 y).wf = true) : lawOf2 l0 l1 = some true := by
  have key : ∀ l : List Int, (∀ y ∈ l, (Lit.int .u8 y).wf = true) → areBytes l = true := by
    intro l h
    refine List.all_eq_true.2 fun y hy => ?_
    have := h y hy
    simp [Lit.wf] at this
    have e1 : IntKind.u8.min = 0 := by decide
    have e2 : IntKind.u8.max = 255 := by decide
    simp; omega
  unfold lawOf2
  rw [key l0 h0, key l1 h1]; rfl
end
section
def frontL (s : List Int) (a : Int) : List Int := a :: s.filter fun x => !decide (x = a)
def stackL (l : List Int) : List Int := l.foldl frontL []
def addL (s : List Int) (a : Int) : List Int := if a ∈ s then s else s ++ [a]
theorem addL_front (xs : List Int) (a : Int) : ∀ s : List Int, xs.foldl addL (a :: s.filter fun x => !decide (x = a)) = a :: (xs.foldl addL s).filter fun x => !decide (x = a) := by
  induction xs with
  | nil => intro s; rfl
  | cons x xs ih =>
    intro s
    rw [List.foldl_cons, List.foldl_cons, ← ih (addL s x)]
    congr 1
    unfold addL
    by_cases e : x = a
    · subst e
      rw [if_pos List.mem_cons_self]
      split
      · rfl
      · rw [List.filter_append]; simp
    · by_cases hm : x ∈ s
      · rw [if_pos hm, if_pos (List.mem_cons_of_mem _ (List.mem_filter.2 ⟨hm, by simp [e]⟩))]
      · rw [if_neg hm, if_neg (fun h => (List.mem_cons.1 h).elim e (fun h => hm (List.mem_filter.1 h).1)), List.filter_append, List.cons_append]
        simp [e]
/-- From the back: what has come already is left out. -/
theorem stackL_back (l : List Int) : l.reverse.foldl addL [] = stackL l := by
  have key : ∀ r : List Int, r.foldl addL [] = stackL r.reverse := by
    intro r
    induction r with
    | nil => rfl
    | cons a r ih =>
      have h := addL_front r a []
      rw [List.filter_nil, ih] at h
      rw [List.foldl_cons, show addL [] a = [a] from rfl, h]
      unfold stackL
      rw [List.reverse_cons, List.foldl_append]
      rfl
  rw [key, List.reverse_reverse]
theorem stackL_snoc (l : List Int) (a : Int) : stackL (l ++ [a]) = frontL (stackL l) a := by unfold stackL; rw [List.foldl_append]; rfl
theorem frontL_length (s : List Int) (a : Int) : (frontL s a).length ≤ s.length + 1 := by
  unfold frontL
  rw [List.length_cons]
  have := List.length_filter_le (fun x => !decide (x = a)) s
  omega
theorem stackL_facts (l : List Int) : (stackL l).Nodup ∧ (∀ x, x ∈ stackL l ↔ x ∈ l) ∧ (stackL l).length ≤ l.length := by
  have key : ∀ r : List Int, (stackL r.reverse).Nodup ∧ (∀ x, x ∈ stackL r.reverse ↔ x ∈ r) ∧ (stackL r.reverse).length ≤ r.length := by
    intro r
    induction r with
    | nil => exact ⟨List.nodup_nil, by simp [stackL], by simp [stackL]⟩
    | cons a r ih =>
      rw [List.reverse_cons, stackL_snoc]
      have hl := frontL_length (stackL r.reverse) a
      refine ⟨?_, fun x => ?_, by rw [List.length_cons]; omega⟩
      · unfold frontL
        refine List.nodup_cons.2 ⟨fun h => by simpa using (List.mem_filter.1 h).2, ih.1.sublist List.filter_sublist⟩
      · unfold frontL
        rw [List.mem_cons, List.mem_filter, ih.2.1, List.mem_cons]
        constructor
        · rintro (h | h)
          · exact .inl h
          · exact .inr h.1
        · rintro (h | h)
          · exact .inl h
          · by_cases e : x = a
            · exact .inl e
            · exact .inr ⟨h, by simp [e]⟩
  have := key l.reverse
  rw [List.reverse_reverse] at this
  exact ⟨this.1, fun x => (this.2.1 x).trans List.mem_reverse, by have := this.2.2; rw [List.length_reverse] at this; exact this⟩
theorem stackL_head (l : List Int) (a : Int) : (stackL (l ++ [a])).head? = some a := by rw [stackL_snoc]; rfl
end
end Go.Proofs.Yteobbgofbedgdaa.Q
