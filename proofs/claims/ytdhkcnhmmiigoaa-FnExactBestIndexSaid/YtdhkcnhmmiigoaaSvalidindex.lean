/- Parts of the proof, laid together: contracts and lemmas; no conditions beyond those written. -/
import Derived.Test.YtdhkcnhmmiigoaaQx0
import Derived.Test.YtdhkcnhmmiigoaaHallIn
import Derived.Test.YtdhkcnhmmiigoaaQx2
import Derived.Test.YtdhkcnhmmiigoaaSxor
import Derived.Test.YtdhkcnhmmiigoaaSmarks
import Derived.Test.YtdhkcnhmmiigoaaQx1
namespace Go.Proofs.Ytdhkcnhmmiigoaa.Q
open Go.RowKit Go.Proofs.YtdhkcnhmmiigoaaW.PrintWords Go.Proofs.YtdhkcnhmmiigoaaW.PrintLast Go.Proofs.YtdhkcnhmmiigoaaW.PrintMore
attribute [local go_sem] max2_int min2_int max_two min_two max_three min_three max_four min_four   -- for this text's walks alone
set_option linter.unusedVariables false
set_option linter.unusedSimpArgs false
section
theorem impl_ValidIndex_f (l : List Int) : impl_ValidIndex.f l = some (okRows l) := by
  unfold impl_ValidIndex.f impl_allIn.f okRows
  by_cases h : l.length ≤ 3
  · rw [if_pos (by omega)]; simp [h]
  · rw [if_neg (by omega)]; simp [h]
end
section
theorem ev_eqIndex_same (a : List Int) (h : a.length ≤ 35184372088832) : Ev (fun k => laws_eqIndex.f k a a) true := by
  unfold laws_eqIndex.f
  exact Ev.bind (ev_eqInt64S_same a h) (Ev.ite_pos rfl (Ev.now _))
end
section
def isIn (lo hi : Int) (n : Int) : Bool := decide (lo ≤ n) && decide (n ≤ hi)
theorem impl_inRange_f (n lo hi : Int) : impl_inRange.f n lo hi = some (isIn lo hi n) := by
  unfold impl_inRange.f isIn
  by_cases h : lo ≤ n
  · rw [if_pos h]; simp [h]
  · rw [if_neg h]; simp [h]
end
section
theorem ev_markIndex (l : List Int) (m : Int) (h : l.length ≤ 35184372088832) (h0 : 0 ≤ m) (h1 : m ≤ 4611686018427387904) : Ev (fun k => laws_markIndex.f k l m) (m + l.length, ups m l.length) := by
  unfold laws_markIndex.f
  exact Ev.bind (ev_markInt64S l m h h0 h1) (Ev.now _)
end
section
def frontL (s : List Int) (a : Int) : List Int := a :: s.filter fun x => !decide (x = a)
def stackL (l : List Int) : List Int := l.foldl frontL []
def addL (s : List Int) (a : Int) : List Int := if a ∈ s then s else s ++ [a]
theorem addL_front (xs : List Int) (a : Int) : ∀ s : List Int, xs.foldl addL (a :: s.filter fun x => !decide (x = a)) = a :: (xs.foldl addL s).filter fun x => !decide (x = a) := by
  induction xs with
  | nil => intro s; rfl
  | cons x xs ih =>
    intro s
    rw [List.foldl_cons, List.foldl_cons, ← ih (addL s x)]
    congr 1
    unfold addL
    by_cases e : x = a
    · subst e
      rw [if_pos List.mem_cons_self]
      split
      · rfl
      · rw [List.filter_append]; simp
    · by_cases hm : x ∈ s
      · rw [if_pos hm, if_pos (List.mem_cons_of_mem _ (List.mem_filter.2 ⟨hm, by simp [e]⟩))]
      · rw [if_neg hm, if_neg (fun h => (List.mem_cons.1 h).elim e (fun h => hm (List.mem_filter.1 h).1)), List.filter_append, List.cons_append]
        simp [e]
/-- From the back: what has come already is left out. -/
theorem stackL_back (l : List Int) : l.reverse.foldl addL [] = stackL l := by
  have key : ∀ r : List Int, r.foldl addL [] = stackL r.reverse := by
    intro r
    induction r with
    | nil => rfl
    | cons a r ih =>
      have h := addL_front r a []
      rw [List.filter_nil, ih] at h
      rw [List.foldl_cons, show addL [] a = [a] from rfl, h]
      unfold stackL
      rw [List.reverse_cons, List.foldl_append]
      rfl
  rw [key, List.reverse_reverse]
theorem stackL_snoc (l : List Int) (a : Int) : stackL (l ++ [a]) = frontL (stackL l) a := by unfold stackL; rw [List.foldl_append]; rfl
theorem frontL_length (s : List Int) (a : Int) : (frontL s a).length ≤ s.length + 1 := by
  unfold frontL
  rw [List.length_cons]
  have := List.length_filter_le (fun x => !decide (x = a)) s
  omega
theorem stackL_facts (l : List Int) : (stackL l).Nodup ∧ (∀ x, x ∈ stackL l ↔ x ∈ l) ∧ (stackL l).length ≤ l.length := by
  have key : ∀ r : List Int, (stackL r.reverse).Nodup ∧ (∀ x, x ∈ stackL r.reverse ↔ x ∈ r) ∧ (stackL r.reverse).length ≤ r.length := by
    intro r
    induction r with
    | nil => exact ⟨List.nodup_nil, by simp [stackL], by simp [stackL]⟩
    | cons a r ih =>
      rw [List.reverse_cons, stackL_snoc]
      have hl := frontL_length (stackL r.reverse) a
      refine ⟨?_, fun x => ?_, by rw [List.length_cons]; omega⟩
      · unfold frontL
        refine List.nodup_cons.2 ⟨fun h => by simpa using (List.mem_filter.1 h).2, ih.1.sublist List.filter_sublist⟩
      · unfold frontL
        rw [List.mem_cons, List.mem_filter, ih.2.1, List.mem_cons]
        constructor
        · rintro (h | h)
          · exact .inl h
          · exact .inr h.1
        · rintro (h | h)
          · exact .inl h
          · by_cases e : x = a
            · exact .inl e
            · exact .inr ⟨h, by simp [e]⟩
  have := key l.reverse
  rw [List.reverse_reverse] at this
  exact ⟨this.1, fun x => (this.2.1 x).trans List.mem_reverse, by have := this.2.2; rw [List.length_reverse] at this; exact this⟩
theorem stackL_head (l : List Int) (a : Int) : (stackL (l ++ [a])).head? = some a := by rw [stackL_snoc]; rfl
end
end Go.Proofs.Ytdhkcnhmmiigoaa.Q
