/- Parts of the proof, laid together: contracts and lemmas; no conditions beyond those written. -/
import Derived.Test.YtdhkcnhmmiigoaaQx0
import Derived.Test.YtdhkcnhmmiigoaaQx2
import Derived.Test.YtdhkcnhmmiigoaaSxor
import Derived.Test.YtdhkcnhmmiigoaaSmarks
import Derived.Lib.SlicesCompact
import Derived.Test.YtdhkcnhmmiigoaaHallIn
import Derived.Test.YtdhkcnhmmiigoaaSvalidindex
namespace Go.Proofs.Ytdhkcnhmmiigoaa.Q
open Go.RowKit Go.Proofs.YtdhkcnhmmiigoaaW.PrintWords Go.Proofs.YtdhkcnhmmiigoaaW.PrintLast Go.Proofs.YtdhkcnhmmiigoaaW.PrintMore
attribute [local go_sem] max2_int min2_int max_two min_two max_three min_three max_four min_four   -- for this text's walks alone
set_option linter.unusedVariables false
set_option linter.unusedSimpArgs false
section
theorem ev_heldIndex (m : Int) (n : Nat) (h : n ≤ 35184372088832) (h0 : 0 ≤ m) (h1 : m ≤ 4611686018427387904) : Ev (fun k => laws_heldIndex.f k (ups m n) m) (m + n) := by
  unfold laws_heldIndex.f
  exact Ev.bind (ev_heldInt64S m n h h0 h1) (Ev.ite_neg (by omega) (Ev.now _))
end
section
/-- The numbers of a list, sorted, each once. -/
def setL (l : List Int) : List Int := Go.Lib.compact (sortL l)
theorem compact_len (l : List Int) : (Go.Lib.compact l).length ≤ l.length := by
  unfold Go.Lib.compact Go.Lib.compactUpTo
  rw [List.length_map]
  have := List.length_filter_le (Go.Lib.keeps l.toArray) (List.range l.length)
  simpa using this
end
section
/-- What has come when k rounds are over. -/
def upto (f : Nat → Int) (k : Nat) : List Int := (List.range k).map f
theorem upto_succ (f : Nat → Int) (k : Nat) : upto f (k + 1) = upto f k ++ [f k] := by simp [upto, List.range_succ]
theorem upto_length (f : Nat → Int) (k : Nat) : (upto f k).length = k := by simp [upto]
theorem upto_all (zs : List Int) : upto (fun j => zs[j]?.getD 0) zs.length = zs := by
  apply List.ext_getElem
  · simp [upto]
  · intro i h1 h2
    simp [upto, h2]
end
section
theorem impl_ValidUses_f (l : List Int) : impl_ValidUses.f l = some (okUses l) := by
  unfold impl_ValidUses.f impl_allIn.f okUses
  by_cases h : l.length ≤ 60
  · rw [if_pos (by omega)]
    show some (l.all okAddr) = some (l.all okAddr && decide (l.length ≤ 60))
    simp [h]
  · rw [if_neg (by omega)]
    simp [h]
end
section
theorem tw_filter (a x : Int) (hx : x ≠ a) : ∀ s : List Int, (s.filter fun y => !decide (y = x)).takeWhile (fun y => !decide (y = a)) = (s.takeWhile fun y => !decide (y = a)).filter fun y => !decide (y = x)
  | [] => rfl
  | y :: s => by
    have ih := tw_filter a x hx s
    by_cases h : y = a
    · subst h
      rw [List.filter_cons_of_pos (by simp; exact fun e => hx e.symm), List.takeWhile_cons_of_neg (by simp), List.takeWhile_cons_of_neg (by simp)]; rfl
    · rw [List.takeWhile_cons_of_pos (a := y) (by simpa using h)]
      by_cases h2 : y = x
      · rw [List.filter_cons_of_neg (by simpa using h2), List.filter_cons_of_neg (by simpa using h2), ih]
      · rw [List.filter_cons_of_pos (by simpa using h2), List.filter_cons_of_pos (by simpa using h2), List.takeWhile_cons_of_pos (by simpa using h), ih]
theorem tw_front (a x : Int) (hx : x ≠ a) (s : List Int) : (frontL s x).takeWhile (fun y => !decide (y = a)) = frontL (s.takeWhile fun y => !decide (y = a)) x := by
  unfold frontL
  rw [List.takeWhile_cons_of_pos (by simpa using hx), tw_filter a x hx s]
theorem tw_fold (a : Int) : ∀ (l s : List Int), ¬ a ∈ l → (l.foldl frontL s).takeWhile (fun y => !decide (y = a)) = l.foldl frontL (s.takeWhile fun y => !decide (y = a))
  | [], _, _ => rfl
  | x :: l, s, h => by
    have h1 : x ≠ a := fun e => h (by simp [e])
    rw [List.foldl_cons, List.foldl_cons, tw_fold a l _ (fun h2 => h (by simp [h2])), tw_front a x h1]
/-- What stands before an address in the stack is the stack of what came after it. -/
theorem stack_before (l1 l2 : List Int) (a : Int) (h : ¬ a ∈ l2) : (stackL (l1 ++ a :: l2)).takeWhile (fun y => !decide (y = a)) = stackL l2 := by
  unfold stackL
  rw [List.foldl_append, List.foldl_cons, tw_fold a l2 _ h]
  congr 1
  unfold frontL
  rw [List.takeWhile_cons_of_neg (by simp)]
theorem stack_split (s : List Int) (a : Int) (hd : s.Nodup) (h : a ∈ s) : ∃ r, s = (s.takeWhile fun y => !decide (y = a)) ++ a :: r ∧ frontL s a = a :: ((s.takeWhile fun y => !decide (y = a)) ++ r) := by
  induction s with
  | nil => cases h
  | cons y s ih =>
    obtain ⟨h1, h2⟩ := List.nodup_cons.1 hd
    by_cases e : y = a
    · subst e
      refine ⟨s, by rw [List.takeWhile_cons_of_neg (by simp)]; rfl, ?_⟩
      unfold frontL
      rw [List.takeWhile_cons_of_neg (by simp), List.filter_cons_of_neg (by simp), List.nil_append, List.filter_eq_self.2 (fun x hx => by simp; rintro rfl; exact h1 hx)]
    · obtain ⟨r, e1, e2⟩ := ih h2 ((List.mem_cons.1 h).resolve_left (fun q => e q.symm))
      refine ⟨r, ?_, ?_⟩
      · rw [List.takeWhile_cons_of_pos (by simpa using e), List.cons_append, ← e1]
      · unfold frontL at e2 ⊢
        rw [List.takeWhile_cons_of_pos (by simpa using e), List.filter_cons_of_pos (by simpa using e), List.cons_append]
        rw [List.cons.injEq] at e2
        rw [e2.2]
theorem tw_all (p : Int → Bool) : ∀ s : List Int, (∀ x ∈ s, p x = true) → s.takeWhile p = s
  | [], _ => rfl
  | x :: s, h => by rw [List.takeWhile_cons_of_pos (h x (by simp)), tw_all p s (fun y hy => h y (by simp [hy]))]
theorem stack_none (s : List Int) (a : Int) (h : ¬ a ∈ s) : frontL s a = a :: s ∧ (s.takeWhile fun y => !decide (y = a)) = s := by
  have hall : ∀ x ∈ s, (!decide (x = a)) = true := fun x hx => by simp; rintro rfl; exact h hx
  unfold frontL
  refine ⟨by rw [List.filter_eq_self.2 hall], ?_⟩
  exact tw_all _ s hall
end
end Go.Proofs.Ytdhkcnhmmiigoaa.Q
