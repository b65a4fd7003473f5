/- The sorted numbers of a list, each once: both sides' are the same; no conditions beyond those written. -/
import Derived.Test.YtfiohpbinpbhcaaQx0
import Derived.Test.YtfiohpbinpbhcaaSidxf
import Derived.Test.YtfiohpbinpbhcaaSown
namespace Go.Proofs.Ytfiohpbinpbhcaa.Q
open Go.RowKit Go.Proofs.YtfiohpbinpbhcaaW.PrintWords Go.Proofs.YtfiohpbinpbhcaaW.PrintLast Go.Proofs.YtfiohpbinpbhcaaW.PrintMore
attribute [local go_sem] max2_int min2_int max_two min_two max_three min_three max_four min_four   -- for this text's walks alone
set_option linter.unusedVariables false
set_option linter.unusedSimpArgs false

abbrev Inc (l : List Int) : Prop := l.Pairwise (· < ·)
theorem inc_ext : ∀ {a b : List Int}, Inc a → Inc b → (∀ x, x ∈ a ↔ x ∈ b) → a = b
  | [], [], _, _, _ => rfl
  | [], y :: ys, _, _, h => by have := (h y).2 List.mem_cons_self; simp at this
  | x :: xs, [], _, _, h => by have := (h x).1 List.mem_cons_self; simp at this
  | x :: xs, y :: ys, ha, hb, h => by
    obtain ⟨hx, hxs⟩ := List.pairwise_cons.1 ha
    obtain ⟨hy, hys⟩ := List.pairwise_cons.1 hb
    have e : x = y := by
      rcases List.mem_cons.1 ((h x).1 List.mem_cons_self) with e | hm
      · exact e
      · rcases List.mem_cons.1 ((h y).2 List.mem_cons_self) with e | hm2
        · exact e.symm
        · have h1 := hy _ hm
          have h2 := hx _ hm2
          omega
    subst e
    rw [inc_ext hxs hys (fun z => ?_)]
    constructor
    · intro hz
      rcases List.mem_cons.1 ((h z).1 (List.mem_cons_of_mem _ hz)) with e | hm
      · have := hx _ hz; omega
      · exact hm
    · intro hz
      rcases List.mem_cons.1 ((h z).2 (List.mem_cons_of_mem _ hz)) with e | hm
      · have := hy _ hz; omega
      · exact hm
open Go.Lib in
theorem compactUpTo_facts (d : Array Int) (n : Nat) (hs : ∀ i j, i ≤ j → j < n → d[i]! ≤ d[j]!) : ∀ m, m ≤ n → Inc (compactUpTo d m) ∧ ∀ x, x ∈ compactUpTo d m ↔ ∃ j, j < m ∧ d[j]! = x := by
  intro m
  induction m with
  | zero => intro _; exact ⟨by simp [compactUpTo], by simp [compactUpTo]⟩
  | succ m ih =>
    intro hm
    obtain ⟨h1, h2⟩ := ih (by omega)
    rw [compactUpTo_succ]
    by_cases hk : keeps d m = true
    · rw [if_pos hk]
      refine ⟨List.pairwise_append.2 ⟨h1, by simp, fun a ha b hb => ?_⟩, fun x => ?_⟩
      · obtain rfl := List.mem_singleton.1 hb
        obtain ⟨j, hj, rfl⟩ := (h2 a).1 ha
        have h3 : m = 0 ∨ d[m]! ≠ d[m - 1]! := by simpa [keeps] using hk
        have h4 := hs j (m - 1) (by omega) (by omega)
        have h5 := hs (m - 1) m (by omega) (by omega)
        rcases h3 with h3 | h3
        · omega
        · omega
      · rw [List.mem_append, h2, List.mem_singleton]
        constructor
        · rintro (⟨j, hj, e⟩ | e)
          · exact ⟨j, by omega, e⟩
          · exact ⟨m, by omega, e.symm⟩
        · rintro ⟨j, hj, e⟩
          by_cases hjm : j = m
          · subst hjm; exact .inr e.symm
          · exact .inl ⟨j, by omega, e⟩
    · rw [if_neg hk, List.append_nil]
      have h3 : ¬ (m = 0 ∨ d[m]! ≠ d[m - 1]!) := by simpa [keeps] using hk
      refine ⟨h1, fun x => ?_⟩
      rw [h2]
      constructor
      · rintro ⟨j, hj, e⟩
        exact ⟨j, by omega, e⟩
      · rintro ⟨j, hj, e⟩
        by_cases hjm : j = m
        · subst hjm
          have h4 : j ≠ 0 := fun e => h3 (.inl e)
          have h5 : d[j]! = d[j - 1]! := Classical.byContradiction fun e => h3 (.inr e)
          exact ⟨j - 1, by omega, by rw [← h5]; exact e⟩
        · exact ⟨j, by omega, e⟩
theorem sortL_mem (l : List Int) (x : Int) : x ∈ sortL l ↔ x ∈ l := by unfold sortL; exact List.mem_mergeSort
theorem setL_facts (l : List Int) : Inc (setL l) ∧ ∀ x, x ∈ setL l ↔ x ∈ l := by
  have hp : (sortL l).Pairwise (fun a b => decide (a ≤ b) = true) := List.pairwise_mergeSort (by simp; omega) (by simp; omega) l
  have hb : ∀ i (h : i < (sortL l).length), (sortL l).toArray[i]! = (sortL l)[i] := by
    intro i h
    rw [getElem!_pos _ i (by simpa using h)]; rfl
  obtain ⟨h1, h2⟩ := compactUpTo_facts (sortL l).toArray (sortL l).length (fun i j hij hj => by
    rw [hb i (by omega), hb j hj]
    by_cases e : i = j
    · subst e; exact Int.le_refl _
    · have := List.pairwise_iff_getElem.1 hp i j (by omega) hj (by omega)
      simpa using this) (sortL l).length (Nat.le_refl _)
  refine ⟨h1, fun x => ?_⟩
  refine Iff.trans ?_ (sortL_mem l x)
  refine (h2 x).trans ⟨?_, ?_⟩
  · rintro ⟨j, hj, e⟩
    rw [hb j hj] at e
    rw [← e]; exact List.getElem_mem hj
  · intro hx
    obtain ⟨j, hj, e⟩ := List.getElem_of_mem hx
    exact ⟨j, hj, by rw [hb j hj]; exact e⟩
theorem setL_eq {l s : List Int} (h : Inc s) (hm : ∀ x, x ∈ s ↔ x ∈ l) : setL l = s := inc_ext (setL_facts l).1 h (fun x => ((setL_facts l).2 x).trans (hm x).symm)
theorem setL_length_le (l : List Int) : (setL l).length ≤ l.length := by
  have h := compact_len (sortL l)
  have h2 : (sortL l).length = l.length := by unfold sortL; exact List.length_mergeSort _
  unfold setL; omega
/-- A number put to its place among rising ones, once. -/
def putL : List Int → Int → List Int
  | [], n => [n]
  | x :: xs, n => if x ≥ n then (if x > n then n :: x :: xs else x :: xs) else x :: putL xs n
theorem putL_mem (l : List Int) (n x : Int) : x ∈ putL l n ↔ x = n ∨ x ∈ l := by
  induction l with
  | nil => simp [putL]
  | cons y ys ih =>
    unfold putL
    split
    · split
      · simp
      · have : y = n := by omega
        subst this
        simp
    · rw [List.mem_cons, ih, List.mem_cons]
      constructor
      · rintro (h | h | h) <;> simp [h]
      · rintro (h | h | h) <;> simp [h]
theorem putL_inc (l : List Int) (n : Int) (h : Inc l) : Inc (putL l n) := by
  induction l with
  | nil => simp [putL, Inc]
  | cons y ys ih =>
    obtain ⟨h1, h2⟩ := List.pairwise_cons.1 h
    unfold putL
    split
    · split
      · refine List.pairwise_cons.2 ⟨fun a ha => ?_, h⟩
        rcases List.mem_cons.1 ha with e | e
        · omega
        · have := h1 a e; omega
      · exact h
    · refine List.pairwise_cons.2 ⟨fun a ha => ?_, ih h2⟩
      rcases (putL_mem ys n a).1 ha with e | e
      · omega
      · exact h1 a e
theorem putL_length (l : List Int) (n : Int) : (putL l n).length ≤ l.length + 1 := by
  induction l with
  | nil => simp [putL]
  | cons y ys ih =>
    unfold putL
    split
    · split <;> simp
    · simp; omega
/-- Numbers put one after the other. -/
def putAll (l : List Int) : List Int := l.foldl putL []
theorem putAll_facts (l : List Int) : ∀ s, Inc s → Inc (l.foldl putL s) ∧ (∀ x, x ∈ l.foldl putL s ↔ x ∈ s ∨ x ∈ l) ∧ (l.foldl putL s).length ≤ s.length + l.length := by
  induction l with
  | nil => intro s h; simpa using h
  | cons y ys ih =>
    intro s h
    obtain ⟨h1, h2, h3⟩ := ih (putL s y) (putL_inc s y h)
    refine ⟨h1, fun x => ?_, ?_⟩
    · rw [List.foldl_cons, h2, putL_mem, List.mem_cons]
      constructor
      · rintro ((h | h) | h) <;> simp [h]
      · rintro (h | h | h) <;> simp [h]
    · rw [List.foldl_cons]
      have := putL_length s y
      simp; omega
theorem putAll_eq (l : List Int) : putAll l = setL l := by
  obtain ⟨h1, h2, _⟩ := putAll_facts l [] (by simp [Inc])
  exact (setL_eq h1 (fun x => by rw [h2]; simp)).symm
end Go.Proofs.Ytfiohpbinpbhcaa.Q
