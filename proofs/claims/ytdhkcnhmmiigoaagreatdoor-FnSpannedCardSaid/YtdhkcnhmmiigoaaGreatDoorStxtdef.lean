/- Parts of the proof, laid together: contracts and lemmas; no conditions beyond those written. -/
import Derived.Test.YtdhkcnhmmiigoaaGreatDoorQx0
import Derived.Test.YtdhkcnhmmiigoaaGreatDoorQx1
import Derived.Test.YtdhkcnhmmiigoaaGreatDoorSupto
import Derived.Lib.SlicesCompact
import Derived.Test.YtdhkcnhmmiigoaaGreatDoorSsetval
namespace Go.Proofs.YtdhkcnhmmiigoaaGreatDoor.Q
open Go.RowKit Go.Proofs.YtdhkcnhmmiigoaaGreatDoorW.PrintWords Go.Proofs.YtdhkcnhmmiigoaaGreatDoorW.PrintLast Go.Proofs.YtdhkcnhmmiigoaaGreatDoorW.PrintMore
attribute [local go_sem] max2_int min2_int max_two min_two max_three min_three max_four min_four   -- for this text's walks alone
set_option linter.unusedVariables false
set_option linter.unusedSimpArgs false
section
def topBit (p : Nat) : Int := 32 / 2 ^ p
def oneTxt (n : Int) (p : Nat) : ByteArray := if Go.bits .and .i64 n (topBit p) > 0 then ⟨#[49]⟩ else ⟨#[48]⟩
def addBits (b : ByteArray) (n : Int) : Nat → ByteArray
  | 0 => b
  | p + 1 => addBits b n p ++ oneTxt n p
def txtTo (l : List Int) : Nat → ByteArray
  | 0 => ⟨#[]⟩
  | i + 1 => addBits (if i = 0 then txtTo l i else txtTo l i ++ ⟨#[47]⟩) (rd l (i : Int)) 6
theorem topBit_facts : ∀ p : Fin 6, topBit p.val > 0 ∧ topBit p.val ≤ 32 ∧ (topBit p.val).tdiv 2 = topBit (p.val + 1) ∧ topBit p.val / 2 = topBit (p.val + 1) := by decide +kernel
theorem ba_append_size (a b : ByteArray) : (a ++ b).size = a.size + b.size := by
  first | exact ByteArray.size_append | exact ByteArray.size_append a b | simp
theorem oneTxt_size (n : Int) (p : Nat) : (oneTxt n p).size = 1 := by unfold oneTxt; split <;> rfl
theorem addBits_size (b : ByteArray) (n : Int) (p : Nat) : (addBits b n p).size = b.size + p := by
  induction p with
  | zero => rfl
  | succ p ih => unfold addBits; rw [ba_append_size, ih, oneTxt_size]; omega
theorem txtTo_size (l : List Int) (i : Nat) : (txtTo l i).size ≤ 7 * i := by
  induction i with
  | zero => exact Nat.le_refl _
  | succ i ih =>
    unfold txtTo
    rw [addBits_size]
    split
    · omega
    · rw [ba_append_size, show (⟨#[47]⟩ : ByteArray).size = 1 from rfl]; omega
end
section
def isIn (lo hi : Int) (n : Int) : Bool := decide (lo ≤ n) && decide (n ≤ hi)
theorem impl_inRange_f (n lo hi : Int) : impl_inRange.f n lo hi = some (isIn lo hi n) := by
  unfold impl_inRange.f isIn
  by_cases h : lo ≤ n
  · rw [if_pos h]; simp [h]
  · rw [if_neg h]; simp [h]
end
section
/-- The numbers of a list, sorted, each once. -/
def setL (l : List Int) : List Int := Go.Lib.compact (sortL l)
theorem compact_len (l : List Int) : (Go.Lib.compact l).length ≤ l.length := by
  unfold Go.Lib.compact Go.Lib.compactUpTo
  rw [List.length_map]
  have := List.length_filter_le (Go.Lib.keeps l.toArray) (List.range l.length)
  simpa using this
end
section
theorem r8Long_no (l m : List Int) (h : ¬ laws_r8Long.f l m = some true) : laws_r8Long.f l m = some false ∧ l.length ≤ 48 ∧ m.length ≤ 48 := by
  unfold laws_r8Long.f at h ⊢
  by_cases h1 : (l.length : Int) > 48
  · rw [if_pos h1] at h; exact absurd rfl h
  · rw [if_neg h1] at h ⊢
    by_cases h2 : (m.length : Int) > 48
    · simp [h2] at h
    · exact ⟨by simp [h2], by omega, by omega⟩
end
section
theorem one_ok (l : List Int) (hb : Bytes l) (a : Nat) (sd : Int) (n : Nat) (hn : 1 ≤ n) (h2 : n ≤ 200) (ha : a ≤ 1000000000000) :
    ∃ (b : Bool) (a' : Nat) (s : Int), spec_l00Src_one.f l (a : Int) sd (n : Int) = some (b, (a' : Int), s) ∧ a' ≤ a + 1 := by
  unfold spec_l00Src_one.f
  obtain ⟨x, a', s, e, hx, ha'⟩ := pick_ok l hb a sd n hn h2 ha
  rw [e]
  exact ⟨_, a', s, rfl, ha'⟩
end
section
theorem R_of_own {w : World} {base : Nat} {e : TypeId} {v : Value} {xs : List Int} (h : w.ownsRow base e 1 v xs.length (xs.map (Value.int .i64))) : Kd.R (Kd.int .i64) e w base (fun _ => True) v xs := by
  refine ⟨fun _ _ => trivial, xs.map (Value.int .i64), h, by show _ = xs.length * 1; simp, fun j p hj => ?_⟩
  show ((xs.map (Value.int .i64)).drop (j * 1)).take 1 = [Value.int .i64 p]
  rw [Nat.mul_one]
  have hl : j < xs.length := (List.getElem?_eq_some_iff.1 hj).1
  have hp : xs[j] = p := (List.getElem?_eq_some_iff.1 hj).2
  rw [List.drop_eq_getElem_cons (by simpa using hl)]
  simp [hp]
theorem own_of_R {w : World} {base : Nat} {e : TypeId} {ok : Nat → Prop} {v : Value} {xs : List Int} (h : Kd.R (Kd.int .i64) e w base ok v xs) : w.ownsRow base e 1 v xs.length (xs.map (Value.int .i64)) := by
  obtain ⟨_, inner, ho, hr⟩ := h
  have : inner = xs.map (Value.int .i64) := by
    apply List.ext_getElem
    · have h0 : inner.length = xs.length * 1 := hr.1
      simpa using h0
    · intro j h1 h2
      have hj : j < xs.length := by simpa using h2
      have hq := hr.2 j xs[j] (List.getElem?_eq_getElem hj)
      replace hq : (inner.drop (j * 1)).take 1 = [Value.int .i64 xs[j]] := hq
      rw [Nat.mul_one, List.drop_eq_getElem_cons h1, List.take_succ_cons, List.take_zero] at hq
      rw [List.getElem_map]
      exact (List.cons.inj hq).1
  rw [← this]
  exact ho
theorem C_of_own {w : World} {base n : Nat} {e : TypeId} {v : Value} {xs : List Int} (h : w.ownsRow base e 1 v xs.length (xs.map (Value.int .i64))) : ∃ A c, v = .slice A xs.length c ∧ xs.length ≤ c ∧ Kd.C (Kd.int .i64) w A xs.length xs := Kd.R_reads (R_of_own h)
end
section
abbrev Inc (l : List Int) : Prop := l.Pairwise (· < ·)
theorem inc_ext : ∀ {a b : List Int}, Inc a → Inc b → (∀ x, x ∈ a ↔ x ∈ b) → a = b
  | [], [], _, _, _ => rfl
  | [], y :: ys, _, _, h => by have := (h y).2 List.mem_cons_self; simp at this
  | x :: xs, [], _, _, h => by have := (h x).1 List.mem_cons_self; simp at this
  | x :: xs, y :: ys, ha, hb, h => by
    obtain ⟨hx, hxs⟩ := List.pairwise_cons.1 ha
    obtain ⟨hy, hys⟩ := List.pairwise_cons.1 hb
    have e : x = y := by
      rcases List.mem_cons.1 ((h x).1 List.mem_cons_self) with e | hm
      · exact e
      · rcases List.mem_cons.1 ((h y).2 List.mem_cons_self) with e | hm2
        · exact e.symm
        · have h1 := hy _ hm
          have h2 := hx _ hm2
          omega
    subst e
    rw [inc_ext hxs hys (fun z => ?_)]
    constructor
    · intro hz
      rcases List.mem_cons.1 ((h z).1 (List.mem_cons_of_mem _ hz)) with e | hm
      · have := hx _ hz; omega
      · exact hm
    · intro hz
      rcases List.mem_cons.1 ((h z).2 (List.mem_cons_of_mem _ hz)) with e | hm
      · have := hy _ hz; omega
      · exact hm
open Go.Lib in
theorem compactUpTo_facts (d : Array Int) (n : Nat) (hs : ∀ i j, i ≤ j → j < n → d[i]! ≤ d[j]!) : ∀ m, m ≤ n → Inc (compactUpTo d m) ∧ ∀ x, x ∈ compactUpTo d m ↔ ∃ j, j < m ∧ d[j]! = x := by
  intro m
  induction m with
  | zero => intro _; exact ⟨by simp [compactUpTo], by simp [compactUpTo]⟩
  | succ m ih =>
    intro hm
    obtain ⟨h1, h2⟩ := ih (by omega)
    rw [compactUpTo_succ]
    by_cases hk : keeps d m = true
    · rw [if_pos hk]
      refine ⟨List.pairwise_append.2 ⟨h1, by simp, fun a ha b hb => ?_⟩, fun x => ?_⟩
      · obtain rfl := List.mem_singleton.1 hb
        obtain ⟨j, hj, rfl⟩ := (h2 a).1 ha
        have h3 : m = 0 ∨ d[m]! ≠ d[m - 1]! := by simpa [keeps] using hk
        have h4 := hs j (m - 1) (by omega) (by omega)
        have h5 := hs (m - 1) m (by omega) (by omega)
        rcases h3 with h3 | h3
        · omega
        · omega
      · rw [List.mem_append, h2, List.mem_singleton]
        constructor
        · rintro (⟨j, hj, e⟩ | e)
          · exact ⟨j, by omega, e⟩
          · exact ⟨m, by omega, e.symm⟩
        · rintro ⟨j, hj, e⟩
          by_cases hjm : j = m
          · subst hjm; exact .inr e.symm
          · exact .inl ⟨j, by omega, e⟩
    · rw [if_neg hk, List.append_nil]
      have h3 : ¬ (m = 0 ∨ d[m]! ≠ d[m - 1]!) := by simpa [keeps] using hk
      refine ⟨h1, fun x => ?_⟩
      rw [h2]
      constructor
      · rintro ⟨j, hj, e⟩
        exact ⟨j, by omega, e⟩
      · rintro ⟨j, hj, e⟩
        by_cases hjm : j = m
        · subst hjm
          have h4 : j ≠ 0 := fun e => h3 (.inl e)
          have h5 : d[j]! = d[j - 1]! := Classical.byContradiction fun e => h3 (.inr e)
          exact ⟨j - 1, by omega, by rw [← h5]; exact e⟩
        · exact ⟨j, by omega, e⟩
theorem sortL_mem (l : List Int) (x : Int) : x ∈ sortL l ↔ x ∈ l := by unfold sortL; exact List.mem_mergeSort
theorem setL_facts (l : List Int) : Inc (setL l) ∧ ∀ x, x ∈ setL l ↔ x ∈ l := by
  have hp : (sortL l).Pairwise (fun a b => decide (a ≤ b) = true) := List.pairwise_mergeSort (by simp; omega) (by simp; omega) l
  have hb : ∀ i (h : i < (sortL l).length), (sortL l).toArray[i]! = (sortL l)[i] := by
    intro i h
    rw [getElem!_pos _ i (by simpa using h)]; rfl
  obtain ⟨h1, h2⟩ := compactUpTo_facts (sortL l).toArray (sortL l).length (fun i j hij hj => by
    rw [hb i (by omega), hb j hj]
    by_cases e : i = j
    · subst e; exact Int.le_refl _
    · have := List.pairwise_iff_getElem.1 hp i j (by omega) hj (by omega)
      simpa using this) (sortL l).length (Nat.le_refl _)
  refine ⟨h1, fun x => ?_⟩
  refine Iff.trans ?_ (sortL_mem l x)
  refine (h2 x).trans ⟨?_, ?_⟩
  · rintro ⟨j, hj, e⟩
    rw [hb j hj] at e
    rw [← e]; exact List.getElem_mem hj
  · intro hx
    obtain ⟨j, hj, e⟩ := List.getElem_of_mem hx
    exact ⟨j, hj, by rw [hb j hj]; exact e⟩
theorem setL_eq {l s : List Int} (h : Inc s) (hm : ∀ x, x ∈ s ↔ x ∈ l) : setL l = s := inc_ext (setL_facts l).1 h (fun x => ((setL_facts l).2 x).trans (hm x).symm)
theorem setL_length_le (l : List Int) : (setL l).length ≤ l.length := by
  have h := compact_len (sortL l)
  have h2 : (sortL l).length = l.length := by unfold sortL; exact List.length_mergeSort _
  unfold setL; omega
/-- A number put to its place among rising ones, once. -/
def putL : List Int → Int → List Int
  | [], n => [n]
  | x :: xs, n => if x ≥ n then (if x > n then n :: x :: xs else x :: xs) else x :: putL xs n
theorem putL_mem (l : List Int) (n x : Int) : x ∈ putL l n ↔ x = n ∨ x ∈ l := by
  induction l with
  | nil => simp [putL]
  | cons y ys ih =>
    unfold putL
    split
    · split
      · simp
      · have : y = n := by omega
        subst this
        simp
    · rw [List.mem_cons, ih, List.mem_cons]
      constructor
      · rintro (h | h | h) <;> simp [h]
      · rintro (h | h | h) <;> simp [h]
theorem putL_inc (l : List Int) (n : Int) (h : Inc l) : Inc (putL l n) := by
  induction l with
  | nil => simp [putL, Inc]
  | cons y ys ih =>
    obtain ⟨h1, h2⟩ := List.pairwise_cons.1 h
    unfold putL
    split
    · split
      · refine List.pairwise_cons.2 ⟨fun a ha => ?_, h⟩
        rcases List.mem_cons.1 ha with e | e
        · omega
        · have := h1 a e; omega
      · exact h
    · refine List.pairwise_cons.2 ⟨fun a ha => ?_, ih h2⟩
      rcases (putL_mem ys n a).1 ha with e | e
      · omega
      · exact h1 a e
theorem putL_length (l : List Int) (n : Int) : (putL l n).length ≤ l.length + 1 := by
  induction l with
  | nil => simp [putL]
  | cons y ys ih =>
    unfold putL
    split
    · split <;> simp
    · simp; omega
/-- Numbers put one after the other. -/
def putAll (l : List Int) : List Int := l.foldl putL []
theorem putAll_facts (l : List Int) : ∀ s, Inc s → Inc (l.foldl putL s) ∧ (∀ x, x ∈ l.foldl putL s ↔ x ∈ s ∨ x ∈ l) ∧ (l.foldl putL s).length ≤ s.length + l.length := by
  induction l with
  | nil => intro s h; simpa using h
  | cons y ys ih =>
    intro s h
    obtain ⟨h1, h2, h3⟩ := ih (putL s y) (putL_inc s y h)
    refine ⟨h1, fun x => ?_, ?_⟩
    · rw [List.foldl_cons, h2, putL_mem, List.mem_cons]
      constructor
      · rintro ((h | h) | h) <;> simp [h]
      · rintro (h | h | h) <;> simp [h]
    · rw [List.foldl_cons]
      have := putL_length s y
      simp; omega
theorem putAll_eq (l : List Int) : putAll l = setL l := by
  obtain ⟨h1, h2, _⟩ := putAll_facts l [] (by simp [Inc])
  exact (setL_eq h1 (fun x => by rw [h2]; simp)).symm
end
end Go.Proofs.YtdhkcnhmmiigoaaGreatDoor.Q
