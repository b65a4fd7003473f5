/- The duality of kept intervals and cuts, in plain numbers; no conditions beyond those written. -/
import Derived.Test.YtellojkbfnfacaaQx0
namespace Go.Proofs.Ytellojkbfnfacaa.Q
open Go.RowKit Go.Proofs.YtellojkbfnfacaaW.PrintWords Go.Proofs.YtellojkbfnfacaaW.PrintLast Go.Proofs.YtellojkbfnfacaaW.PrintMore
attribute [local go_sem] max2_int min2_int max_two min_two max_three min_three max_four min_four   -- for this text's walks alone
set_option linter.unusedVariables false
set_option linter.unusedSimpArgs false

def crN (e : Nat → Nat) (t i : Nat) : Bool := decide (i < t) && decide (t < e i)
theorem crN_iff {e : Nat → Nat} {t i : Nat} : crN e t i = true ↔ i < t ∧ t < e i := by unfold crN; simp
theorem countP_split {α : Type} (l : List α) (p q r : α → Bool) (h : ∀ x ∈ l, (if r x then 1 else 0) = (if p x then 1 else 0) + (if q x then 1 else (0 : Nat))) : l.countP r = l.countP p + l.countP q := by
  induction l with
  | nil => rfl
  | cons x l ih =>
    have hx := h x (by simp)
    have ih := ih (fun y hy => h y (by simp [hy]))
    rw [List.countP_cons, List.countP_cons, List.countP_cons]
    omega
theorem countP_le {α : Type} (l : List α) (p q : α → Bool) (h : ∀ x ∈ l, p x = true → q x = true) : l.countP p ≤ l.countP q := by
  induction l with
  | nil => exact Nat.le_refl _
  | cons x l ih =>
    have hx := h x (by simp)
    have ih := ih (fun y hy => h y (by simp [hy]))
    rw [List.countP_cons, List.countP_cons]
    cases hp : p x <;> cases hq : q x <;> simp_all <;> omega
theorem countP_eq {α : Type} (l : List α) (p q : α → Bool) (h : ∀ x ∈ l, p x = q x) : l.countP p = l.countP q := by
  have h1 := countP_le l p q (fun x hx e => by rw [← h x hx]; exact e)
  have h2 := countP_le l q p (fun x hx e => by rw [h x hx]; exact e)
  omega
theorem countP_full {α : Type} (l : List α) (p q : α → Bool) (h : ∀ x ∈ l, p x = true → q x = true) (hle : l.countP q ≤ l.countP p) : ∀ x ∈ l, q x = true → p x = true := by
  induction l with
  | nil => intro x hx; cases hx
  | cons y l ih =>
    have hy := h y (by simp)
    have hl := countP_le l p q (fun x hx => h x (by simp [hx]))
    rw [List.countP_cons, List.countP_cons] at hle
    intro x hx hq
    rcases List.mem_cons.1 hx with rfl | hx
    · cases hp : p x with
      | true => rfl
      | false => rw [hp, hq] at hle; simp at hle; omega
    · refine ih (fun z hz => h z (by simp [hz])) ?_ x hx hq
      cases hp : p y <;> cases hqy : q y <;> simp_all <;> omega
theorem countP_or {α : Type} (l : List α) (s p q : α → Bool) : l.countP (fun i => s i && (p i || q i)) ≤ l.countP (fun i => s i && p i) + l.countP (fun i => s i && q i) := by
  induction l with
  | nil => simp
  | cons x l ih =>
    rw [List.countP_cons, List.countP_cons, List.countP_cons]
    cases s x <;> cases p x <;> cases q x <;> simp <;> omega
theorem countP_cut {α : Type} (l : List α) (s p : α → Bool) : l.countP s ≤ l.countP (fun i => s i && p i) + l.countP (fun i => !p i) := by
  induction l with
  | nil => simp
  | cons x l ih =>
    rw [List.countP_cons, List.countP_cons, List.countP_cons]
    cases s x <;> cases p x <;> simp <;> omega
theorem exists_top : ∀ l : List Nat, l ≠ [] → ∃ m, m ∈ l ∧ ∀ x, x ∈ l → x ≤ m
  | [], h => absurd rfl h
  | [a], _ => ⟨a, by simp, fun x hx => by simp at hx; omega⟩
  | a :: b :: l, _ => by
    obtain ⟨m, hm, hx⟩ := exists_top (b :: l) (by simp)
    by_cases h : m ≤ a
    · exact ⟨a, by simp, fun x h2 => (List.mem_cons.1 h2).elim (fun e => by omega) (fun h3 => Nat.le_trans (hx x h3) h)⟩
    · exact ⟨m, List.mem_cons_of_mem _ hm, fun x h2 => (List.mem_cons.1 h2).elim (fun e => by omega) (fun h3 => hx x h3)⟩
section
variable (I : List Nat) (N c : Nat) (e : Nat → Nat) (acc : Nat → Bool)
theorem dual_cuts (hI : ∀ i ∈ I, e i < N) (hcap : ∀ t, t < N → I.countP (fun i => acc i && crN e t i) ≤ c)
    (hT : ∀ i ∈ I, acc i = false → ∃ t, i < t ∧ t < e i ∧ c ≤ I.countP fun k => (acc k && crN e t k) && decide (e k < e i)) :
    ∀ (d L : Nat), L ≤ d → L ≤ N → ∃ C : List Nat, C.Pairwise (· < ·) ∧ (∀ t ∈ C, t < L) ∧ (∀ i ∈ I, acc i = false → e i ≤ L → C.any (fun t => crN e t i) = true) ∧ (∀ i ∈ I, acc i = true → C.any (fun t => crN e t i) = true → e i ≤ L) ∧ I.countP (fun i => acc i && C.any fun t => crN e t i) = c * C.length := by
  intro d
  induction d with
  | zero =>
    intro L h1 h2
    refine ⟨[], List.Pairwise.nil, by simp, fun i hi ha he => ?_, by simp, by simp⟩
    obtain ⟨t, h3, h4, _⟩ := hT i hi ha
    omega
  | succ d ih =>
    intro L hLd hLN
    by_cases hno : (I.filter fun i => !acc i && decide (e i ≤ L)) = []
    · refine ⟨[], List.Pairwise.nil, by simp, fun i hi ha he => ?_, by simp, by simp⟩
      have := List.filter_eq_nil_iff.1 hno i hi
      simp [ha, he] at this
    · obtain ⟨i, him, hmax⟩ := exists_top _ hno
      obtain ⟨hi, hi2⟩ := List.mem_filter.1 him
      have ha : acc i = false := by cases h : acc i <;> simp_all
      have hei : e i ≤ L := by rw [ha] at hi2; simpa using hi2
      obtain ⟨t, h3, h4, h5⟩ := hT i hi ha
      obtain ⟨C, c1, c2, c3, c4, c5⟩ := ih t (by omega) (by omega)
      have hc := hcap t (by omega)
      have hfull := countP_full I (fun k => (acc k && crN e t k) && decide (e k < e i)) (fun k => acc k && crN e t k) (fun x _ h => by simp only [Bool.and_eq_true] at h ⊢; exact h.1) (by omega)
      have heq : I.countP (fun k => acc k && crN e t k) = c := by
        have := countP_le I (fun k => (acc k && crN e t k) && decide (e k < e i)) (fun k => acc k && crN e t k) (fun x _ h => by simp only [Bool.and_eq_true] at h ⊢; exact h.1)
        omega
      refine ⟨C ++ [t], List.pairwise_append.2 ⟨c1, by simp, fun a ha b hb => ?_⟩, fun x hx => ?_, fun k hk hak hek => ?_, fun k hk hak hx => ?_, ?_⟩
      · rw [List.mem_singleton.1 hb]; exact c2 a ha
      · rcases List.mem_append.1 hx with hx | hx
        · have := c2 x hx; omega
        · rw [List.mem_singleton.1 hx]; omega
      · have hki : k ≤ i := hmax k (List.mem_filter.2 ⟨hk, by simp [hak, hek]⟩)
        rw [List.any_append, Bool.or_eq_true]
        by_cases h6 : e k ≤ t
        · exact .inl (c3 k hk hak h6)
        · right
          simp only [List.any_cons, List.any_nil, Bool.or_false]
          exact crN_iff.2 ⟨by omega, by omega⟩
      · rw [List.any_append, Bool.or_eq_true] at hx
        rcases hx with hx | hx
        · have := c4 k hk hak hx; omega
        · simp only [List.any_cons, List.any_nil, Bool.or_false] at hx
          have := hfull k hk (by rw [hak, hx]; rfl)
          simp only [Bool.and_eq_true, decide_eq_true_eq] at this
          omega
      · rw [countP_split I (fun i => acc i && C.any fun t => crN e t i) (fun k => acc k && crN e t k) _ (fun k hk => ?_), c5, heq, List.length_append, List.length_singleton, Nat.mul_succ]
        rw [List.any_append]
        simp only [List.any_cons, List.any_nil, Bool.or_false]
        cases hak : acc k with
        | false => simp
        | true =>
          cases hx : C.any (fun t => crN e t k) with
          | false => simp
          | true =>
            have h7 := c4 k hk hak hx
            have h8 : crN e t k = false := by
              cases h9 : crN e t k with
              | false => rfl
              | true => have := (crN_iff.1 h9).2; omega
            simp [h8]
/-- The bound of cuts. -/
def bndN (C : List Nat) : Nat := c * C.length + I.countP fun i => !C.any fun t => crN e t i
theorem dual_strong (hI : ∀ i ∈ I, e i < N) (hcap : ∀ t, t < N → I.countP (fun i => acc i && crN e t i) ≤ c)
    (hT : ∀ i ∈ I, acc i = false → ∃ t, i < t ∧ t < e i ∧ c ≤ I.countP fun k => (acc k && crN e t k) && decide (e k < e i)) :
    ∃ C : List Nat, C.Pairwise (· < ·) ∧ (∀ t ∈ C, t < N) ∧ bndN I c e C = I.countP acc := by
  obtain ⟨C, c1, c2, c3, c4, c5⟩ := dual_cuts I N c e acc hI hcap hT N N (Nat.le_refl _) (Nat.le_refl _)
  refine ⟨C, c1, c2, ?_⟩
  unfold bndN
  rw [← c5]
  refine (countP_split I _ _ acc (fun k hk => ?_)).symm
  cases hx : C.any (fun t => crN e t k) with
  | true => simp
  | false =>
    cases hak : acc k with
    | true => simp
    | false =>
      have := c3 k hk hak (by have := hI k hk; omega)
      rw [hx] at this; cases this
theorem dual_sum (s : Nat → Bool) (hcap : ∀ t, t < N → I.countP (fun i => s i && crN e t i) ≤ c) : ∀ C : List Nat, (∀ t ∈ C, t < N) → I.countP (fun i => s i && C.any fun t => crN e t i) ≤ c * C.length
  | [], _ => by simp
  | t :: C, h => by
    have ih := dual_sum s hcap C (fun x hx => h x (by simp [hx]))
    have h1 := hcap t (h t (by simp))
    have h2 : I.countP (fun i => s i && (t :: C).any fun t => crN e t i) ≤ I.countP (fun i => s i && crN e t i) + I.countP (fun i => s i && C.any fun t => crN e t i) := by
      have := countP_or I s (crN e t) (fun i => C.any fun t => crN e t i)
      simpa only [List.any_cons] using this
    rw [List.length_cons, Nat.mul_succ]
    omega
/-- No set that can be kept has more than a bound. -/
theorem dual_weak (s : Nat → Bool) (hcap : ∀ t, t < N → I.countP (fun i => s i && crN e t i) ≤ c) (C : List Nat) (hC : ∀ t ∈ C, t < N) : I.countP s ≤ bndN I c e C := by
  have h1 := dual_sum I N c e s hcap C hC
  unfold bndN
  have h2 := countP_cut I s (fun i => C.any fun t => crN e t i)
  omega
/-- How many intervals lie between, from a place on that is told one higher. -/
def btN (a b : Nat) : Nat := I.countP fun i => decide (a ≤ i + 1) && decide (e i ≤ b)
def gapN (a : Nat) : List Nat → Nat
  | [] => btN I e a N
  | t :: D => btN I e a t + c + gapN (t + 1) D
theorem gap_bnd (hI : ∀ i ∈ I, i < e i ∧ e i < N) : ∀ (D : List Nat) (a : Nat), D.Pairwise (· < ·) → (∀ t ∈ D, a ≤ t) → gapN I N c e a D = c * D.length + I.countP (fun i => decide (a ≤ i + 1) && !D.any fun t => crN e t i)
  | [], a, _, _ => by
    unfold gapN btN
    rw [List.length_nil, Nat.mul_zero, Nat.zero_add]
    refine countP_eq I _ _ (fun i hi => ?_)
    have := hI i hi
    simp; omega
  | t :: D, a, hp, ha => by
    obtain ⟨hp1, hp2⟩ := List.pairwise_cons.1 hp
    have hat := ha t (by simp)
    unfold gapN
    rw [gap_bnd hI D (t + 1) hp2 (fun x hx => hp1 x hx), List.length_cons, Nat.mul_succ]
    have : I.countP (fun i => decide (a ≤ i + 1) && !(t :: D).any fun t => crN e t i) = btN I e a t + I.countP (fun i => decide (t + 1 ≤ i + 1) && !D.any fun t => crN e t i) := by
      unfold btN
      refine countP_split I _ _ _ (fun i hi => ?_)
      have hie := hI i hi
      rw [List.any_cons]
      by_cases h1 : e i ≤ t
      · have h2 : D.any (fun t => crN e t i) = false := by
          rw [List.any_eq_false]
          intro x hx hc
          have := (crN_iff.1 hc).2
          have := hp1 x hx
          omega
        have h3 : crN e t i = false := by
          cases h9 : crN e t i with
          | false => rfl
          | true => have := (crN_iff.1 h9).2; omega
        rw [h2, h3]
        by_cases h4 : a ≤ i + 1 <;> simp [h1, h4] <;> omega
      · by_cases h5 : t ≤ i
        · have h3 : crN e t i = false := by
            cases h9 : crN e t i with
            | false => rfl
            | true => have := (crN_iff.1 h9).1; omega
          rw [h3]
          have h6 : a ≤ i + 1 := by omega
          simp [h1, h5, h6]
        · have h3 : crN e t i = true := crN_iff.2 ⟨by omega, by omega⟩
          rw [h3]
          simp [h1, h5]
    rw [this]
    omega
theorem gap_all (hI : ∀ i ∈ I, i < e i ∧ e i < N) (D : List Nat) (hp : D.Pairwise (· < ·)) : gapN I N c e 0 D = bndN I c e D := by
  rw [gap_bnd I N c e hI D 0 hp (fun t _ => Nat.zero_le _)]
  unfold bndN
  congr 1
end
end Go.Proofs.Ytellojkbfnfacaa.Q
