/- Reduced rows: elimination and the least numbers of the span tell the same; no conditions beyond those written. -/
import Derived.Test.YtdhkcnhmmiigoaaQx0
import Derived.Test.YtdhkcnhmmiigoaaSupto
import Derived.Test.YtdhkcnhmmiigoaaSsetl
import Derived.Test.YtdhkcnhmmiigoaaSidxf
import Derived.Test.YtdhkcnhmmiigoaaSspanl
namespace Go.Proofs.Ytdhkcnhmmiigoaa.Q
open Go.RowKit Go.Proofs.YtdhkcnhmmiigoaaW.PrintWords Go.Proofs.YtdhkcnhmmiigoaaW.PrintLast Go.Proofs.YtdhkcnhmmiigoaaW.PrintMore
attribute [local go_sem] max2_int min2_int max_two min_two max_three min_three max_four min_four   -- for this text's walks alone
set_option linter.unusedVariables false
set_option linter.unusedSimpArgs false

/-- The span of rows. -/
def spN (l : List Nat) : List Nat := l.foldl (fun s r => s ++ s.map (fun y => y ^^^ r)) [0]
def ldN (n : Nat) : Nat := if n = 0 then 0 else 2 ^ Nat.log2 n
theorem spN_snoc (l : List Nat) (r : Nat) : spN (l ++ [r]) = spN l ++ (spN l).map (fun y => y ^^^ r) := by
  unfold spN; rw [List.foldl_append]; rfl
theorem xor_back (a b : Nat) : a ^^^ b ^^^ b = a := by rw [Nat.xor_assoc, Nat.xor_self, Nat.xor_zero]
theorem spN_mem (l : List Nat) (r y : Nat) : y ∈ spN (l ++ [r]) ↔ y ∈ spN l ∨ y ^^^ r ∈ spN l := by
  rw [spN_snoc, List.mem_append, List.mem_map]
  constructor
  · rintro (h | ⟨z, hz, rfl⟩)
    · exact .inl h
    · exact .inr (by rw [xor_back]; exact hz)
  · rintro (h | h)
    · exact .inl h
    · exact .inr ⟨_, h, xor_back y r⟩
theorem snoc_ind {P : List Nat → Prop} (h0 : P []) (hs : ∀ l r, P l → P (l ++ [r])) (l : List Nat) : P l := by
  have key : ∀ n (l : List Nat), l.length = n → P l := by
    intro n
    induction n with
    | zero => intro l h; rw [List.eq_nil_of_length_eq_zero h]; exact h0
    | succ n ih =>
      intro l h
      have hne : l ≠ [] := by intro e; rw [e] at h; simp at h
      have e := List.dropLast_concat_getLast hne
      rw [← e]
      exact hs _ _ (ih _ (by rw [List.length_dropLast]; omega))
  exact key _ l rfl
theorem spN_zero (l : List Nat) : 0 ∈ spN l := by
  induction l using snoc_ind with
  | h0 => simp [spN]
  | hs l r ih => exact (spN_mem l r 0).2 (.inl ih)
theorem spN_closed (l : List Nat) : ∀ x y, x ∈ spN l → y ∈ spN l → x ^^^ y ∈ spN l := by
  induction l using snoc_ind with
  | h0 => intro x y hx hy; simp [spN] at hx hy ⊢; simp [hx, hy]
  | hs l r ih =>
    intro x y hx hy
    rw [spN_mem] at hx hy ⊢
    rcases hx with hx | hx <;> rcases hy with hy | hy
    · exact .inl (ih _ _ hx hy)
    · exact .inr (by have := ih _ _ hx hy; rwa [← Nat.xor_assoc] at this)
    · refine .inr ?_
      have := ih _ _ hx hy
      rwa [Nat.xor_assoc, Nat.xor_comm r y, ← Nat.xor_assoc] at this
    · refine .inl ?_
      have := ih _ _ hx hy
      rwa [Nat.xor_comm y r, ← Nat.xor_assoc, xor_back] at this
theorem spN_gen (l : List Nat) : ∀ r, r ∈ l → r ∈ spN l := by
  induction l using snoc_ind with
  | h0 => intro r h; simp at h
  | hs l r ih =>
    intro x hx
    rw [spN_mem]
    rcases List.mem_append.1 hx with h | h
    · exact .inl (ih x h)
    · rw [List.mem_singleton.1 h, Nat.xor_self]; exact .inr (spN_zero l)
theorem spN_sub (l m : List Nat) (h : ∀ r ∈ l, r ∈ spN m) : ∀ y ∈ spN l, y ∈ spN m := by
  induction l using snoc_ind with
  | h0 => intro y hy; simp [spN] at hy; rw [hy]; exact spN_zero m
  | hs l r ih =>
    intro y hy
    have ih' := ih (fun x hx => h x (List.mem_append_left _ hx))
    rcases (spN_mem l r y).1 hy with hy | hy
    · exact ih' y hy
    · have := spN_closed m _ _ (ih' _ hy) (h r (by simp))
      rwa [xor_back] at this
def SameSpan (l m : List Nat) : Prop := ∀ y, y ∈ spN l ↔ y ∈ spN m
theorem SameSpan.of {l m : List Nat} (h1 : ∀ r ∈ l, r ∈ spN m) (h2 : ∀ r ∈ m, r ∈ spN l) : SameSpan l m := fun y => ⟨spN_sub l m h1 y, spN_sub m l h2 y⟩
theorem SameSpan.trans {l m n : List Nat} (h1 : SameSpan l m) (h2 : SameSpan m n) : SameSpan l n := fun y => (h1 y).trans (h2 y)
theorem SameSpan.symm {l m : List Nat} (h1 : SameSpan l m) : SameSpan m l := fun y => (h1 y).symm
theorem SameSpan.snoc {l m : List Nat} (h : SameSpan l m) (r : Nat) : SameSpan (l ++ [r]) (m ++ [r]) := fun y => by rw [spN_mem, spN_mem, h, h]
theorem SameSpan.perm {l m : List Nat} (h : ∀ x, x ∈ l ↔ x ∈ m) : SameSpan l m := SameSpan.of (fun r hr => spN_gen m r ((h r).1 hr)) (fun r hr => spN_gen l r ((h r).2 hr))
/-- Elimination. -/
def redX (out : List Nat) (row : Nat) : Nat := out.foldl (fun r o => if r &&& ldN o = 0 then r else r ^^^ o) row
def redOne (r o : Nat) : Nat := if o &&& ldN r = 0 then o else o ^^^ r
def redStep (out : List Nat) (row : Nat) : List Nat := if redX out row = 0 then out else out.map (redOne (redX out row)) ++ [redX out row]
def redN (rows : List Nat) : List Nat := rows.foldl redStep []
theorem redX_span (out : List Nat) : ∀ (out' : List Nat) (row : Nat), (∀ x ∈ out', x ∈ spN out) → row ^^^ out'.foldl (fun r o => if r &&& ldN o = 0 then r else r ^^^ o) row ∈ spN out := by
  intro out'
  induction out' with
  | nil => intro row _; rw [List.foldl_nil, Nat.xor_self]; exact spN_zero out
  | cons o os ih =>
    intro row h
    rw [List.foldl_cons]
    split
    · exact ih row (fun x hx => h x (List.mem_cons_of_mem _ hx))
    · have h1 := ih (row ^^^ o) (fun x hx => h x (List.mem_cons_of_mem _ hx))
      have h2 := spN_closed out _ _ h1 (h o List.mem_cons_self)
      rw [Nat.xor_assoc row o, Nat.xor_comm o (List.foldl _ _ _), ← Nat.xor_assoc, xor_back] at h2
      exact h2
theorem redStep_span (out : List Nat) (row : Nat) : SameSpan (redStep out row) (out ++ [row]) := by
  have hx : row ^^^ redX out row ∈ spN out := redX_span out out row (spN_gen out)
  unfold redStep
  obtain ⟨r, hr⟩ : ∃ r, r = redX out row := ⟨_, rfl⟩
  rw [← hr] at hx ⊢
  split
  · rename_i h0
    rw [h0, Nat.xor_zero] at hx
    exact SameSpan.of (fun x hx2 => (spN_mem _ _ _).2 (.inl (spN_gen out x hx2))) (fun x hx2 => by
      rcases List.mem_append.1 hx2 with h | h
      · exact spN_gen out x h
      · rw [List.mem_singleton.1 h]; exact hx)
  · have hrow : r ∈ spN (out ++ [row]) := (spN_mem _ _ _).2 (.inr (by rw [Nat.xor_comm]; exact hx))
    refine SameSpan.of (fun x hx2 => ?_) (fun x hx2 => ?_)
    · rcases List.mem_append.1 hx2 with h | h
      · obtain ⟨o, ho, rfl⟩ := List.mem_map.1 h
        have ho' : o ∈ spN (out ++ [row]) := (spN_mem _ _ _).2 (.inl (spN_gen out o ho))
        unfold redOne
        split
        · exact ho'
        · exact spN_closed _ _ _ ho' hrow
      · rw [List.mem_singleton.1 h]; exact hrow
    · have hr2 : r ∈ spN (out.map (redOne r) ++ [r]) := spN_gen _ _ (by simp)
      have ho : ∀ o ∈ out, o ∈ spN (out.map (redOne r) ++ [r]) := by
        intro o ho
        have h1 : redOne r o ∈ spN (out.map (redOne r) ++ [r]) := spN_gen _ _ (List.mem_append_left _ (List.mem_map.2 ⟨o, ho, rfl⟩))
        unfold redOne at h1 ⊢
        split at h1
        · exact h1
        · have := spN_closed _ _ _ h1 hr2
          rwa [xor_back] at this
      rcases List.mem_append.1 hx2 with h | h
      · exact ho x h
      · rw [List.mem_singleton.1 h]
        have h1 := spN_sub out _ ho _ hx
        have := spN_closed _ _ _ h1 hr2
        rwa [xor_back] at this
theorem redN_snoc (rows : List Nat) (r : Nat) : redN (rows ++ [r]) = redStep (redN rows) r := by unfold redN; rw [List.foldl_append]; rfl
theorem redN_span (rows : List Nat) : SameSpan (redN rows) rows := by
  induction rows using snoc_ind with
  | h0 => exact fun _ => Iff.rfl
  | hs l r ih => rw [redN_snoc]; exact (redStep_span _ _).trans (ih.snoc r)
theorem pair1 : ∀ r o : Fin 64, r.val &&& ldN o.val ≠ 0 → (r.val ^^^ o.val) &&& ldN o.val = 0 := by decide +kernel
theorem pair2 : ∀ r o : Fin 64, o.val ≠ 0 → r.val &&& ldN o.val = 0 → o.val &&& ldN r.val ≠ 0 → ldN (o.val ^^^ r.val) = ldN o.val ∧ o.val ^^^ r.val ≠ 0 := by decide +kernel
def Apart (a b : Nat) : Prop := a &&& ldN b = 0 ∧ b &&& ldN a = 0
def Redd (l : List Nat) : Prop := (∀ o ∈ l, o ≠ 0 ∧ o < 64) ∧ l.Pairwise Apart
theorem xor_and (a b c : Nat) (ha : a &&& c = 0) (hb : b &&& c = 0) : (a ^^^ b) &&& c = 0 := by rw [Nat.and_xor_distrib_right, ha, hb, Nat.xor_self]
theorem lt64 {a b : Nat} (ha : a < 64) (hb : b < 64) : a ^^^ b < 64 := Nat.xor_lt_two_pow (n := 6) ha hb
theorem redX_fold : ∀ (out : List Nat) (row : Nat) (P : List Nat), Redd (P ++ out) → row < 64 → (∀ o ∈ P, row &&& ldN o = 0) →
    out.foldl (fun r o => if r &&& ldN o = 0 then r else r ^^^ o) row < 64 ∧ ∀ o ∈ P ++ out, out.foldl (fun r o => if r &&& ldN o = 0 then r else r ^^^ o) row &&& ldN o = 0 := by
  intro out
  induction out with
  | nil => intro row P h hr hP; exact ⟨hr, by simpa using hP⟩
  | cons o os ih =>
    intro row P h hr hP
    have hb := h.1
    have ho : o < 64 := (hb o (by simp)).2
    have e : P ++ o :: os = (P ++ [o]) ++ os := by simp
    rw [e] at h ⊢
    rw [List.foldl_cons]
    split
    · rename_i h0
      refine ih row (P ++ [o]) h hr (fun x hx => ?_)
      rcases List.mem_append.1 hx with hx | hx
      · exact hP x hx
      · rw [List.mem_singleton.1 hx]; exact h0
    · rename_i h0
      refine ih (row ^^^ o) (P ++ [o]) h (lt64 hr ho) (fun x hx => ?_)
      rcases List.mem_append.1 hx with hx | hx
      · have hap : Apart x o := by
          have h2 := (List.pairwise_append.1 h.2).1
          exact (List.pairwise_append.1 h2).2.2 x hx o (by simp)
        exact xor_and _ _ _ (hP x hx) hap.2
      · rw [List.mem_singleton.1 hx]; exact pair1 ⟨row, hr⟩ ⟨o, ho⟩ h0
theorem redX_fact (out : List Nat) (row : Nat) (h : Redd out) (hr : row < 64) : redX out row < 64 ∧ ∀ o ∈ out, redX out row &&& ldN o = 0 := by
  have := redX_fold out row [] (by simpa using h) hr (by simp)
  simpa [redX] using this
theorem redOne_fact (r o : Nat) (hr : r < 64) (ho : o < 64) (h0 : o ≠ 0) (h : r &&& ldN o = 0) : redOne r o < 64 ∧ redOne r o ≠ 0 ∧ ldN (redOne r o) = ldN o ∧ redOne r o &&& ldN r = 0 := by
  unfold redOne
  split
  · rename_i h1; exact ⟨ho, h0, rfl, h1⟩
  · rename_i h1
    have := pair2 ⟨r, hr⟩ ⟨o, ho⟩ h0 h h1
    exact ⟨lt64 ho hr, this.2, this.1, pair1 ⟨o, ho⟩ ⟨r, hr⟩ h1⟩
theorem redStep_red (out : List Nat) (row : Nat) (h : Redd out) (hr : row < 64) : Redd (redStep out row) := by
  obtain ⟨h1, h2⟩ := redX_fact out row h hr
  unfold redStep
  obtain ⟨r, hr⟩ : ∃ r, r = redX out row := ⟨_, rfl⟩
  rw [← hr] at h1 h2 ⊢
  split
  · exact h
  · rename_i h0
    have hf : ∀ o ∈ out, redOne r o < 64 ∧ redOne r o ≠ 0 ∧ ldN (redOne r o) = ldN o ∧ redOne r o &&& ldN r = 0 := fun o ho => redOne_fact r o h1 (h.1 o ho).2 (h.1 o ho).1 (h2 o ho)
    refine ⟨fun x hx => ?_, List.pairwise_append.2 ⟨?_, by simp, fun x hx y hy => ?_⟩⟩
    · rcases List.mem_append.1 hx with hx | hx
      · obtain ⟨o, ho, rfl⟩ := List.mem_map.1 hx
        exact ⟨(hf o ho).2.1, (hf o ho).1⟩
      · rw [List.mem_singleton.1 hx]; exact ⟨h0, h1⟩
    · rw [List.pairwise_map]
      have key : ∀ a b, a ∈ out → b ∈ out → a &&& ldN b = 0 → redOne r a &&& ldN (redOne r b) = 0 := by
        intro a b ha hb hab
        rw [(hf b hb).2.2.1]
        unfold redOne
        split
        · exact hab
        · exact xor_and _ _ _ hab (h2 b hb)
      exact h.2.imp_of_mem (fun ha hb hab => ⟨key _ _ ha hb hab.1, key _ _ hb ha hab.2⟩)
    · obtain ⟨o, ho, rfl⟩ := List.mem_map.1 hx
      rw [List.mem_singleton.1 hy]
      exact ⟨(hf o ho).2.2.2, by rw [(hf o ho).2.2.1]; exact h2 o ho⟩
theorem redN_red (rows : List Nat) (hr : ∀ x ∈ rows, x < 64) : Redd (redN rows) := by
  induction rows using snoc_ind with
  | h0 => exact ⟨by simp [redN], by simp [redN]⟩
  | hs l r ih => rw [redN_snoc]; exact redStep_red _ _ (ih (fun x hx => hr x (by simp [hx]))) (hr r (by simp))
theorem redStep_len (out : List Nat) (row : Nat) : (redStep out row).length ≤ out.length + 1 := by
  unfold redStep; split <;> simp
theorem redN_len (rows : List Nat) : (redN rows).length ≤ rows.length := by
  induction rows using snoc_ind with
  | h0 => simp [redN]
  | hs l r ih => rw [redN_snoc]; have := redStep_len (redN l) r; simp; omega
def spL (l : List Nat) : List Int := putAll ((spN l).map fun (n : Nat) => (n : Int))
def specRed (s : List Int) : List Int := [32, 16, 8, 4, 2, 1].filterMap fun t => s.find? fun y => decide (0 < y) && decide ((ldN y.toNat : Int) = t)
def chk (l : List Nat) : Bool := specRed (spL l) == l.map (fun (n : Nat) => (n : Int)) && (spL l).length == 2 ^ l.length
def ap (a b : Nat) : Bool := a &&& ldN b == 0 && b &&& ldN a == 0
def chk3 (a b c : Nat) : Bool := !(c != 0 && ap b c && ap a c) || chk [a, b, c]
def chk2 (a b : Nat) : Bool := !(b != 0 && ap a b) || (chk [a, b] && (List.range b).all fun c => chk3 a b c)
set_option maxRecDepth 100000 in
theorem chk_none : chk [] = true := by decide +kernel
set_option maxRecDepth 100000 in
theorem chk_all : ((List.range 64).all fun a => a == 0 || (chk [a] && (List.range a).all fun b => chk2 a b)) = true := by decide +kernel

theorem ap_of {a b : Nat} (h : Apart a b) : ap a b = true := by unfold ap; simp [h.1, h.2]
theorem chk_of (M : List Nat) (h : Redd M) (hs : M.Pairwise (· > ·)) (hl : M.length ≤ 3) : chk M = true := by
  match M, h, hs, hl with
  | [], _, _, _ => exact chk_none
  | [a], h, _, _ =>
    have ha := h.1 a (by simp)
    have h1 := List.all_eq_true.1 chk_all a (List.mem_range.2 ha.2)
    have : (a == 0) = false := by simpa using ha.1
    rw [this, Bool.false_or, Bool.and_eq_true] at h1
    exact h1.1
  | [a, b], h, hs, _ =>
    have ha := h.1 a (by simp)
    have hb := h.1 b (by simp)
    have hab : Apart a b := by have := h.2; simp at this; exact this
    have hgt : b < a := by simpa using hs
    have h1 := List.all_eq_true.1 chk_all a (List.mem_range.2 ha.2)
    have : (a == 0) = false := by simpa using ha.1
    rw [this, Bool.false_or, Bool.and_eq_true] at h1
    have h2 := List.all_eq_true.1 h1.2 b (List.mem_range.2 hgt)
    unfold chk2 at h2
    have hbn : (b != 0) = true := by simpa using hb.1
    rw [hbn, ap_of hab] at h2
    simp only [Bool.and_self, Bool.not_true, Bool.false_or, Bool.and_eq_true] at h2
    exact h2.1
  | [a, b, c], h, hs, _ =>
    have ha := h.1 a (by simp)
    have hb := h.1 b (by simp)
    have hc := h.1 c (by simp)
    have hp := h.2
    simp only [List.pairwise_cons, List.mem_cons, List.not_mem_nil, or_false, forall_eq_or_imp, forall_eq] at hp hs
    have h1 := List.all_eq_true.1 chk_all a (List.mem_range.2 ha.2)
    have : (a == 0) = false := by simpa using ha.1
    rw [this, Bool.false_or, Bool.and_eq_true] at h1
    have h2 := List.all_eq_true.1 h1.2 b (List.mem_range.2 hs.1.1)
    unfold chk2 at h2
    have hbn : (b != 0) = true := by simpa using hb.1
    rw [hbn, ap_of hp.1.1] at h2
    simp only [Bool.and_self, Bool.not_true, Bool.false_or, Bool.and_eq_true] at h2
    have h3 := List.all_eq_true.1 h2.2 c (List.mem_range.2 hs.2.1)
    unfold chk3 at h3
    have hcn : (c != 0) = true := by simpa using hc.1
    rw [hcn, ap_of hp.2.1, ap_of hp.1.2] at h3
    simpa using h3
def desc (R : List Nat) : List Int := (sortL (R.map fun (n : Nat) => (n : Int))).reverse
theorem sortL_pair (l : List Int) : (sortL l).Pairwise (fun a b => a ≤ b) := by
  have hp : (sortL l).Pairwise (fun a b => decide (a ≤ b) = true) := List.pairwise_mergeSort (by simp; omega) (by simp; omega) l
  exact hp.imp (fun h => by simpa using h)
theorem Apart.ne {a b : Nat} (h : Apart a b) (ha : a ≠ 0) (ha2 : a < 64) : a ≠ b := by
  intro e
  subst e
  have key : ∀ x : Fin 64, x.val ≠ 0 → x.val &&& ldN x.val ≠ 0 := by decide +kernel
  exact key ⟨a, ha2⟩ ha h.1
theorem desc_facts (R : List Nat) (h : Redd R) : ∃ M : List Nat, desc R = M.map (fun (n : Nat) => (n : Int)) ∧ (∀ x, x ∈ M ↔ x ∈ R) ∧ M.Pairwise (· > ·) ∧ M.length = R.length := by
  have hperm : (sortL (R.map fun (n : Nat) => (n : Int))).Perm (R.map fun (n : Nat) => (n : Int)) := List.mergeSort_perm _ _
  have hnd : (R.map fun (n : Nat) => (n : Int)).Nodup := by
    unfold List.Nodup
    rw [List.pairwise_map]
    exact h.2.imp_of_mem (fun ha _ hab => by have := hab.ne (h.1 _ ha).1 (h.1 _ ha).2; omega)
  have hnn : ∀ y ∈ desc R, 0 ≤ y := fun y hy => by
    have hy2 : y ∈ R.map fun (n : Nat) => (n : Int) := hperm.mem_iff.1 (List.mem_reverse.1 hy)
    obtain ⟨n, _, rfl⟩ := List.mem_map.1 hy2
    omega
  have e : desc R = ((desc R).map Int.toNat).map (fun (n : Nat) => (n : Int)) := by
    rw [List.map_map]
    conv => lhs; rw [← List.map_id (desc R)]
    apply List.map_congr_left
    intro y hy
    have := hnn y hy
    show y = ((y.toNat : Nat) : Int)
    omega
  have hs : (desc R).Pairwise (fun a b => b < a) := by
    unfold desc
    rw [List.pairwise_reverse]
    have h1 := sortL_pair (R.map fun (n : Nat) => (n : Int))
    have h2 := hperm.nodup_iff.2 hnd
    exact (h1.and h2).imp (fun h => by omega)
  refine ⟨(desc R).map Int.toNat, e, fun x => ?_, ?_, ?_⟩
  · constructor
    · intro hx
      obtain ⟨y, hy, rfl⟩ := List.mem_map.1 hx
      have hy2 : y ∈ R.map fun (n : Nat) => (n : Int) := hperm.mem_iff.1 (List.mem_reverse.1 hy)
      obtain ⟨n, hn, rfl⟩ := List.mem_map.1 hy2
      simpa using hn
    · intro hx
      refine List.mem_map.2 ⟨(x : Int), List.mem_reverse.2 (hperm.mem_iff.2 (List.mem_map.2 ⟨x, hx, rfl⟩)), by simp⟩
  · rw [List.pairwise_map]
    exact hs.imp_of_mem (fun ha hb hab => by have := hnn _ ha; have := hnn _ hb; omega)
  · rw [List.length_map]; unfold desc; rw [List.length_reverse, hperm.length_eq, List.length_map]
theorem spI_spN (rows : List Int) (i : Nat) (hi : i ≤ rows.length) : spI rows i = (spN ((rows.take i).map Int.toNat)).map (fun (n : Nat) => (n : Int)) := by
  induction i with
  | zero => rfl
  | succ i ih =>
    rw [take_succ_rd rows i hi, List.map_append, List.map_cons, List.map_nil, spN_snoc, List.map_append, List.map_map]
    unfold spI
    rw [ih (by omega), List.map_map]
    rfl
theorem span_all (rows : List Int) : spI rows rows.length = (spN (rows.map Int.toNat)).map (fun (n : Nat) => (n : Int)) := by
  have := spI_spN rows rows.length (Nat.le_refl _)
  rwa [List.take_length] at this
/-- The reduced rows, as the reference tells them by the span, and as elimination tells them. -/
theorem red_all (rows : List Int) (hl : rows.length ≤ 3) (hr : ∀ x ∈ rows, 0 ≤ x ∧ x ≤ 63) : specRed (setL (spI rows rows.length)) = desc (redN (rows.map Int.toNat)) ∧ (setL (spI rows rows.length)).length = 2 ^ (redN (rows.map Int.toNat)).length := by
  have hR := redN_red (rows.map Int.toNat) (fun x hx => by obtain ⟨y, hy, rfl⟩ := List.mem_map.1 hx; have := hr y hy; omega)
  have hlen := redN_len (rows.map Int.toNat)
  rw [List.length_map] at hlen
  obtain ⟨M, hM, hmem, hgt, hml⟩ := desc_facts _ hR
  have hRM : Redd M := by
    refine ⟨fun o ho => hR.1 o ((hmem o).1 ho), ?_⟩
    have hsym : ∀ {a b : Nat}, Apart a b → Apart b a := fun h => ⟨h.2, h.1⟩
    have hall : ∀ a b, a ∈ redN (rows.map Int.toNat) → b ∈ redN (rows.map Int.toNat) → a ≠ b → Apart a b := by
      intro a b ha hb hab
      exact List.Pairwise.forall_of_forall_of_flip (R := fun a b => a ≠ b → Apart a b) (l := redN (rows.map Int.toNat)) (fun x _ h => absurd rfl h) (hR.2.imp (S := fun a b => a ≠ b → Apart a b) (fun h _ => h)) (hR.2.imp (S := flip fun a b => a ≠ b → Apart a b) (fun h _ => hsym h)) ha hb hab
    exact hgt.imp_of_mem (fun ha hb hab => hall _ _ ((hmem _).1 ha) ((hmem _).1 hb) (by omega))
  have hc := chk_of M hRM hgt (by omega)
  unfold chk at hc
  rw [Bool.and_eq_true, beq_iff_eq, beq_iff_eq] at hc
  have e : setL (spI rows rows.length) = spL M := by
    unfold spL
    rw [putAll_eq]
    apply setL_congr
    intro x
    rw [span_all]
    have hss : SameSpan (rows.map Int.toNat) M := (redN_span _).symm.trans (SameSpan.perm (fun x => (hmem x).symm))
    rw [List.mem_map, List.mem_map]
    constructor
    · rintro ⟨n, hn, rfl⟩; exact ⟨n, (hss n).1 hn, rfl⟩
    · rintro ⟨n, hn, rfl⟩; exact ⟨n, (hss n).2 hn, rfl⟩
  rw [e, hM, ← hml]
  exact hc
theorem desc_length (R : List Nat) : (desc R).length = R.length := by
  unfold desc
  rw [List.length_reverse, show (sortL (R.map fun (n : Nat) => (n : Int))).length = (R.map fun (n : Nat) => (n : Int)).length from List.length_mergeSort _, List.length_map]
end Go.Proofs.Ytdhkcnhmmiigoaa.Q
