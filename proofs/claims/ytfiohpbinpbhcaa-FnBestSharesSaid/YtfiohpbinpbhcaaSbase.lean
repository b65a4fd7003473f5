/- Words for rounds: what a loop comes to, with enough rounds; no conditions. -/
import Derived.Test.YtfiohpbinpbhcaaQx0
namespace Go.Proofs.Ytfiohpbinpbhcaa.Q
open Go.RowKit Go.Proofs.YtfiohpbinpbhcaaW.PrintWords Go.Proofs.YtfiohpbinpbhcaaW.PrintLast Go.Proofs.YtfiohpbinpbhcaaW.PrintMore
attribute [local go_sem] max2_int min2_int max_two min_two max_three min_three max_four min_four   -- for this text's walks alone
set_option linter.unusedVariables false
set_option linter.unusedSimpArgs false

theorem Ev.ite_pos {α : Type} {c : Prop} [Decidable c] {a b : Nat → Option α} {r : α} (h : c) (k : Ev a r) : Ev (fun n => if c then a n else b n) r := by
  obtain ⟨K, hK⟩ := k
  exact ⟨K, fun n hn => by simp only [if_pos h]; exact hK n hn⟩
theorem Ev.ite_neg {α : Type} {c : Prop} [Decidable c] {a b : Nat → Option α} {r : α} (h : ¬ c) (k : Ev b r) : Ev (fun n => if c then a n else b n) r := by
  obtain ⟨K, hK⟩ := k
  exact ⟨K, fun n hn => by simp only [if_neg h]; exact hK n hn⟩
theorem Ev.const {α : Type} {x : Option α} {r : α} (h : x = some r) : Ev (fun _ => x) r := ⟨0, fun _ _ => h⟩
theorem Ev.cbind {α β : Type} {g : Option α} {f : Nat → α → Option β} {a : α} {r : β} (h : g = some a) (k : Ev (fun n => f n a) r) : Ev (fun n => g.bind (f n)) r := by
  subst h
  exact k
theorem Ev.eq {α : Type} {g : Nat → Option α} {r r' : α} (h : Ev g r) (e : r = r') : Ev g r' := e ▸ h
/-- A loop whose state at round i is known. -/
theorem Ev.up {α : Type} (G : Nat → Nat → Option α) (n : Nat) (r : α) (hn : Ev (G n) r) (hs : ∀ i, i < n → Ev (G (i + 1)) r → Ev (G i) r) : Ev (G 0) r := by
  have h : ∀ d, d ≤ n → Ev (G (n - d)) r := by
    intro d
    induction d with
    | zero => intro _; exact hn
    | succ d ih =>
      intro hd
      have h1 := ih (by omega)
      have h2 := hs (n - (d + 1)) (by omega)
      rw [show n - (d + 1) + 1 = n - d by omega] at h2
      exact h2 h1
  have h0 := h n (Nat.le_refl _)
  rwa [Nat.sub_self] at h0
/-- A loop with an invariant and a measure. -/
theorem Ev.inv {σ α : Type} (G : σ → Nat → Option α) (Post : α → Prop) (I : σ → Prop) (μ : σ → Nat)
    (h : ∀ s, I s → (∃ r, Post r ∧ Ev (G s) r) ∨ ∃ s', I s' ∧ μ s' < μ s ∧ ∀ r, Ev (G s') r → Ev (G s) r) (s : σ) (hs : I s) : ∃ r, Post r ∧ Ev (G s) r := by
  have key : ∀ m s, μ s ≤ m → I s → ∃ r, Post r ∧ Ev (G s) r := by
    intro m
    induction m with
    | zero =>
      intro s hm hs
      rcases h s hs with hr | ⟨s', _, hlt, _⟩
      · exact hr
      · omega
    | succ m ih =>
      intro s hm hs
      rcases h s hs with hr | ⟨s', hs', hlt, hk⟩
      · exact hr
      · obtain ⟨r, hp, he⟩ := ih s' (by omega) hs'
        exact ⟨r, hp, hk r he⟩
  exact key _ s (Nat.le_refl _) hs
theorem wrap64_succ {i : Nat} (h : i < 9223372036854775807) : wrap64 ((i : Int) + 1) = ((i + 1 : Nat) : Int) := by
  unfold wrap64
  omega
theorem wrap64_id {x : Int} (h0 : -9223372036854775808 ≤ x) (h1 : x ≤ 9223372036854775807) : wrap64 x = x := by
  unfold wrap64
  omega
theorem rd_nat (l : List Int) (i : Nat) : rd l (i : Int) = l.getD i 0 := rfl
theorem rd_lt (l : List Int) (i : Nat) (h : i < l.length) : rd l (i : Int) = l[i] := by
  show l.getD i 0 = l[i]
  rw [List.getD_eq_getElem?_getD, List.getElem?_eq_getElem h, Option.getD_some]
theorem take_succ_rd (l : List Int) (i : Nat) (h : i < l.length) : l.take (i + 1) = l.take i ++ [rd l (i : Int)] := by
  rw [rd_lt l i h, List.take_succ_eq_append_getElem h]
theorem drop_rd (l : List Int) (i : Nat) (h : i < l.length) : l.drop i = rd l (i : Int) :: l.drop (i + 1) := by
  rw [rd_lt l i h]
  exact List.drop_eq_getElem_cons h
theorem ret_bool {a b : Bool} (h : a = b) : Ending.returned (.bool a) = Ending.returned (.bool b) := by rw [h]
theorem ret_int {k : IntKind} {a b : Int} (h : a = b) : Ending.returned (.int k a) = Ending.returned (.int k b) := by rw [h]
theorem Ev.succ {α : Type} {g : Nat → Option α} {r : α} (h : Ev (fun k => g (k + 1)) r) : Ev g r := by
  obtain ⟨K, hK⟩ := h
  refine ⟨K + 1, fun k hk => ?_⟩
  obtain ⟨m, rfl⟩ : ∃ m, k = m + 1 := ⟨k - 1, by omega⟩
  exact hK m (by omega)
/-- A loop whose answer from round i on is known. -/
theorem Ev.down {α : Type} (G : Nat → Nat → Option α) (n : Nat) (R : Nat → α) (hn : Ev (G n) (R n)) (hs : ∀ i, i < n → Ev (G (i + 1)) (R (i + 1)) → Ev (G i) (R i)) : ∀ i, i ≤ n → Ev (G i) (R i) := by
  have h : ∀ d, d ≤ n → Ev (G (n - d)) (R (n - d)) := by
    intro d
    induction d with
    | zero => intro _; exact hn
    | succ d ih =>
      intro hd
      have h1 := ih (by omega)
      have h2 := hs (n - (d + 1)) (by omega)
      rw [show n - (d + 1) + 1 = n - d by omega] at h2
      exact h2 h1
  intro i hi
  have := h (n - i) (by omega)
  rwa [show n - (n - i) = i by omega] at this
/-- A loop that carries a state: round i turns s into step i s; Inv holds of it. -/
theorem Ev.fold {σ α : Type} (F : Nat → σ → Nat → Option α) (n : Nat) (step : Nat → σ → σ) (fin : σ → α) (Inv : Nat → σ → Prop)
    (hn : ∀ s, Inv n s → Ev (F n s) (fin s)) (hI : ∀ i s, i < n → Inv i s → Inv (i + 1) (step i s)) (hs : ∀ i s r, i < n → Inv i s → Ev (F (i + 1) (step i s)) r → Ev (F i s) r) :
    ∀ (d i : Nat) (s : σ), i + d = n → Inv i s → Ev (F i s) (fin ((List.range' i d).foldl (fun s i => step i s) s)) := by
  intro d
  induction d with
  | zero =>
    intro i s hi h
    obtain rfl : i = n := by omega
    exact hn s h
  | succ d ih =>
    intro i s hi h
    rw [List.range'_succ, List.foldl_cons]
    exact hs i s _ (by omega) h (ih (i + 1) _ (by omega) (hI i s (by omega) h))
theorem getD_drop_zero {α : Type} (l : List α) (d : α) (i : Nat) : (l.drop i).getD 0 d = l.getD i d := by
  simp [List.getD_eq_getElem?_getD]
end Go.Proofs.Ytfiohpbinpbhcaa.Q
