/- Parts of the proof, laid together: contracts and lemmas; no conditions beyond those written. -/
import Derived.Test.YthaipkhgemachaaGreatDoorQx0
import Derived.Test.YthaipkhgemachaaGreatDoorQx1
import Derived.Test.YthaipkhgemachaaGreatDoorSupto
namespace Go.Proofs.YthaipkhgemachaaGreatDoor.Q
open Go.RowKit Go.Proofs.YthaipkhgemachaaGreatDoorW.PrintWords Go.Proofs.YthaipkhgemachaaGreatDoorW.PrintLast Go.Proofs.YthaipkhgemachaaGreatDoorW.PrintMore
attribute [local go_sem] max2_int min2_int max_two min_two max_three min_three max_four min_four   -- for this text's walks alone
set_option linter.unusedVariables false
set_option linter.unusedSimpArgs false
section
theorem Ev.ite_pos {α : Type} {c : Prop} [Decidable c] {a b : Nat → Option α} {r : α} (h : c) (k : Ev a r) : Ev (fun n => if c then a n else b n) r := by
  obtain ⟨K, hK⟩ := k
  exact ⟨K, fun n hn => by simp only [if_pos h]; exact hK n hn⟩
theorem Ev.ite_neg {α : Type} {c : Prop} [Decidable c] {a b : Nat → Option α} {r : α} (h : ¬ c) (k : Ev b r) : Ev (fun n => if c then a n else b n) r := by
  obtain ⟨K, hK⟩ := k
  exact ⟨K, fun n hn => by simp only [if_neg h]; exact hK n hn⟩
theorem Ev.const {α : Type} {x : Option α} {r : α} (h : x = some r) : Ev (fun _ => x) r := ⟨0, fun _ _ => h⟩
theorem Ev.cbind {α β : Type} {g : Option α} {f : Nat → α → Option β} {a : α} {r : β} (h : g = some a) (k : Ev (fun n => f n a) r) : Ev (fun n => g.bind (f n)) r := by
  subst h
  exact k
theorem Ev.eq {α : Type} {g : Nat → Option α} {r r' : α} (h : Ev g r) (e : r = r') : Ev g r' := e ▸ h
/-- A loop whose state at round i is known. -/
theorem Ev.up {α : Type} (G : Nat → Nat → Option α) (n : Nat) (r : α) (hn : Ev (G n) r) (hs : ∀ i, i < n → Ev (G (i + 1)) r → Ev (G i) r) : Ev (G 0) r := by
  have h : ∀ d, d ≤ n → Ev (G (n - d)) r := by
    intro d
    induction d with
    | zero => intro _; exact hn
    | succ d ih =>
      intro hd
      have h1 := ih (by omega)
      have h2 := hs (n - (d + 1)) (by omega)
      rw [show n - (d + 1) + 1 = n - d by omega] at h2
      exact h2 h1
  have h0 := h n (Nat.le_refl _)
  rwa [Nat.sub_self] at h0
/-- A loop with an invariant and a measure. -/
theorem Ev.inv {σ α : Type} (G : σ → Nat → Option α) (Post : α → Prop) (I : σ → Prop) (μ : σ → Nat)
    (h : ∀ s, I s → (∃ r, Post r ∧ Ev (G s) r) ∨ ∃ s', I s' ∧ μ s' < μ s ∧ ∀ r, Ev (G s') r → Ev (G s) r) (s : σ) (hs : I s) : ∃ r, Post r ∧ Ev (G s) r := by
  have key : ∀ m s, μ s ≤ m → I s → ∃ r, Post r ∧ Ev (G s) r := by
    intro m
    induction m with
    | zero =>
      intro s hm hs
      rcases h s hs with hr | ⟨s', _, hlt, _⟩
      · exact hr
      · omega
    | succ m ih =>
      intro s hm hs
      rcases h s hs with hr | ⟨s', hs', hlt, hk⟩
      · exact hr
      · obtain ⟨r, hp, he⟩ := ih s' (by omega) hs'
        exact ⟨r, hp, hk r he⟩
  exact key _ s (Nat.le_refl _) hs
theorem wrap64_succ {i : Nat} (h : i < 9223372036854775807) : wrap64 ((i : Int) + 1) = ((i + 1 : Nat) : Int) := by
  unfold wrap64
  omega
theorem wrap64_id {x : Int} (h0 : -9223372036854775808 ≤ x) (h1 : x ≤ 9223372036854775807) : wrap64 x = x := by
  unfold wrap64
  omega
theorem rd_nat (l : List Int) (i : Nat) : rd l (i : Int) = l.getD i 0 := rfl
theorem rd_lt (l : List Int) (i : Nat) (h : i < l.length) : rd l (i : Int) = l[i] := by
  show l.getD i 0 = l[i]
  rw [List.getD_eq_getElem?_getD, List.getElem?_eq_getElem h, Option.getD_some]
theorem take_succ_rd (l : List Int) (i : Nat) (h : i < l.length) : l.take (i + 1) = l.take i ++ [rd l (i : Int)] := by
  rw [rd_lt l i h, List.take_succ_eq_append_getElem h]
theorem drop_rd (l : List Int) (i : Nat) (h : i < l.length) : l.drop i = rd l (i : Int) :: l.drop (i + 1) := by
  rw [rd_lt l i h]
  exact List.drop_eq_getElem_cons h
theorem ret_bool {a b : Bool} (h : a = b) : Ending.returned (.bool a) = Ending.returned (.bool b) := by rw [h]
theorem ret_int {k : IntKind} {a b : Int} (h : a = b) : Ending.returned (.int k a) = Ending.returned (.int k b) := by rw [h]
theorem Ev.succ {α : Type} {g : Nat → Option α} {r : α} (h : Ev (fun k => g (k + 1)) r) : Ev g r := by
  obtain ⟨K, hK⟩ := h
  refine ⟨K + 1, fun k hk => ?_⟩
  obtain ⟨m, rfl⟩ : ∃ m, k = m + 1 := ⟨k - 1, by omega⟩
  exact hK m (by omega)
/-- A loop whose answer from round i on is known. -/
theorem Ev.down {α : Type} (G : Nat → Nat → Option α) (n : Nat) (R : Nat → α) (hn : Ev (G n) (R n)) (hs : ∀ i, i < n → Ev (G (i + 1)) (R (i + 1)) → Ev (G i) (R i)) : ∀ i, i ≤ n → Ev (G i) (R i) := by
  have h : ∀ d, d ≤ n → Ev (G (n - d)) (R (n - d)) := by
    intro d
    induction d with
    | zero => intro _; exact hn
    | succ d ih =>
      intro hd
      have h1 := ih (by omega)
      have h2 := hs (n - (d + 1)) (by omega)
      rw [show n - (d + 1) + 1 = n - d by omega] at h2
      exact h2 h1
  intro i hi
  have := h (n - i) (by omega)
  rwa [show n - (n - i) = i by omega] at this
/-- A loop that carries a state: round i turns s into step i s; Inv holds of it. -/
theorem Ev.fold {σ α : Type} (F : Nat → σ → Nat → Option α) (n : Nat) (step : Nat → σ → σ) (fin : σ → α) (Inv : Nat → σ → Prop)
    (hn : ∀ s, Inv n s → Ev (F n s) (fin s)) (hI : ∀ i s, i < n → Inv i s → Inv (i + 1) (step i s)) (hs : ∀ i s r, i < n → Inv i s → Ev (F (i + 1) (step i s)) r → Ev (F i s) r) :
    ∀ (d i : Nat) (s : σ), i + d = n → Inv i s → Ev (F i s) (fin ((List.range' i d).foldl (fun s i => step i s) s)) := by
  intro d
  induction d with
  | zero =>
    intro i s hi h
    obtain rfl : i = n := by omega
    exact hn s h
  | succ d ih =>
    intro i s hi h
    rw [List.range'_succ, List.foldl_cons]
    exact hs i s _ (by omega) h (ih (i + 1) _ (by omega) (hI i s (by omega) h))
theorem getD_drop_zero {α : Type} (l : List α) (d : α) (i : Nat) : (l.drop i).getD 0 d = l.getD i d := by
  simp [List.getD_eq_getElem?_getD]
end
section
theorem and255 (x : Int) : 0 ≤ Go.bits .and .u64 x 255 ∧ Go.bits .and .u64 x 255 ≤ 255 := by
  unfold Go.bits
  have h : (BitVec.ofInt IntKind.u64.bits x &&& BitVec.ofInt IntKind.u64.bits 255).toNat ≤ 255 := by
    rw [BitVec.toNat_and]; exact Nat.le_trans Nat.and_le_right (by decide)
  have key : ∀ n : Nat, n ≤ 255 → 0 ≤ IntKind.u64.wrap (n : Int) ∧ IntKind.u64.wrap (n : Int) ≤ 255 := by
    intro n hn
    rw [IntKind.wrap_u64]; omega
  exact key _ h
def Bytes (l : List Int) : Prop := ∀ y ∈ l, 0 ≤ y ∧ y ≤ 255
theorem Bytes.of {l : List Int} (h : ∀ y ∈ l, (Lit.int .u8 y).wf = true) : Bytes l := by
  intro y hy
  have := h y hy
  simp [Lit.wf] at this
  have e1 : IntKind.u8.min = 0 := by decide
  have e2 : IntKind.u8.max = 255 := by decide
  omega
theorem next_ok (l : List Int) (hb : Bytes l) (a : Nat) (sd : Int) (ha : a ≤ 1000000000000) : ∃ x s, spec_l00Src_next.f l (a : Int) sd = some (x, ((a + 1 : Nat) : Int), s) ∧ 0 ≤ x ∧ x ≤ 255 := by
  unfold spec_l00Src_next.f
  by_cases h : a < l.length
  · have hr := hb _ (List.getElem_mem h)
    rw [if_pos (by omega), if_pos (by omega), wrap64_succ (by omega), if_pos (by omega), rd_lt l a h, wrap64_id (x := l[a]) (by omega) (by omega)]
    exact ⟨_, _, rfl, hr.1, hr.2⟩
  · rw [if_neg (by omega), wrap64_succ (by omega), if_neg (by omega)]
    refine ⟨_, _, rfl, ?_⟩
    have hr := and255 ((IntKind.u64.wrap ((IntKind.u64.wrap (IntKind.u64.wrap (sd * 6364136223846793005))) + 1442695040888963407)) / 1099511627776)
    rw [wrap64_id (by omega) (by omega)]
    exact hr
theorem pick_ok (l : List Int) (hb : Bytes l) (a : Nat) (sd : Int) (n : Nat) (hn : 1 ≤ n) (h2 : n ≤ 200) (ha : a ≤ 1000000000000) :
    ∃ (x a' : Nat) (s : Int), spec_l00Src_pick.f l (a : Int) sd (n : Int) = some ((x : Int), (a' : Int), s) ∧ x < n ∧ a' ≤ a + 1 := by
  unfold spec_l00Src_pick.f
  by_cases h1 : n ≤ 1
  · exact ⟨0, a, sd, by rw [if_pos (by omega)]; rfl, by omega, by omega⟩
  · obtain ⟨x, s, e, h0, h255⟩ := next_ok l hb a sd ha
    rw [if_neg (by omega), e]
    have t0 := Int.tmod_nonneg (n : Int) h0
    have t1 := Int.tmod_lt_of_pos x (show (0 : Int) < (n : Int) by omega)
    refine ⟨(Int.tmod x (n : Int)).toNat, a + 1, s, ?_, by omega, by omega⟩
    rw [Option.bind_some]
    rw [if_neg (by omega), if_neg (by omega), Int.toNat_of_nonneg t0]
end
section
def sortL (l : List Int) : List Int := l.mergeSort fun x y => decide (x ≤ y)
end
section
def okOrd (n : Nat) (l : List Int) : Bool := decide (l.length = n) && decide (sortL l = upto (fun j => (j : Int)) l.length)
def okPol (H : List (List Int)) (M : List Int) : Bool := (decide (1 ≤ (M.length : Int)) && decide ((M.length : Int) ≤ 6)) && (decide ((H.length : Int) = (M.length : Int)) && (okOrd M.length M && H.all (okOrd M.length)))
end
section
/-- The place of the first element at which p holds, or -1. -/
def idxF {α : Type} (p : α → Bool) (l : List α) : Int := if l.findIdx p < l.length then (l.findIdx p : Int) else -1
theorem idxF_hit {α : Type} (p : α → Bool) (l : List α) (k : Nat) (hk : k < l.length) (h : p l[k] = true) (hb : ∀ j, (hj : j < k) → p (l[j]'(by omega)) = false) : idxF p l = k := by
  have e : l.findIdx p = k := (List.findIdx_eq hk).2 ⟨h, fun j hj => hb j hj⟩
  unfold idxF
  rw [e, if_pos hk]
theorem idxF_miss {α : Type} (p : α → Bool) (l : List α) (hb : ∀ j, (hj : j < l.length) → p (l[j]) = false) : idxF p l = -1 := by
  unfold idxF
  rw [if_neg]
  intro hlt
  have := hb _ hlt
  rw [List.findIdx_getElem (w := hlt)] at this
  simp at this
theorem idxF_nonneg {α : Type} (p : α → Bool) (l : List α) : decide (idxF p l ≥ 0) = l.any p := by
  rw [Bool.eq_iff_iff, decide_eq_true_iff, List.any_eq_true]
  unfold idxF
  constructor
  · intro h
    by_cases hlt : l.findIdx p < l.length
    · exact ⟨_, List.getElem_mem hlt, List.findIdx_getElem (w := hlt)⟩
    · rw [if_neg hlt] at h; omega
  · rintro ⟨x, hx, hp⟩
    rw [if_pos (List.findIdx_lt_length_of_exists ⟨x, hx, hp⟩)]
    omega
end
end Go.Proofs.YthaipkhgemachaaGreatDoor.Q
