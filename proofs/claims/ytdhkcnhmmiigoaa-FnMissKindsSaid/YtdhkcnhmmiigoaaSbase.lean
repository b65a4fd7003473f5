/- Parts of the proof, laid together: contracts and lemmas; no conditions beyond those written. -/
import Derived.Test.YtdhkcnhmmiigoaaQx0
import Derived.Shelf.Abstract
namespace Go.Proofs.Ytdhkcnhmmiigoaa.Q
open Go.RowKit Go.Proofs.YtdhkcnhmmiigoaaW.PrintWords Go.Proofs.YtdhkcnhmmiigoaaW.PrintLast Go.Proofs.YtdhkcnhmmiigoaaW.PrintMore
attribute [local go_sem] max2_int min2_int max_two min_two max_three min_three max_four min_four   -- for this text's walks alone
set_option linter.unusedVariables false
set_option linter.unusedSimpArgs false
section
theorem Ev.ite_pos {α : Type} {c : Prop} [Decidable c] {a b : Nat → Option α} {r : α} (h : c) (k : Ev a r) : Ev (fun n => if c then a n else b n) r := by
  obtain ⟨K, hK⟩ := k
  exact ⟨K, fun n hn => by simp only [if_pos h]; exact hK n hn⟩
theorem Ev.ite_neg {α : Type} {c : Prop} [Decidable c] {a b : Nat → Option α} {r : α} (h : ¬ c) (k : Ev b r) : Ev (fun n => if c then a n else b n) r := by
  obtain ⟨K, hK⟩ := k
  exact ⟨K, fun n hn => by simp only [if_neg h]; exact hK n hn⟩
theorem Ev.const {α : Type} {x : Option α} {r : α} (h : x = some r) : Ev (fun _ => x) r := ⟨0, fun _ _ => h⟩
theorem Ev.cbind {α β : Type} {g : Option α} {f : Nat → α → Option β} {a : α} {r : β} (h : g = some a) (k : Ev (fun n => f n a) r) : Ev (fun n => g.bind (f n)) r := by
  subst h
  exact k
theorem Ev.eq {α : Type} {g : Nat → Option α} {r r' : α} (h : Ev g r) (e : r = r') : Ev g r' := e ▸ h
/-- A loop whose state at round i is known. -/
theorem Ev.up {α : Type} (G : Nat → Nat → Option α) (n : Nat) (r : α) (hn : Ev (G n) r) (hs : ∀ i, i < n → Ev (G (i + 1)) r → Ev (G i) r) : Ev (G 0) r := by
  have h : ∀ d, d ≤ n → Ev (G (n - d)) r := by
    intro d
    induction d with
    | zero => intro _; exact hn
    | succ d ih =>
      intro hd
      have h1 := ih (by omega)
      have h2 := hs (n - (d + 1)) (by omega)
      rw [show n - (d + 1) + 1 = n - d by omega] at h2
      exact h2 h1
  have h0 := h n (Nat.le_refl _)
  rwa [Nat.sub_self] at h0
/-- A loop with an invariant and a measure. -/
theorem Ev.inv {σ α : Type} (G : σ → Nat → Option α) (Post : α → Prop) (I : σ → Prop) (μ : σ → Nat)
    (h : ∀ s, I s → (∃ r, Post r ∧ Ev (G s) r) ∨ ∃ s', I s' ∧ μ s' < μ s ∧ ∀ r, Ev (G s') r → Ev (G s) r) (s : σ) (hs : I s) : ∃ r, Post r ∧ Ev (G s) r := by
  have key : ∀ m s, μ s ≤ m → I s → ∃ r, Post r ∧ Ev (G s) r := by
    intro m
    induction m with
    | zero =>
      intro s hm hs
      rcases h s hs with hr | ⟨s', _, hlt, _⟩
      · exact hr
      · omega
    | succ m ih =>
      intro s hm hs
      rcases h s hs with hr | ⟨s', hs', hlt, hk⟩
      · exact hr
      · obtain ⟨r, hp, he⟩ := ih s' (by omega) hs'
        exact ⟨r, hp, hk r he⟩
  exact key _ s (Nat.le_refl _) hs
theorem wrap64_succ {i : Nat} (h : i < 9223372036854775807) : wrap64 ((i : Int) + 1) = ((i + 1 : Nat) : Int) := by
  unfold wrap64
  omega
theorem wrap64_id {x : Int} (h0 : -9223372036854775808 ≤ x) (h1 : x ≤ 9223372036854775807) : wrap64 x = x := by
  unfold wrap64
  omega
theorem rd_nat (l : List Int) (i : Nat) : rd l (i : Int) = l.getD i 0 := rfl
theorem rd_lt (l : List Int) (i : Nat) (h : i < l.length) : rd l (i : Int) = l[i] := by
  show l.getD i 0 = l[i]
  rw [List.getD_eq_getElem?_getD, List.getElem?_eq_getElem h, Option.getD_some]
theorem take_succ_rd (l : List Int) (i : Nat) (h : i < l.length) : l.take (i + 1) = l.take i ++ [rd l (i : Int)] := by
  rw [rd_lt l i h, List.take_succ_eq_append_getElem h]
theorem drop_rd (l : List Int) (i : Nat) (h : i < l.length) : l.drop i = rd l (i : Int) :: l.drop (i + 1) := by
  rw [rd_lt l i h]
  exact List.drop_eq_getElem_cons h
theorem ret_bool {a b : Bool} (h : a = b) : Ending.returned (.bool a) = Ending.returned (.bool b) := by rw [h]
theorem ret_int {k : IntKind} {a b : Int} (h : a = b) : Ending.returned (.int k a) = Ending.returned (.int k b) := by rw [h]
theorem Ev.succ {α : Type} {g : Nat → Option α} {r : α} (h : Ev (fun k => g (k + 1)) r) : Ev g r := by
  obtain ⟨K, hK⟩ := h
  refine ⟨K + 1, fun k hk => ?_⟩
  obtain ⟨m, rfl⟩ : ∃ m, k = m + 1 := ⟨k - 1, by omega⟩
  exact hK m (by omega)
/-- A loop whose answer from round i on is known. -/
theorem Ev.down {α : Type} (G : Nat → Nat → Option α) (n : Nat) (R : Nat → α) (hn : Ev (G n) (R n)) (hs : ∀ i, i < n → Ev (G (i + 1)) (R (i + 1)) → Ev (G i) (R i)) : ∀ i, i ≤ n → Ev (G i) (R i) := by
  have h : ∀ d, d ≤ n → Ev (G (n - d)) (R (n - d)) := by
    intro d
    induction d with
    | zero => intro _; exact hn
    | succ d ih =>
      intro hd
      have h1 := ih (by omega)
      have h2 := hs (n - (d + 1)) (by omega)
      rw [show n - (d + 1) + 1 = n - d by omega] at h2
      exact h2 h1
  intro i hi
  have := h (n - i) (by omega)
  rwa [show n - (n - i) = i by omega] at this
/-- A loop that carries a state: round i turns s into step i s; Inv holds of it. -/
theorem Ev.fold {σ α : Type} (F : Nat → σ → Nat → Option α) (n : Nat) (step : Nat → σ → σ) (fin : σ → α) (Inv : Nat → σ → Prop)
    (hn : ∀ s, Inv n s → Ev (F n s) (fin s)) (hI : ∀ i s, i < n → Inv i s → Inv (i + 1) (step i s)) (hs : ∀ i s r, i < n → Inv i s → Ev (F (i + 1) (step i s)) r → Ev (F i s) r) :
    ∀ (d i : Nat) (s : σ), i + d = n → Inv i s → Ev (F i s) (fin ((List.range' i d).foldl (fun s i => step i s) s)) := by
  intro d
  induction d with
  | zero =>
    intro i s hi h
    obtain rfl : i = n := by omega
    exact hn s h
  | succ d ih =>
    intro i s hi h
    rw [List.range'_succ, List.foldl_cons]
    exact hs i s _ (by omega) h (ih (i + 1) _ (by omega) (hI i s (by omega) h))
theorem getD_drop_zero {α : Type} (l : List α) (d : α) (i : Nat) : (l.drop i).getD 0 d = l.getD i d := by
  simp [List.getD_eq_getElem?_getD]
end
section
/-- What is asked of a predicate that is handed to the library. -/
def PredI (g : Nat) (lb : Array Value) (l : List Int) (p : Int → Bool) (w : World) : Prop :=
  ∀ (W : World) (x : Int), Below w.heap.size w W → x ∈ l → Calls Try.prog g (#[.int .i64 x] ++ lb) W fun e w' => e = .returned (.bool (p x)) ∧ Below W.heap.size W w'
theorem PredI.later {g : Nat} {lb : Array Value} {l : List Int} {p : Int → Bool} {w w1 : World} (h : PredI g lb l p w) (hb : Below w.heap.size w w1) : PredI g lb l p w1 :=
  fun W x hW hx => h W x (hb.trans (hW.mono hb.size)) hx
/-- The place of the first element at which p holds, or -1. -/
def idxF {α : Type} (p : α → Bool) (l : List α) : Int := if l.findIdx p < l.length then (l.findIdx p : Int) else -1
theorem idxF_hit {α : Type} (p : α → Bool) (l : List α) (k : Nat) (hk : k < l.length) (h : p l[k] = true) (hb : ∀ j, (hj : j < k) → p (l[j]'(by omega)) = false) : idxF p l = k := by
  have e : l.findIdx p = k := (List.findIdx_eq hk).2 ⟨h, fun j hj => hb j hj⟩
  unfold idxF
  rw [e, if_pos hk]
theorem idxF_miss {α : Type} (p : α → Bool) (l : List α) (hb : ∀ j, (hj : j < l.length) → p (l[j]) = false) : idxF p l = -1 := by
  unfold idxF
  rw [if_neg]
  intro hlt
  have := hb _ hlt
  rw [List.findIdx_getElem (w := hlt)] at this
  simp at this
theorem idxF_nonneg {α : Type} (p : α → Bool) (l : List α) : decide (idxF p l ≥ 0) = l.any p := by
  rw [Bool.eq_iff_iff, decide_eq_true_iff, List.any_eq_true]
  unfold idxF
  constructor
  · intro h
    by_cases hlt : l.findIdx p < l.length
    · exact ⟨_, List.getElem_mem hlt, List.findIdx_getElem (w := hlt)⟩
    · rw [if_neg hlt] at h; omega
  · rintro ⟨x, hx, hp⟩
    rw [if_pos (List.findIdx_lt_length_of_exists ⟨x, hx, hp⟩)]
    omega
set_option maxHeartbeats 2000000 in
set_option maxRecDepth 100000 in
theorem slices_IndexFunc_i64 (g : Nat) (lb : Array Value) (eg : ∀ args w, (callFunc g args).run Try.prog w = .ok (.enter g args) w) (p : Int → Bool) (A : Option Addr) (c : Nat) (l : List Int) (w : World) (hr : Kd.C (Kd.int .i64) w A l.length l) (hp : PredI g lb l p w) :
    Calls Try.prog 109 #[.slice A l.length c, .func (.func g) #[] lb] w fun e w' => e = .returned (.int .i64 (idxF p l)) ∧ Below w.heap.size w w' := by
  have HR := Aside0.mk hr
  have HP := Aside0.mk hp
  have hn : l.length ≤ 9223372036854775807 := hr.2.1
  clear hr hp
  go_enter Try.func109, Try.ntmps109
  go_wp2
  go_loopg [5, 8] l.length (fun gg _ s8 wr => ∃ kk : Nat, s8 = .int .i64 kk ∧ Aside0 (kk ≤ l.length ∧ l.length - kk ≤ gg) ∧ Aside0 (Below w.heap.size w wr) ∧ Aside0 (∀ j, (hj : j < kk) → (hl : j < l.length) → p l[j] = false))
  case atStart => exact ⟨0, rfl, ⟨⟨Nat.zero_le _, by omega⟩⟩, ⟨Below.refl _ _⟩, ⟨fun j hj => absurd hj (Nat.not_lt_zero _)⟩⟩
  case round =>
    obtain ⟨kk, rfl, HK, HB, AB⟩ := hrel
    by_cases hlt : kk < l.length
    · have hltz : (kk : Int) < (l.length : Int) := by omega
      have h0z : (0 : Int) ≤ (kk : Int) := by omega
      obtain ⟨ad, e, hx⟩ := Kd.at_int HR.out (kk : Int) h0z hltz
      cases e
      rw [rd_lt l kk hlt] at hx
      simp only [Int.toNat_natCast] at hx
      have hcell := (HB.out.cell (World.block_lt_of_cell? w _ hx)).trans hx
      clear hx
      have hcall := HP.out wr (l[kk]) HB.out (List.getElem_mem hlt)
      obtain ⟨y, hy⟩ : ∃ y, y = l[kk] := ⟨_, rfl⟩
      rw [← hy] at hcell hcall
      have HY := Aside0.mk hy
      clear hy
      cases hq : p y with
      | true =>
        rw [hq] at hcall
        have HQ := Aside0.mk hq
        clear hq
        go_wp2_with (go_at_fn g; refine hcall.mono ?_; rintro e w' ⟨rfl, hb⟩; have HB1 := Aside0.mk (below_step HB.out hb); clear hb)
        go_ret
        exact ⟨ret_int (idxF_hit p l kk hlt (by rw [← HY.out]; exact HQ.out) (fun j hj => AB.out j hj (by omega))).symm, HB1.out⟩
      | false =>
        rw [hq] at hcall
        have HQ := Aside0.mk hq
        clear hq
        go_wp2_with (go_at_fn g; refine hcall.mono ?_; rintro e w' ⟨rfl, hb⟩; have HB1 := Aside0.mk (below_step HB.out hb); clear hb)
        go_roundg (l.length - (kk + 1))
        case measure => have := HK.out; omega
        case rel =>
          refine ⟨kk + 1, by go_num, ⟨by omega⟩, HB1, ⟨fun j hj hl => ?_⟩⟩
          by_cases e : j = kk
          · subst e
            rw [← HY.out]; exact HQ.out
          · exact AB.out j (by omega) hl
    · have hltz : ¬ (kk : Int) < (l.length : Int) := by omega
      go_wp2
      go_ret
      exact ⟨ret_int (idxF_miss p l (fun j hj => AB.out j (by have := HK.out; omega) hj)).symm, HB.out⟩
set_option maxHeartbeats 2000000 in
theorem slices_ContainsFunc_i64 (g : Nat) (lb : Array Value) (eg : ∀ args w, (callFunc g args).run Try.prog w = .ok (.enter g args) w) (p : Int → Bool) (A : Option Addr) (c : Nat) (l : List Int) (w : World) (hr : Kd.C (Kd.int .i64) w A l.length l) (hp : PredI g lb l p w) :
    Calls Try.prog 105 #[.slice A l.length c, .func (.func g) #[] lb] w fun e w' => e = .returned (.bool (l.any p)) ∧ Below w.heap.size w w' := by
  rw [← idxF_nonneg]
  have H := slices_IndexFunc_i64 g lb eg p A c l w hr hp
  have HH := Aside0.mk H
  clear H hr hp eg
  generalize idxF p l = r at HH ⊢
  go_enter Try.func105, Try.ntmps105
  go_wp2_with (go_at_call 109; refine HH.out.mono ?_; rintro e w' ⟨rfl, hb⟩; have HB := Aside0.mk hb; clear hb)
  all_goals (go_ret; exact ⟨rfl, HB.out⟩)
end
end Go.Proofs.Ytdhkcnhmmiigoaa.Q
