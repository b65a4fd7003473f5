/- What an argument leads to, read as the contracts want it; no conditions. -/
import Derived.Test.YthaipkhgemachaaGreatDoorQx0
import Derived.Deep.Slices
import Derived.Deep.Strs
import Derived.ChangeSame
import Derived.ChangeArms
namespace Go.Proofs.YthaipkhgemachaaGreatDoor.Q
open Go.RowKit Go.Proofs.YthaipkhgemachaaGreatDoorW.PrintWords Go.Proofs.YthaipkhgemachaaGreatDoorW.PrintLast Go.Proofs.YthaipkhgemachaaGreatDoorW.PrintMore
attribute [local go_sem] max2_int min2_int max_two min_two max_three min_three max_four min_four   -- for this text's walks alone
set_option linter.unusedVariables false
set_option linter.unusedSimpArgs false

/-- Whatever can be read at type t is read by the kind d, and what is read is of Q. -/
def Opens (P : Program) {α : Type} (d : Kd α) (Q : α → Prop) (t : TypeId) : Prop :=
  P.cellsOf t = d.sz ∧ ∀ (H : Type) (enc : TypeId × Value → H) (w : World) (base : Nat) (spare : Nat → Bool) (held : Bool) (fuel : Nat) (cs : List Value) (x : DataW H × List MemPlace),
    DataW.trod enc P w base spare held fuel t cs = some x → ∃ y, Q y ∧ d.K w y cs
theorem Opens.int {P : Program} {k : IntKind} {t : TypeId} (ht : P.underlying t = some (.int k)) (hc : P.cellsOf t = 1) : Opens P (Kd.int k) (fun n => (Lit.int k n).wf = true) t := by
  refine ⟨hc, fun H enc w base spare held fuel cs x h => ?_⟩
  obtain ⟨n, rfl, _, hw⟩ := DataW.trod_int ht h
  exact ⟨n, hw, rfl⟩
theorem Opens.bool {P : Program} {t : TypeId} (ht : P.underlying t = some .bool) (hc : P.cellsOf t = 1) : Opens P Kd.bool (fun _ => True) t := by
  refine ⟨hc, fun H enc w base spare held fuel cs x h => ?_⟩
  obtain ⟨n, rfl, _⟩ := DataW.trod_bool ht h
  exact ⟨n, trivial, rfl⟩
theorem Opens.slice {P : Program} {α : Type} (z : α) {d : Kd α} {Q : α → Prop} {t e : TypeId} (ht : P.underlying t = some (.slice e)) (hc : P.cellsOf t = 1) (he : Opens P d Q e) : Opens P (Kd.slice e d) (fun l => ∀ y ∈ l, Q y) t := by
  refine ⟨hc, fun H enc w base spare held fuel cs x h => ?_⟩
  rcases Go.Deep.open_slice ht h with ⟨rfl, _⟩ | ⟨a, len, cap, m, n, D, Pl, rfl, hb, hl, hm, hmm, rfl, hel⟩
  · exact ⟨[], by simp, none, 0, rfl, Nat.le_refl _, Kd.C_nil _ _⟩
  · have hlm : len ≤ m := by rw [hmm]; split <;> omega
    have hmax : cap ≤ 9223372036854775807 := by unfold maxLen at hm; omega
    have hsz := he.1
    have key : ∀ i, i < len → ∃ y, Q y ∧ ∃ c : List Value, c.length = d.sz ∧ d.K w y c ∧ ∀ j u, c[j]? = some u → w.cell? (a.add (i * d.sz + j)) = some u := by
      intro i hi
      obtain ⟨cs', h1, h2⟩ := hel i (by omega)
      obtain ⟨y, hy, hK⟩ := he.2 _ _ _ _ _ _ _ _ _ h2
      obtain ⟨_, hlen, hcell⟩ := World.cells?_some h1
      rw [hsz] at hlen hcell
      refine ⟨y, hy, cs', hlen, hK, fun j u hu => ?_⟩
      have hj : j < d.sz := by rw [← hlen]; exact (List.getElem?_eq_some_iff.1 hu).1
      have := hcell j hj
      rw [hu] at this
      rw [← this]
      congr 1
      unfold Addr.add
      by_cases h0 : i * d.sz = 0
      · rw [h0]; simp
      · by_cases hj0 : j = 0
        · subst hj0; simp [h0]
        · have : ¬ (i * d.sz + j = 0) := by omega
          simp [h0, hj0, this]; omega
    haveI : Inhabited α := ⟨z⟩
    obtain ⟨f, hf⟩ := Go.Deep.choose_lt key
    refine ⟨(List.range len).map f, ?_, some a, cap, ?_, ?_, ?_, ?_, ?_⟩
    · intro y hy
      obtain ⟨i, hi, rfl⟩ := List.mem_map.1 hy
      exact (hf i (List.mem_range.1 hi)).1
    · simp
    · simpa using hl
    · simp
    · simp; omega
    · intro _
      refine ⟨a, rfl, fun j p hp => ?_⟩
      have hj : j < len := by have := (List.getElem?_eq_some_iff.1 hp).1; simpa using this
      rw [List.getElem?_map, List.getElem?_range hj] at hp
      simp only [Option.map_some, Option.some.injEq] at hp
      subst hp
      exact (hf j hj).2
theorem Opens.iso {P : Program} {α β : Type} {d : Kd α} {Q : α → Prop} {t : TypeId} (f : β → α) (g : α → β) (hfg : ∀ x, f (g x) = x) (h : Opens P d Q t) : Opens P (Kd.iso d f) (fun y => Q (f y)) t := by
  refine ⟨h.1, fun H enc w base spare held fuel cs x hx => ?_⟩
  obtain ⟨y, hy, hK⟩ := h.2 _ _ _ _ _ _ _ _ _ hx
  exact ⟨g y, by show Q (f (g y)); rw [hfg]; exact hy, by show d.K w (f (g y)) cs; rw [hfg]; exact hK⟩
theorem Opens.struct1 {P : Program} {α : Type} {d0 : Kd α} {Q0 : α → Prop} {t : TypeId} {f0 : Field} (ht : P.underlying t = some (.struct #[f0])) (o0 : f0.offset = 0) (hc : P.cellsOf t = d0.sz) (h0 : Opens P d0 Q0 f0.type) : Opens P d0 Q0 t := by
  refine ⟨hc, fun H enc w base spare held fuel cs x hx => ?_⟩
  obtain ⟨y0, n, _, hlen, k0⟩ := Go.ChangeShapes.trod_struct1 ht hx
  obtain ⟨a0, q0, K0⟩ := h0.2 _ _ _ _ _ _ _ _ _ k0
  rw [o0, List.drop_zero, h0.1, List.take_of_length_le (by omega)] at K0
  exact ⟨a0, q0, K0⟩
theorem Opens.struct2 {P : Program} {α β : Type} {d0 : Kd α} {d1 : Kd β} {Q0 : α → Prop} {Q1 : β → Prop} {t : TypeId} {f0 f1 : Field} (ht : P.underlying t = some (.struct #[f0, f1])) (o0 : f0.offset = 0) (o1 : f1.offset = d0.sz) (hc : P.cellsOf t = d0.sz + d1.sz)
    (h0 : Opens P d0 Q0 f0.type) (h1 : Opens P d1 Q1 f1.type) : Opens P (Kd.pair d0 d1) (fun x => Q0 x.1 ∧ Q1 x.2) t := by
  refine ⟨hc, fun H enc w base spare held fuel cs x hx => ?_⟩
  obtain ⟨y0, y1, n, _, hlen, k0, k1⟩ := Go.ChangeShapes.trod_struct2 ht hx
  obtain ⟨a0, q0, K0⟩ := h0.2 _ _ _ _ _ _ _ _ _ k0
  obtain ⟨a1, q1, K1⟩ := h1.2 _ _ _ _ _ _ _ _ _ k1
  rw [o0, List.drop_zero, h0.1] at K0
  rw [o1, h1.1, List.take_of_length_le (by rw [List.length_drop]; omega)] at K1
  exact ⟨(a0, a1), ⟨q0, q1⟩, _, _, (List.take_append_drop d0.sz cs).symm, K0, K1⟩
theorem Opens.struct3 {P : Program} {α β γ : Type} {d0 : Kd α} {d1 : Kd β} {d2 : Kd γ} {Q0 : α → Prop} {Q1 : β → Prop} {Q2 : γ → Prop} {t : TypeId} {f0 f1 f2 : Field} (ht : P.underlying t = some (.struct #[f0, f1, f2])) (o0 : f0.offset = 0) (o1 : f1.offset = d0.sz) (o2 : f2.offset = d0.sz + d1.sz)
    (hc : P.cellsOf t = d0.sz + (d1.sz + d2.sz)) (h0 : Opens P d0 Q0 f0.type) (h1 : Opens P d1 Q1 f1.type) (h2 : Opens P d2 Q2 f2.type) : Opens P (Kd.pair d0 (Kd.pair d1 d2)) (fun x => Q0 x.1 ∧ Q1 x.2.1 ∧ Q2 x.2.2) t := by
  refine ⟨hc, fun H enc w base spare held fuel cs x hx => ?_⟩
  obtain ⟨y0, y1, y2, n, _, hlen, k0, k1, k2⟩ := Go.Deep.trod_struct3 ht hx
  obtain ⟨a0, q0, K0⟩ := h0.2 _ _ _ _ _ _ _ _ _ k0
  obtain ⟨a1, q1, K1⟩ := h1.2 _ _ _ _ _ _ _ _ _ k1
  obtain ⟨a2, q2, K2⟩ := h2.2 _ _ _ _ _ _ _ _ _ k2
  rw [o0, List.drop_zero, h0.1] at K0
  rw [o1, h1.1] at K1
  rw [o2, h2.1, List.take_of_length_le (by rw [List.length_drop]; omega)] at K2
  refine ⟨(a0, a1, a2), ⟨q0, q1, q2⟩, _, _, (List.take_append_drop d0.sz cs).symm, K0, _, _, (List.take_append_drop d1.sz (cs.drop d0.sz)).symm, K1, ?_⟩
  rw [List.drop_drop]
  exact K2
/-- An argument, opened. -/
theorem Opens.trod {P : Program} {α : Type} {d : Kd α} {Q : α → Prop} {t : TypeId} (h : Opens P d Q t) {H : Type} {enc : TypeId × Value → H} {w : World} {base : Nat} {spare : Nat → Bool} {held : Bool} {v : Value} {x : DataW H} {ps : List MemPlace}
    (hx : DataW.Trod enc P w base spare held t v x ps) : ∃ y, Q y ∧ d.K w y v.cells.toList := by
  obtain ⟨fuel, hf⟩ := hx
  exact h.2 _ _ _ _ _ _ _ _ _ hf
theorem agg_of_toList {cs : Array Value} {l : List Value} (h : (Value.agg cs).cells.toList = l) : Value.agg cs = .agg l.toArray := by
  subst h
  simp [Value.cells]
/-- Each row that is read is short enough for memory. -/
theorem rows_len {k : IntKind} {e : Nat} {w : World} {A : Option Addr} {n : Nat} {xs : List (List Int)} (h : Kd.C (Kd.slice e (Kd.int k)) w A n xs) : ∀ y ∈ xs, y.length ≤ 9223372036854775807 := by
  intro y hy
  obtain ⟨j, hj, rfl⟩ := List.getElem_of_mem hy
  have hl : xs.length = n := h.1
  obtain ⟨_, c, _, _, hK, _⟩ := Kd.C_get h [] (j : Int) (by omega) (by omega)
  rw [Int.toNat_natCast, List.getD_eq_getElem?_getD, List.getElem?_eq_getElem hj, Option.getD_some] at hK
  obtain ⟨_, _, _, _, hC⟩ := hK
  exact hC.2.1
end Go.Proofs.YthaipkhgemachaaGreatDoor.Q
