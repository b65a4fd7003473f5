/- Parts of the proof, laid together: contracts and lemmas; no conditions beyond those written. -/
import Derived.Test.YtdhkcnhmmiigoaaGreatDoorQx0
import Derived.Test.YtdhkcnhmmiigoaaGreatDoorQx1
import Derived.Test.YtdhkcnhmmiigoaaGreatDoorSupto
import Derived.Deep.Slices
import Derived.Deep.Strs
import Derived.ChangeSame
import Derived.ChangeArms
namespace Go.Proofs.YtdhkcnhmmiigoaaGreatDoor.Q
open Go.RowKit Go.Proofs.YtdhkcnhmmiigoaaGreatDoorW.PrintWords Go.Proofs.YtdhkcnhmmiigoaaGreatDoorW.PrintLast Go.Proofs.YtdhkcnhmmiigoaaGreatDoorW.PrintMore
attribute [local go_sem] max2_int min2_int max_two min_two max_three min_three max_four min_four   -- for this text's walks alone
set_option linter.unusedVariables false
set_option linter.unusedSimpArgs false
section
def par (n : Int) : Int := (impl_parity.f n).getD 0
theorem par_small : ∀ n : Fin 64, impl_parity.f (n.val : Int) = some (par (n.val : Int)) ∧ (par (n.val : Int) = 0 ∨ par (n.val : Int) = 1) := by decide +kernel
theorem and_small : ∀ a b : Fin 64, 0 ≤ Go.bits .and .i64 (a.val : Int) (b.val : Int) ∧ Go.bits .and .i64 (a.val : Int) (b.val : Int) ≤ 63 := by decide +kernel
theorem fin_of {n : Int} (h0 : 0 ≤ n) (h1 : n ≤ 63) : ∃ m : Fin 64, n = (m.val : Int) := ⟨⟨n.toNat, by omega⟩, by show n = (n.toNat : Int); omega⟩
theorem and_range {a b : Int} (a0 : 0 ≤ a) (a1 : a ≤ 63) (b0 : 0 ≤ b) (b1 : b ≤ 63) : 0 ≤ Go.bits .and .i64 a b ∧ Go.bits .and .i64 a b ≤ 63 := by
  obtain ⟨m, rfl⟩ := fin_of a0 a1
  obtain ⟨n, rfl⟩ := fin_of b0 b1
  exact and_small m n
theorem impl_parity_f {n : Int} (h0 : 0 ≤ n) (h1 : n ≤ 63) : impl_parity.f n = some (par n) := by
  obtain ⟨m, rfl⟩ := fin_of h0 h1
  exact (par_small m).1
theorem par_01 {n : Int} (h0 : 0 ≤ n) (h1 : n ≤ 63) : par n = 0 ∨ par n = 1 := by
  obtain ⟨m, rfl⟩ := fin_of h0 h1
  exact (par_small m).2
/-- One more row's bit. -/
def setStep (rows : List Int) (a : Int) (i : Nat) (s : Int) : Int := Go.bits .or .i64 s (shl .i64 (par (Go.bits .and .i64 (rd rows (i : Int)) a)) (i : Int))
def setVal (rows : List Int) (a : Int) : Int := (List.range' 0 rows.length).foldl (fun s i => setStep rows a i s) 0
section
variable (rows : List Int) (a : Int) (hl : rows.length ≤ 3) (hr : ∀ x ∈ rows, 0 ≤ x ∧ x ≤ 63) (h0 : 0 ≤ a) (h1 : a ≤ 63)
include hl hr h0 h1
theorem ev_Index_set : Ev (fun k => impl_Index_set.f k rows a) (setVal rows a) := by
  unfold impl_Index_set.f
  refine Ev.fold (fun i s k => impl_Index_set.l0 k a s rows (rows.length : Int) (i : Int)) rows.length (setStep rows a) (fun s => s) (fun _ _ => True) ?_ (fun _ _ _ _ => trivial) ?_ rows.length 0 0 (by omega) trivial
  · intro s _
    apply Ev.succ
    simp only [impl_Index_set.l0]
    exact Ev.ite_neg (by omega) (Ev.now _)
  · intro i s r hi _ ih
    apply Ev.succ
    simp only [impl_Index_set.l0]
    have hm := hr (rd rows (i : Int)) (by rw [rd_lt rows i hi]; exact List.getElem_mem hi)
    have ha := and_range hm.1 hm.2 h0 h1
    refine Ev.ite_pos (by omega) (Ev.ite_pos (by omega) (Ev.ite_pos (by omega) (Ev.cbind (impl_parity_f ha.1 ha.2) ?_)))
    rw [wrap64_succ (by omega)]
    exact ih
end
end
section
theorem and255 (x : Int) : 0 ≤ Go.bits .and .u64 x 255 ∧ Go.bits .and .u64 x 255 ≤ 255 := by
  unfold Go.bits
  have h : (BitVec.ofInt IntKind.u64.bits x &&& BitVec.ofInt IntKind.u64.bits 255).toNat ≤ 255 := by
    rw [BitVec.toNat_and]; exact Nat.le_trans Nat.and_le_right (by decide)
  have key : ∀ n : Nat, n ≤ 255 → 0 ≤ IntKind.u64.wrap (n : Int) ∧ IntKind.u64.wrap (n : Int) ≤ 255 := by
    intro n hn
    rw [IntKind.wrap_u64]; omega
  exact key _ h
def Bytes (l : List Int) : Prop := ∀ y ∈ l, 0 ≤ y ∧ y ≤ 255
theorem Bytes.of {l : List Int} (h : ∀ y ∈ l, (Lit.int .u8 y).wf = true) : Bytes l := by
  intro y hy
  have := h y hy
  simp [Lit.wf] at this
  have e1 : IntKind.u8.min = 0 := by decide
  have e2 : IntKind.u8.max = 255 := by decide
  omega
theorem next_ok (l : List Int) (hb : Bytes l) (a : Nat) (sd : Int) (ha : a ≤ 1000000000000) : ∃ x s, spec_l00Src_next.f l (a : Int) sd = some (x, ((a + 1 : Nat) : Int), s) ∧ 0 ≤ x ∧ x ≤ 255 := by
  unfold spec_l00Src_next.f
  by_cases h : a < l.length
  · have hr := hb _ (List.getElem_mem h)
    rw [if_pos (by omega), if_pos (by omega), wrap64_succ (by omega), if_pos (by omega), rd_lt l a h, wrap64_id (x := l[a]) (by omega) (by omega)]
    exact ⟨_, _, rfl, hr.1, hr.2⟩
  · rw [if_neg (by omega), wrap64_succ (by omega), if_neg (by omega)]
    refine ⟨_, _, rfl, ?_⟩
    have hr := and255 ((IntKind.u64.wrap ((IntKind.u64.wrap (IntKind.u64.wrap (sd * 6364136223846793005))) + 1442695040888963407)) / 1099511627776)
    rw [wrap64_id (by omega) (by omega)]
    exact hr
theorem pick_ok (l : List Int) (hb : Bytes l) (a : Nat) (sd : Int) (n : Nat) (hn : 1 ≤ n) (h2 : n ≤ 200) (ha : a ≤ 1000000000000) :
    ∃ (x a' : Nat) (s : Int), spec_l00Src_pick.f l (a : Int) sd (n : Int) = some ((x : Int), (a' : Int), s) ∧ x < n ∧ a' ≤ a + 1 := by
  unfold spec_l00Src_pick.f
  by_cases h1 : n ≤ 1
  · exact ⟨0, a, sd, by rw [if_pos (by omega)]; rfl, by omega, by omega⟩
  · obtain ⟨x, s, e, h0, h255⟩ := next_ok l hb a sd ha
    rw [if_neg (by omega), e]
    have t0 := Int.tmod_nonneg (n : Int) h0
    have t1 := Int.tmod_lt_of_pos x (show (0 : Int) < (n : Int) by omega)
    refine ⟨(Int.tmod x (n : Int)).toNat, a + 1, s, ?_, by omega, by omega⟩
    rw [Option.bind_some]
    rw [if_neg (by omega), if_neg (by omega), Int.toNat_of_nonneg t0]
end
section
/-- Whatever can be read at type t is read by the kind d, and what is read is of Q. -/
def Opens (P : Program) {α : Type} (d : Kd α) (Q : α → Prop) (t : TypeId) : Prop :=
  P.cellsOf t = d.sz ∧ ∀ (H : Type) (enc : TypeId × Value → H) (w : World) (base : Nat) (spare : Nat → Bool) (held : Bool) (fuel : Nat) (cs : List Value) (x : DataW H × List MemPlace),
    DataW.trod enc P w base spare held fuel t cs = some x → ∃ y, Q y ∧ d.K w y cs
theorem Opens.int {P : Program} {k : IntKind} {t : TypeId} (ht : P.underlying t = some (.int k)) (hc : P.cellsOf t = 1) : Opens P (Kd.int k) (fun n => (Lit.int k n).wf = true) t := by
  refine ⟨hc, fun H enc w base spare held fuel cs x h => ?_⟩
  obtain ⟨n, rfl, _, hw⟩ := DataW.trod_int ht h
  exact ⟨n, hw, rfl⟩
theorem Opens.bool {P : Program} {t : TypeId} (ht : P.underlying t = some .bool) (hc : P.cellsOf t = 1) : Opens P Kd.bool (fun _ => True) t := by
  refine ⟨hc, fun H enc w base spare held fuel cs x h => ?_⟩
  obtain ⟨n, rfl, _⟩ := DataW.trod_bool ht h
  exact ⟨n, trivial, rfl⟩
theorem Opens.slice {P : Program} {α : Type} (z : α) {d : Kd α} {Q : α → Prop} {t e : TypeId} (ht : P.underlying t = some (.slice e)) (hc : P.cellsOf t = 1) (he : Opens P d Q e) : Opens P (Kd.slice e d) (fun l => ∀ y ∈ l, Q y) t := by
  refine ⟨hc, fun H enc w base spare held fuel cs x h => ?_⟩
  rcases Go.Deep.open_slice ht h with ⟨rfl, _⟩ | ⟨a, len, cap, m, n, D, Pl, rfl, hb, hl, hm, hmm, rfl, hel⟩
  · exact ⟨[], by simp, none, 0, rfl, Nat.le_refl _, Kd.C_nil _ _⟩
  · have hlm : len ≤ m := by rw [hmm]; split <;> omega
    have hmax : cap ≤ 9223372036854775807 := by unfold maxLen at hm; omega
    have hsz := he.1
    have key : ∀ i, i < len → ∃ y, Q y ∧ ∃ c : List Value, c.length = d.sz ∧ d.K w y c ∧ ∀ j u, c[j]? = some u → w.cell? (a.add (i * d.sz + j)) = some u := by
      intro i hi
      obtain ⟨cs', h1, h2⟩ := hel i (by omega)
      obtain ⟨y, hy, hK⟩ := he.2 _ _ _ _ _ _ _ _ _ h2
      obtain ⟨_, hlen, hcell⟩ := World.cells?_some h1
      rw [hsz] at hlen hcell
      refine ⟨y, hy, cs', hlen, hK, fun j u hu => ?_⟩
      have hj : j < d.sz := by rw [← hlen]; exact (List.getElem?_eq_some_iff.1 hu).1
      have := hcell j hj
      rw [hu] at this
      rw [← this]
      congr 1
      unfold Addr.add
      by_cases h0 : i * d.sz = 0
      · rw [h0]; simp
      · by_cases hj0 : j = 0
        · subst hj0; simp [h0]
        · have : ¬ (i * d.sz + j = 0) := by omega
          simp [h0, hj0, this]; omega
    haveI : Inhabited α := ⟨z⟩
    obtain ⟨f, hf⟩ := Go.Deep.choose_lt key
    refine ⟨(List.range len).map f, ?_, some a, cap, ?_, ?_, ?_, ?_, ?_⟩
    · intro y hy
      obtain ⟨i, hi, rfl⟩ := List.mem_map.1 hy
      exact (hf i (List.mem_range.1 hi)).1
    · simp
    · simpa using hl
    · simp
    · simp; omega
    · intro _
      refine ⟨a, rfl, fun j p hp => ?_⟩
      have hj : j < len := by have := (List.getElem?_eq_some_iff.1 hp).1; simpa using this
      rw [List.getElem?_map, List.getElem?_range hj] at hp
      simp only [Option.map_some, Option.some.injEq] at hp
      subst hp
      exact (hf j hj).2
theorem Opens.iso {P : Program} {α β : Type} {d : Kd α} {Q : α → Prop} {t : TypeId} (f : β → α) (g : α → β) (hfg : ∀ x, f (g x) = x) (h : Opens P d Q t) : Opens P (Kd.iso d f) (fun y => Q (f y)) t := by
  refine ⟨h.1, fun H enc w base spare held fuel cs x hx => ?_⟩
  obtain ⟨y, hy, hK⟩ := h.2 _ _ _ _ _ _ _ _ _ hx
  exact ⟨g y, by show Q (f (g y)); rw [hfg]; exact hy, by show d.K w (f (g y)) cs; rw [hfg]; exact hK⟩
theorem Opens.struct1 {P : Program} {α : Type} {d0 : Kd α} {Q0 : α → Prop} {t : TypeId} {f0 : Field} (ht : P.underlying t = some (.struct #[f0])) (o0 : f0.offset = 0) (hc : P.cellsOf t = d0.sz) (h0 : Opens P d0 Q0 f0.type) : Opens P d0 Q0 t := by
  refine ⟨hc, fun H enc w base spare held fuel cs x hx => ?_⟩
  obtain ⟨y0, n, _, hlen, k0⟩ := Go.ChangeShapes.trod_struct1 ht hx
  obtain ⟨a0, q0, K0⟩ := h0.2 _ _ _ _ _ _ _ _ _ k0
  rw [o0, List.drop_zero, h0.1, List.take_of_length_le (by omega)] at K0
  exact ⟨a0, q0, K0⟩
theorem Opens.struct2 {P : Program} {α β : Type} {d0 : Kd α} {d1 : Kd β} {Q0 : α → Prop} {Q1 : β → Prop} {t : TypeId} {f0 f1 : Field} (ht : P.underlying t = some (.struct #[f0, f1])) (o0 : f0.offset = 0) (o1 : f1.offset = d0.sz) (hc : P.cellsOf t = d0.sz + d1.sz)
    (h0 : Opens P d0 Q0 f0.type) (h1 : Opens P d1 Q1 f1.type) : Opens P (Kd.pair d0 d1) (fun x => Q0 x.1 ∧ Q1 x.2) t := by
  refine ⟨hc, fun H enc w base spare held fuel cs x hx => ?_⟩
  obtain ⟨y0, y1, n, _, hlen, k0, k1⟩ := Go.ChangeShapes.trod_struct2 ht hx
  obtain ⟨a0, q0, K0⟩ := h0.2 _ _ _ _ _ _ _ _ _ k0
  obtain ⟨a1, q1, K1⟩ := h1.2 _ _ _ _ _ _ _ _ _ k1
  rw [o0, List.drop_zero, h0.1] at K0
  rw [o1, h1.1, List.take_of_length_le (by rw [List.length_drop]; omega)] at K1
  exact ⟨(a0, a1), ⟨q0, q1⟩, _, _, (List.take_append_drop d0.sz cs).symm, K0, K1⟩
theorem Opens.struct3 {P : Program} {α β γ : Type} {d0 : Kd α} {d1 : Kd β} {d2 : Kd γ} {Q0 : α → Prop} {Q1 : β → Prop} {Q2 : γ → Prop} {t : TypeId} {f0 f1 f2 : Field} (ht : P.underlying t = some (.struct #[f0, f1, f2])) (o0 : f0.offset = 0) (o1 : f1.offset = d0.sz) (o2 : f2.offset = d0.sz + d1.sz)
    (hc : P.cellsOf t = d0.sz + (d1.sz + d2.sz)) (h0 : Opens P d0 Q0 f0.type) (h1 : Opens P d1 Q1 f1.type) (h2 : Opens P d2 Q2 f2.type) : Opens P (Kd.pair d0 (Kd.pair d1 d2)) (fun x => Q0 x.1 ∧ Q1 x.2.1 ∧ Q2 x.2.2) t := by
  refine ⟨hc, fun H enc w base spare held fuel cs x hx => ?_⟩
  obtain ⟨y0, y1, y2, n, _, hlen, k0, k1, k2⟩ := Go.Deep.trod_struct3 ht hx
  obtain ⟨a0, q0, K0⟩ := h0.2 _ _ _ _ _ _ _ _ _ k0
  obtain ⟨a1, q1, K1⟩ := h1.2 _ _ _ _ _ _ _ _ _ k1
  obtain ⟨a2, q2, K2⟩ := h2.2 _ _ _ _ _ _ _ _ _ k2
  rw [o0, List.drop_zero, h0.1] at K0
  rw [o1, h1.1] at K1
  rw [o2, h2.1, List.take_of_length_le (by rw [List.length_drop]; omega)] at K2
  refine ⟨(a0, a1, a2), ⟨q0, q1, q2⟩, _, _, (List.take_append_drop d0.sz cs).symm, K0, _, _, (List.take_append_drop d1.sz (cs.drop d0.sz)).symm, K1, ?_⟩
  rw [List.drop_drop]
  exact K2
/-- An argument, opened. -/
theorem Opens.trod {P : Program} {α : Type} {d : Kd α} {Q : α → Prop} {t : TypeId} (h : Opens P d Q t) {H : Type} {enc : TypeId × Value → H} {w : World} {base : Nat} {spare : Nat → Bool} {held : Bool} {v : Value} {x : DataW H} {ps : List MemPlace}
    (hx : DataW.Trod enc P w base spare held t v x ps) : ∃ y, Q y ∧ d.K w y v.cells.toList := by
  obtain ⟨fuel, hf⟩ := hx
  exact h.2 _ _ _ _ _ _ _ _ _ hf
theorem agg_of_toList {cs : Array Value} {l : List Value} (h : (Value.agg cs).cells.toList = l) : Value.agg cs = .agg l.toArray := by
  subst h
  simp [Value.cells]
/-- Each row that is read is short enough for memory. -/
theorem rows_len {k : IntKind} {e : Nat} {w : World} {A : Option Addr} {n : Nat} {xs : List (List Int)} (h : Kd.C (Kd.slice e (Kd.int k)) w A n xs) : ∀ y ∈ xs, y.length ≤ 9223372036854775807 := by
  intro y hy
  obtain ⟨j, hj, rfl⟩ := List.getElem_of_mem hy
  have hl : xs.length = n := h.1
  obtain ⟨_, c, _, _, hK, _⟩ := Kd.C_get h [] (j : Int) (by omega) (by omega)
  rw [Int.toNat_natCast, List.getD_eq_getElem?_getD, List.getElem?_eq_getElem hj, Option.getD_some] at hK
  obtain ⟨_, _, _, _, hC⟩ := hK
  exact hC.2.1
end
end Go.Proofs.YtdhkcnhmmiigoaaGreatDoor.Q
