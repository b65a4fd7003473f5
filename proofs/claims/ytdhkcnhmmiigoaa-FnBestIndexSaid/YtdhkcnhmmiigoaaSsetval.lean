/- Parts of the proof, laid together: contracts and lemmas; no conditions beyond those written. -/
import Derived.Test.YtdhkcnhmmiigoaaQx0
import Derived.Test.YtdhkcnhmmiigoaaQx2
import Derived.Test.YtdhkcnhmmiigoaaSupto
import Derived.Test.YtdhkcnhmmiigoaaQx1
namespace Go.Proofs.Ytdhkcnhmmiigoaa.Q
open Go.RowKit Go.Proofs.YtdhkcnhmmiigoaaW.PrintWords Go.Proofs.YtdhkcnhmmiigoaaW.PrintLast Go.Proofs.YtdhkcnhmmiigoaaW.PrintMore
attribute [local go_sem] max2_int min2_int max_two min_two max_three min_three max_four min_four   -- for this text's walks alone
set_option linter.unusedVariables false
set_option linter.unusedSimpArgs false
section
def par (n : Int) : Int := (impl_parity.f n).getD 0
theorem par_small : ∀ n : Fin 64, impl_parity.f (n.val : Int) = some (par (n.val : Int)) ∧ (par (n.val : Int) = 0 ∨ par (n.val : Int) = 1) := by decide +kernel
theorem and_small : ∀ a b : Fin 64, 0 ≤ Go.bits .and .i64 (a.val : Int) (b.val : Int) ∧ Go.bits .and .i64 (a.val : Int) (b.val : Int) ≤ 63 := by decide +kernel
theorem fin_of {n : Int} (h0 : 0 ≤ n) (h1 : n ≤ 63) : ∃ m : Fin 64, n = (m.val : Int) := ⟨⟨n.toNat, by omega⟩, by show n = (n.toNat : Int); omega⟩
theorem and_range {a b : Int} (a0 : 0 ≤ a) (a1 : a ≤ 63) (b0 : 0 ≤ b) (b1 : b ≤ 63) : 0 ≤ Go.bits .and .i64 a b ∧ Go.bits .and .i64 a b ≤ 63 := by
  obtain ⟨m, rfl⟩ := fin_of a0 a1
  obtain ⟨n, rfl⟩ := fin_of b0 b1
  exact and_small m n
theorem impl_parity_f {n : Int} (h0 : 0 ≤ n) (h1 : n ≤ 63) : impl_parity.f n = some (par n) := by
  obtain ⟨m, rfl⟩ := fin_of h0 h1
  exact (par_small m).1
theorem par_01 {n : Int} (h0 : 0 ≤ n) (h1 : n ≤ 63) : par n = 0 ∨ par n = 1 := by
  obtain ⟨m, rfl⟩ := fin_of h0 h1
  exact (par_small m).2
/-- One more row's bit. -/
def setStep (rows : List Int) (a : Int) (i : Nat) (s : Int) : Int := Go.bits .or .i64 s (shl .i64 (par (Go.bits .and .i64 (rd rows (i : Int)) a)) (i : Int))
def setVal (rows : List Int) (a : Int) : Int := (List.range' 0 rows.length).foldl (fun s i => setStep rows a i s) 0
section
variable (rows : List Int) (a : Int) (hl : rows.length ≤ 3) (hr : ∀ x ∈ rows, 0 ≤ x ∧ x ≤ 63) (h0 : 0 ≤ a) (h1 : a ≤ 63)
include hl hr h0 h1
theorem ev_Index_set : Ev (fun k => impl_Index_set.f k rows a) (setVal rows a) := by
  unfold impl_Index_set.f
  refine Ev.fold (fun i s k => impl_Index_set.l0 k a s rows (rows.length : Int) (i : Int)) rows.length (setStep rows a) (fun s => s) (fun _ _ => True) ?_ (fun _ _ _ _ => trivial) ?_ rows.length 0 0 (by omega) trivial
  · intro s _
    apply Ev.succ
    simp only [impl_Index_set.l0]
    exact Ev.ite_neg (by omega) (Ev.now _)
  · intro i s r hi _ ih
    apply Ev.succ
    simp only [impl_Index_set.l0]
    have hm := hr (rd rows (i : Int)) (by rw [rd_lt rows i hi]; exact List.getElem_mem hi)
    have ha := and_range hm.1 hm.2 h0 h1
    refine Ev.ite_pos (by omega) (Ev.ite_pos (by omega) (Ev.ite_pos (by omega) (Ev.cbind (impl_parity_f ha.1 ha.2) ?_)))
    rw [wrap64_succ (by omega)]
    exact ih
end
end
section
theorem and255 (x : Int) : 0 ≤ Go.bits .and .u64 x 255 ∧ Go.bits .and .u64 x 255 ≤ 255 := by
  unfold Go.bits
  have h : (BitVec.ofInt IntKind.u64.bits x &&& BitVec.ofInt IntKind.u64.bits 255).toNat ≤ 255 := by
    rw [BitVec.toNat_and]; exact Nat.le_trans Nat.and_le_right (by decide)
  have key : ∀ n : Nat, n ≤ 255 → 0 ≤ IntKind.u64.wrap (n : Int) ∧ IntKind.u64.wrap (n : Int) ≤ 255 := by
    intro n hn
    rw [IntKind.wrap_u64]; omega
  exact key _ h
def Bytes (l : List Int) : Prop := ∀ y ∈ l, 0 ≤ y ∧ y ≤ 255
theorem Bytes.of {l : List Int} (h : ∀ y ∈ l, (Lit.int .u8 y).wf = true) : Bytes l := by
  intro y hy
  have := h y hy
  simp [Lit.wf] at this
  have e1 : IntKind.u8.min = 0 := by decide
  have e2 : IntKind.u8.max = 255 := by decide
  omega
theorem next_ok (l : List Int) (hb : Bytes l) (a : Nat) (sd : Int) (ha : a ≤ 1000000000000) : ∃ x s, spec_l00Src_next.f l (a : Int) sd = some (x, ((a + 1 : Nat) : Int), s) ∧ 0 ≤ x ∧ x ≤ 255 := by
  unfold spec_l00Src_next.f
  by_cases h : a < l.length
  · have hr := hb _ (List.getElem_mem h)
    rw [if_pos (by omega), if_pos (by omega), wrap64_succ (by omega), if_pos (by omega), rd_lt l a h, wrap64_id (x := l[a]) (by omega) (by omega)]
    exact ⟨_, _, rfl, hr.1, hr.2⟩
  · rw [if_neg (by omega), wrap64_succ (by omega), if_neg (by omega)]
    refine ⟨_, _, rfl, ?_⟩
    have hr := and255 ((IntKind.u64.wrap ((IntKind.u64.wrap (IntKind.u64.wrap (sd * 6364136223846793005))) + 1442695040888963407)) / 1099511627776)
    rw [wrap64_id (by omega) (by omega)]
    exact hr
theorem pick_ok (l : List Int) (hb : Bytes l) (a : Nat) (sd : Int) (n : Nat) (hn : 1 ≤ n) (h2 : n ≤ 200) (ha : a ≤ 1000000000000) :
    ∃ (x a' : Nat) (s : Int), spec_l00Src_pick.f l (a : Int) sd (n : Int) = some ((x : Int), (a' : Int), s) ∧ x < n ∧ a' ≤ a + 1 := by
  unfold spec_l00Src_pick.f
  by_cases h1 : n ≤ 1
  · exact ⟨0, a, sd, by rw [if_pos (by omega)]; rfl, by omega, by omega⟩
  · obtain ⟨x, s, e, h0, h255⟩ := next_ok l hb a sd ha
    rw [if_neg (by omega), e]
    have t0 := Int.tmod_nonneg (n : Int) h0
    have t1 := Int.tmod_lt_of_pos x (show (0 : Int) < (n : Int) by omega)
    refine ⟨(Int.tmod x (n : Int)).toNat, a + 1, s, ?_, by omega, by omega⟩
    rw [Option.bind_some]
    rw [if_neg (by omega), if_neg (by omega), Int.toNat_of_nonneg t0]
end
end Go.Proofs.Ytdhkcnhmmiigoaa.Q
