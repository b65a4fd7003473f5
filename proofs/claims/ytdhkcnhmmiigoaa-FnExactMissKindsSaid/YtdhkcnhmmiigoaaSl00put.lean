/- Parts of the proof, laid together: contracts and lemmas; no conditions beyond those written. -/
import Derived.Test.YtdhkcnhmmiigoaaQx0
import Derived.Test.YtdhkcnhmmiigoaaQx6
import Derived.Test.YtdhkcnhmmiigoaaSbase
import Derived.Test.YtdhkcnhmmiigoaaSsetl
namespace Go.Proofs.Ytdhkcnhmmiigoaa.Q
open Go.RowKit Go.Proofs.YtdhkcnhmmiigoaaW.PrintWords Go.Proofs.YtdhkcnhmmiigoaaW.PrintLast Go.Proofs.YtdhkcnhmmiigoaaW.PrintMore
attribute [local go_sem] max2_int min2_int max_two min_two max_three min_three max_four min_four   -- for this text's walks alone
set_option linter.unusedVariables false
set_option linter.unusedSimpArgs false
section
theorem ev_l00Put_done (l : List Int) (n : Int) (hl : l.length ≤ 1000000000) : ∀ (d i : Nat) (out : List Int), i + d = l.length → out.length + d < 17592186044416 → Ev (fun k => spec_l00Put.l0 k l n out true (i : Int)) (out ++ l.drop i) := by
  intro d
  induction d with
  | zero =>
    intro i out hi hb
    apply Ev.succ
    simp only [spec_l00Put.l0]
    refine Ev.ite_neg (by omega) (Ev.ite_pos (by simp) (Ev.eq (Ev.now _) ?_))
    rw [List.drop_eq_nil_of_le (by omega), List.append_nil]
  | succ d ih =>
    intro i out hi hb
    apply Ev.succ
    simp only [spec_l00Put.l0]
    refine Ev.ite_pos (by omega) (Ev.ite_pos (by simp) ?_)
    apply Ev.succ
    simp only [spec_l00Put.j1]
    refine Ev.ite_neg (by simp) (Ev.ite_pos (by omega) (Ev.ite_pos (by omega) (Ev.ite_pos (by omega) ?_)))
    rw [wrap64_succ (by omega)]
    refine Ev.eq (ih (i + 1) _ (by omega) (by simp; omega)) ?_
    rw [drop_rd l i (by omega), List.append_assoc]; rfl
theorem ev_l00Put_open (l : List Int) (n : Int) (hl : l.length ≤ 1000000000) : ∀ (d i : Nat) (out : List Int), i + d = l.length → out.length + d + 1 < 17592186044416 → Ev (fun k => spec_l00Put.l0 k l n out false (i : Int)) (out ++ putL (l.drop i) n) := by
  intro d
  induction d with
  | zero =>
    intro i out hi hb
    apply Ev.succ
    simp only [spec_l00Put.l0]
    refine Ev.ite_neg (by omega) (Ev.ite_neg (by simp) (Ev.ite_pos (by omega) (Ev.eq (Ev.now _) ?_)))
    rw [List.drop_eq_nil_of_le (by omega)]; rfl
  | succ d ih =>
    intro i out hi hb
    apply Ev.succ
    simp only [spec_l00Put.l0]
    refine Ev.ite_pos (by omega) (Ev.ite_neg (by simp) (Ev.ite_pos (by omega) ?_))
    apply Ev.succ
    simp only [spec_l00Put.j1]
    rw [drop_rd l i (by omega)]
    by_cases h1 : rd l (i : Int) ≥ n
    · refine Ev.ite_pos (by simpa using h1) (Ev.ite_pos (by omega) (Ev.ite_pos (by omega) ?_))
      by_cases h2 : rd l (i : Int) > n
      · refine Ev.ite_pos h2 (Ev.ite_pos (by omega) ?_)
        simp only [Option.bind_some]
        refine Ev.ite_pos (by simp; omega) ?_
        rw [wrap64_succ (by omega)]
        refine Ev.eq (ev_l00Put_done l n hl d (i + 1) _ (by omega) (by simp; omega)) ?_
        unfold putL
        rw [if_pos h1, if_pos h2]
        simp
      · refine Ev.ite_neg h2 (Ev.ite_pos (by omega) ?_)
        rw [wrap64_succ (by omega)]
        refine Ev.eq (ev_l00Put_done l n hl d (i + 1) _ (by omega) (by simp; omega)) ?_
        unfold putL
        rw [if_pos h1, if_neg h2]
        simp
    · refine Ev.ite_neg (by simpa using h1) (Ev.ite_pos (by omega) (Ev.ite_pos (by omega) (Ev.ite_pos (by omega) ?_)))
      rw [wrap64_succ (by omega)]
      refine Ev.eq (ih (i + 1) _ (by omega) (by simp; omega)) ?_
      rw [show putL (rd l (i : Int) :: l.drop (i + 1)) n = rd l (i : Int) :: putL (l.drop (i + 1)) n from by
        conv => lhs; unfold putL
        rw [if_neg h1]]
      simp
theorem ev_l00Put (l : List Int) (n : Int) (h : l.length ≤ 1000000000) : Ev (fun k => spec_l00Put.f k l n) (putL l n) := by
  unfold spec_l00Put.f
  exact Ev.eq (ev_l00Put_open l n h l.length 0 [] (by omega) (by simp; omega)) (by simp)
end
section
def par (n : Int) : Int := (impl_parity.f n).getD 0
theorem par_small : ∀ n : Fin 64, spec_l06Parity.f 8 (n.val : Int) = some (par (n.val : Int)) ∧ impl_parity.f (n.val : Int) = some (par (n.val : Int)) ∧ (par (n.val : Int) = 0 ∨ par (n.val : Int) = 1) := by decide +kernel
theorem and_small : ∀ a b : Fin 64, 0 ≤ Go.bits .and .i64 (a.val : Int) (b.val : Int) ∧ Go.bits .and .i64 (a.val : Int) (b.val : Int) ≤ 63 := by decide +kernel
theorem fin_of {n : Int} (h0 : 0 ≤ n) (h1 : n ≤ 63) : ∃ m : Fin 64, n = (m.val : Int) := ⟨⟨n.toNat, by omega⟩, by show n = (n.toNat : Int); omega⟩
theorem and_range {a b : Int} (a0 : 0 ≤ a) (a1 : a ≤ 63) (b0 : 0 ≤ b) (b1 : b ≤ 63) : 0 ≤ Go.bits .and .i64 a b ∧ Go.bits .and .i64 a b ≤ 63 := by
  obtain ⟨m, rfl⟩ := fin_of a0 a1
  obtain ⟨n, rfl⟩ := fin_of b0 b1
  exact and_small m n
theorem ev_l06Parity {n : Int} (h0 : 0 ≤ n) (h1 : n ≤ 63) : Ev (fun k => spec_l06Parity.f k n) (par n) := by
  obtain ⟨m, rfl⟩ := fin_of h0 h1
  exact Ev.of (spec_l06Parity.mono _) (par_small m).1
theorem impl_parity_f {n : Int} (h0 : 0 ≤ n) (h1 : n ≤ 63) : impl_parity.f n = some (par n) := by
  obtain ⟨m, rfl⟩ := fin_of h0 h1
  exact (par_small m).2.1
theorem par_01 {n : Int} (h0 : 0 ≤ n) (h1 : n ≤ 63) : par n = 0 ∨ par n = 1 := by
  obtain ⟨m, rfl⟩ := fin_of h0 h1
  exact (par_small m).2.2
/-- One more row's bit. -/
def setStep (rows : List Int) (a : Int) (i : Nat) (s : Int) : Int := Go.bits .or .i64 s (shl .i64 (par (Go.bits .and .i64 (rd rows (i : Int)) a)) (i : Int))
def setVal (rows : List Int) (a : Int) : Int := (List.range' 0 rows.length).foldl (fun s i => setStep rows a i s) 0
section
variable (rows : List Int) (a : Int) (hl : rows.length ≤ 3) (hr : ∀ x ∈ rows, 0 ≤ x ∧ x ≤ 63) (h0 : 0 ≤ a) (h1 : a ≤ 63)
include hl hr h0 h1
theorem ev_l06Set : Ev (fun k => spec_l06Set.f k rows a) (setVal rows a) := by
  unfold spec_l06Set.f
  refine Ev.fold (fun i s k => spec_l06Set.l0 k rows a s (i : Int)) rows.length (setStep rows a) (fun s => s) (fun _ _ => True) ?_ (fun _ _ _ _ => trivial) ?_ rows.length 0 0 (by omega) trivial
  · intro s _
    apply Ev.succ
    simp only [spec_l06Set.l0]
    exact Ev.ite_neg (by omega) (Ev.now _)
  · intro i s r hi _ ih
    apply Ev.succ
    simp only [spec_l06Set.l0]
    have hm := hr (rd rows (i : Int)) (by rw [rd_lt rows i hi]; exact List.getElem_mem hi)
    have ha := and_range hm.1 hm.2 h0 h1
    have hw : IntKind.u64.wrap (i : Int) = (i : Int) := by
      obtain rfl | rfl | rfl : i = 0 ∨ i = 1 ∨ i = 2 := by omega
      all_goals decide +kernel
    refine Ev.ite_pos (by omega) (Ev.ite_pos (by omega) (Ev.bind (ev_l06Parity ha.1 ha.2) ?_))
    rw [hw, wrap64_succ (by omega)]
    exact Ev.ite_pos (by omega) ih
theorem ev_Index_set : Ev (fun k => impl_Index_set.f k rows a) (setVal rows a) := by
  unfold impl_Index_set.f
  refine Ev.fold (fun i s k => impl_Index_set.l0 k a s rows (rows.length : Int) (i : Int)) rows.length (setStep rows a) (fun s => s) (fun _ _ => True) ?_ (fun _ _ _ _ => trivial) ?_ rows.length 0 0 (by omega) trivial
  · intro s _
    apply Ev.succ
    simp only [impl_Index_set.l0]
    exact Ev.ite_neg (by omega) (Ev.now _)
  · intro i s r hi _ ih
    apply Ev.succ
    simp only [impl_Index_set.l0]
    have hm := hr (rd rows (i : Int)) (by rw [rd_lt rows i hi]; exact List.getElem_mem hi)
    have ha := and_range hm.1 hm.2 h0 h1
    refine Ev.ite_pos (by omega) (Ev.ite_pos (by omega) (Ev.ite_pos (by omega) (Ev.cbind (impl_parity_f ha.1 ha.2) ?_)))
    rw [wrap64_succ (by omega)]
    exact ih
end
end
end Go.Proofs.Ytdhkcnhmmiigoaa.Q
