/- A number put to its place, by the reference; no conditions beyond those written. -/
import Derived.Test.YtfiohpbinpbhcaaQx0
import Derived.Test.YtfiohpbinpbhcaaQx6
import Derived.Test.YtfiohpbinpbhcaaSbase
import Derived.Test.YtfiohpbinpbhcaaSsetl
namespace Go.Proofs.Ytfiohpbinpbhcaa.Q
open Go.RowKit Go.Proofs.YtfiohpbinpbhcaaW.PrintWords Go.Proofs.YtfiohpbinpbhcaaW.PrintLast Go.Proofs.YtfiohpbinpbhcaaW.PrintMore
attribute [local go_sem] max2_int min2_int max_two min_two max_three min_three max_four min_four   -- for this text's walks alone
set_option linter.unusedVariables false
set_option linter.unusedSimpArgs false

theorem ev_l00Put_done (l : List Int) (n : Int) (hl : l.length ≤ 1000000000) : ∀ (d i : Nat) (out : List Int), i + d = l.length → out.length + d < 17592186044416 → Ev (fun k => spec_l00Put.l0 k l n out true (i : Int)) (out ++ l.drop i) := by
  intro d
  induction d with
  | zero =>
    intro i out hi hb
    apply Ev.succ
    simp only [spec_l00Put.l0]
    refine Ev.ite_neg (by omega) (Ev.ite_pos (by simp) (Ev.eq (Ev.now _) ?_))
    rw [List.drop_eq_nil_of_le (by omega), List.append_nil]
  | succ d ih =>
    intro i out hi hb
    apply Ev.succ
    simp only [spec_l00Put.l0]
    refine Ev.ite_pos (by omega) (Ev.ite_pos (by simp) ?_)
    apply Ev.succ
    simp only [spec_l00Put.j1]
    refine Ev.ite_neg (by simp) (Ev.ite_pos (by omega) (Ev.ite_pos (by omega) (Ev.ite_pos (by omega) ?_)))
    rw [wrap64_succ (by omega)]
    refine Ev.eq (ih (i + 1) _ (by omega) (by simp; omega)) ?_
    rw [drop_rd l i (by omega), List.append_assoc]; rfl
theorem ev_l00Put_open (l : List Int) (n : Int) (hl : l.length ≤ 1000000000) : ∀ (d i : Nat) (out : List Int), i + d = l.length → out.length + d + 1 < 17592186044416 → Ev (fun k => spec_l00Put.l0 k l n out false (i : Int)) (out ++ putL (l.drop i) n) := by
  intro d
  induction d with
  | zero =>
    intro i out hi hb
    apply Ev.succ
    simp only [spec_l00Put.l0]
    refine Ev.ite_neg (by omega) (Ev.ite_neg (by simp) (Ev.ite_pos (by omega) (Ev.eq (Ev.now _) ?_)))
    rw [List.drop_eq_nil_of_le (by omega)]; rfl
  | succ d ih =>
    intro i out hi hb
    apply Ev.succ
    simp only [spec_l00Put.l0]
    refine Ev.ite_pos (by omega) (Ev.ite_neg (by simp) (Ev.ite_pos (by omega) ?_))
    apply Ev.succ
    simp only [spec_l00Put.j1]
    rw [drop_rd l i (by omega)]
    by_cases h1 : rd l (i : Int) ≥ n
    · refine Ev.ite_pos (by simpa using h1) (Ev.ite_pos (by omega) (Ev.ite_pos (by omega) ?_))
      by_cases h2 : rd l (i : Int) > n
      · refine Ev.ite_pos h2 (Ev.ite_pos (by omega) ?_)
        simp only [Option.bind_some]
        refine Ev.ite_pos (by simp; omega) ?_
        rw [wrap64_succ (by omega)]
        refine Ev.eq (ev_l00Put_done l n hl d (i + 1) _ (by omega) (by simp; omega)) ?_
        unfold putL
        rw [if_pos h1, if_pos h2]
        simp
      · refine Ev.ite_neg h2 (Ev.ite_pos (by omega) ?_)
        rw [wrap64_succ (by omega)]
        refine Ev.eq (ev_l00Put_done l n hl d (i + 1) _ (by omega) (by simp; omega)) ?_
        unfold putL
        rw [if_pos h1, if_neg h2]
        simp
    · refine Ev.ite_neg (by simpa using h1) (Ev.ite_pos (by omega) (Ev.ite_pos (by omega) (Ev.ite_pos (by omega) ?_)))
      rw [wrap64_succ (by omega)]
      refine Ev.eq (ih (i + 1) _ (by omega) (by simp; omega)) ?_
      rw [show putL (rd l (i : Int) :: l.drop (i + 1)) n = rd l (i : Int) :: putL (l.drop (i + 1)) n from by
        conv => lhs; unfold putL
        rw [if_neg h1]]
      simp
theorem ev_l00Put (l : List Int) (n : Int) (h : l.length ≤ 1000000000) : Ev (fun k => spec_l00Put.f k l n) (putL l n) := by
  unfold spec_l00Put.f
  exact Ev.eq (ev_l00Put_open l n h l.length 0 [] (by omega) (by simp; omega)) (by simp)
end Go.Proofs.Ytfiohpbinpbhcaa.Q
