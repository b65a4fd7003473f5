/- Rising numbers within bounds; no conditions beyond those written. -/
import Derived.Test.YthnpcalkcjkdhaaQx0
import Derived.Test.YthnpcalkcjkdhaaHallIn
import Derived.Test.YthnpcalkcjkdhaaQx1
import Derived.Test.YthnpcalkcjkdhaaSbase
import Derived.Test.YthnpcalkcjkdhaaSisin
namespace Go.Proofs.Ythnpcalkcjkdhaa.Q
open Go.RowKit Go.Proofs.YthnpcalkcjkdhaaW.PrintWords Go.Proofs.YthnpcalkcjkdhaaW.PrintLast Go.Proofs.YthnpcalkcjkdhaaW.PrintMore
attribute [local go_sem] max2_int min2_int max_two min_two max_three min_three max_four min_four   -- for this text's walks alone
set_option linter.unusedVariables false
set_option linter.unusedSimpArgs false

def incFrom (l : List Int) (i : Nat) : Bool := (List.range' i (l.length - i)).all fun j => decide (rd l ((j : Int) - 1) < rd l (j : Int))
theorem incFrom_step (l : List Int) (i : Nat) (h : i < l.length) : incFrom l i = (decide (rd l ((i : Int) - 1) < rd l (i : Int)) && incFrom l (i + 1)) := by
  unfold incFrom
  rw [show l.length - i = (l.length - (i + 1)) + 1 by omega, List.range'_succ, List.all_cons]
theorem incFrom_end (l : List Int) (i : Nat) (h : l.length ≤ i) : incFrom l i = true := by
  unfold incFrom
  rw [show l.length - i = 0 by omega]; rfl
/-- All within bounds, each greater than the one before. -/
def rises (l : List Int) (lo hi : Int) : Bool := l.all (isIn lo hi) && incFrom l 1
theorem impl_allIn_f (l : List Int) (lo hi : Int) : impl_allIn.f l lo hi = some (l.all (isIn lo hi)) := rfl
theorem ev_isIncreasing (l : List Int) (h : l.length ≤ 9223372036854775807) : Ev (fun k => impl_isIncreasing.f k l) (incFrom l 1) := by
  unfold impl_isIncreasing.f
  by_cases hl : 1 ≤ l.length
  · refine Ev.down (fun i k => impl_isIncreasing.l0 k l ((i + 1 : Nat) : Int)) (l.length - 1) (fun i => incFrom l (i + 1)) ?_ ?_ 0 (Nat.zero_le _)
    · apply Ev.succ
      simp only [impl_isIncreasing.l0]
      refine Ev.ite_neg (by omega) (Ev.eq (Ev.now _) ?_)
      rw [incFrom_end l _ (by omega)]
    · intro i hi ih
      apply Ev.succ
      simp only [impl_isIncreasing.l0]
      have e : ((i + 1 : Nat) : Int) - 1 = (i : Int) := by omega
      have hs := incFrom_step l (i + 1) (by omega)
      rw [e] at hs
      rw [e, wrap64_id (by omega) (by omega)]
      refine Ev.ite_pos (by omega) (Ev.ite_pos (by omega) (Ev.ite_pos (by omega) (Ev.ite_pos (by omega) ?_)))
      rw [wrap64_succ (by omega), hs]
      by_cases hx : rd l (i : Int) ≥ rd l ((i + 1 : Nat) : Int)
      · refine Ev.ite_pos hx (Ev.eq (Ev.now _) ?_)
        have : ¬ rd l (i : Int) < rd l ((i + 1 : Nat) : Int) := by omega
        simp only [this, decide_false, Bool.false_and]
      · refine Ev.ite_neg hx (Ev.eq ih ?_)
        have : rd l (i : Int) < rd l ((i + 1 : Nat) : Int) := by omega
        simp only [this, decide_true, Bool.true_and]
  · have h0 : l.length = 0 := by omega
    have : ∀ k, impl_isIncreasing.l0 (k + 1) l 1 = some true := by
      intro k
      simp only [impl_isIncreasing.l0]
      rw [if_neg (by omega)]
    refine Ev.eq (Ev.succ (r := true) ?_) (incFrom_end l 1 (by omega)).symm
    exact Ev.congr this (Ev.now _)
theorem ev_l00Rises (l : List Int) (lo hi : Int) (h : l.length ≤ 35184372088832) : Ev (fun k => spec_l00Rises.f k l lo hi) (rises l lo hi) := by
  unfold spec_l00Rises.f
  have key := Ev.down (fun i k => spec_l00Rises.l0 k l lo hi (i : Int)) l.length (fun i => (l.drop i).all (isIn lo hi) && incFrom l (max i 1)) ?_ ?_ 0 (Nat.zero_le _)
  · exact Ev.eq key (by simp [rises])
  · apply Ev.succ
    simp only [spec_l00Rises.l0]
    refine Ev.ite_neg (by omega) (Ev.eq (Ev.now _) ?_)
    rw [incFrom_end l _ (by omega)]; simp
  · intro i hi ih
    apply Ev.succ
    simp only [spec_l00Rises.l0]
    refine Ev.ite_pos (by omega) (Ev.ite_pos (by omega) (Ev.cbind (spec_l00In_f _ _ _) ?_))
    rw [drop_rd l i hi, List.all_cons, wrap64_succ (by omega)]
    cases ha : isIn lo _ (rd l (i : Int)) with
    | false => exact Ev.ite_neg (by simp) (Ev.eq (Ev.now _) (by simp))
    | true =>
      refine Ev.ite_pos rfl ?_
      by_cases h0 : i = 0
      · subst h0
        refine Ev.ite_neg (by omega) (Ev.eq ih ?_)
        simp
      · refine Ev.ite_pos (by omega) ?_
        rw [wrap64_id (by omega) (by omega)]
        refine Ev.ite_pos (by omega) (Ev.ite_pos (by omega) ?_)
        rw [show max i 1 = i by omega, incFrom_step l i hi]
        rw [show max (i + 1) 1 = i + 1 by omega] at ih
        by_cases hx : rd l ((i : Int) - 1) ≥ rd l (i : Int)
        · refine Ev.ite_pos hx (Ev.eq (Ev.now _) ?_)
          have : ¬ rd l ((i : Int) - 1) < rd l (i : Int) := by omega
          simp only [this, decide_false, Bool.false_and, Bool.and_false]
        · refine Ev.ite_neg hx (Ev.eq ih ?_)
          have : rd l ((i : Int) - 1) < rd l (i : Int) := by omega
          simp only [this, decide_true, Bool.true_and]
end Go.Proofs.Ythnpcalkcjkdhaa.Q
