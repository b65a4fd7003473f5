/- The bound of cuts by the reference; no conditions beyond those written. -/
import Derived.Test.YthnpcalkcjkdhaaQx0
import Derived.Test.YthnpcalkcjkdhaaQx1
import Derived.Test.YthnpcalkcjkdhaaSbase
import Derived.Test.YthnpcalkcjkdhaaScrosses
import Derived.Test.YthnpcalkcjkdhaaShit
import Derived.Test.YthnpcalkcjkdhaaSintervals
import Derived.Test.YthnpcalkcjkdhaaSivsspec
namespace Go.Proofs.Ythnpcalkcjkdhaa.Q
open Go.RowKit Go.Proofs.YthnpcalkcjkdhaaW.PrintWords Go.Proofs.YthnpcalkcjkdhaaW.PrintLast Go.Proofs.YthnpcalkcjkdhaaW.PrintMore
attribute [local go_sem] max2_int min2_int max_two min_two max_three min_three max_four min_four   -- for this text's walks alone
set_option linter.unusedVariables false
set_option linter.unusedSimpArgs false

theorem any_snoc (cuts : List Int) (p : Int → Bool) (i : Nat) (h : i < cuts.length) : (cuts.take (i + 1)).any p = ((cuts.take i).any p || p (rd cuts (i : Int))) := by
  rw [take_succ_rd cuts i h, List.any_append]; simp
theorem ev_l05Bound_l1 (U : List Int) (cuts : List Int) (b : Int) (j : Nat) (hj : j < (ivs U).length) (hc : cuts.length ≤ 1048576) (r : Int) (hl : U.length ≤ 60)
    (h : Ev (fun k => spec_l05Bound.l0 k cuts (if cuts.any (crossB ((ivs U).getD j [])) = true then b else wrap64 (b + 1)) (ivs U) ((j + 1 : Nat) : Int)) r) : Ev (fun k => spec_l05Bound.l1 k cuts b (ivs U) (j : Int) false 0) r := by
  have hvl : (ivs U).length ≤ 60 := Nat.le_trans (ivsTo_length U U.length) hl
  have h2 : ((ivs U).getD j []).length = 2 := by
    have := ivs_two (l := U) (n := (j : Int)) (by omega) (by omega)
    rwa [Int.toNat_natCast] at this
  have hrd : rd_L1 (ivs U) (j : Int) = (ivs U).getD j [] := rfl
  obtain ⟨X, hX⟩ : ∃ X, X = (ivs U).getD j [] := ⟨_, rfl⟩
  rw [← hX] at h h2 hrd
  have key := Ev.up (fun i k => spec_l05Bound.l1 k cuts b (ivs U) (j : Int) ((cuts.take i).any (crossB X)) (i : Int)) cuts.length r ?_ ?_
  · simpa using key
  · rw [List.take_length]
    apply Ev.succ
    simp only [spec_l05Bound.l1]
    refine Ev.ite_neg (by omega) ?_
    rw [wrap64_succ (by omega)]
    cases hq : cuts.any (crossB X) with
    | true => rw [hq, if_pos rfl] at h; exact Ev.ite_pos rfl h
    | false => rw [hq, if_neg (by simp)] at h; exact Ev.ite_neg (by simp) h
  · intro i hi ih
    rw [any_snoc cuts _ i hi] at ih
    apply Ev.succ
    simp only [spec_l05Bound.l1]
    rw [wrap64_succ (by omega), hrd]
    refine Ev.ite_pos (by omega) ?_
    cases hq : (cuts.take i).any (crossB X) with
    | true =>
      rw [hq, Bool.true_or] at ih
      exact Ev.ite_pos rfl ih
    | false =>
      rw [hq, Bool.false_or] at ih
      unfold crossB at ih
      refine Ev.ite_neg (by simp) (Ev.ite_pos (by omega) (Ev.ite_pos (by omega) (Ev.ite_pos (by omega) (Ev.ite_pos (by omega) ?_))))
      by_cases h0 : rd X 0 < rd cuts (i : Int)
      · rw [decide_eq_true h0, Bool.true_and] at ih
        exact Ev.ite_pos h0 (Ev.ite_pos (by omega) ih)
      · rw [decide_eq_false h0, Bool.false_and] at ih
        exact Ev.ite_neg h0 ih
theorem ev_l05Bound (U : List Int) (n : Int) (cuts : List Int) (hl : U.length ≤ 60) (hc : cuts.length ≤ 1048576) : Ev (fun k => spec_l05Bound.f k U n cuts) (hbTo U n cuts (ivs U).length) := by
  unfold spec_l05Bound.f
  have hvl : (ivs U).length ≤ 60 := Nat.le_trans (ivsTo_length U U.length) hl
  refine Ev.bind (ev_l05Intervals U hl) ?_
  refine Ev.up (fun j k => spec_l05Bound.l0 k cuts (hbTo U n cuts j) (ivs U) (j : Int)) (ivs U).length _ ?_ ?_
  · apply Ev.succ
    simp only [spec_l05Bound.l0]
    exact Ev.ite_neg (by omega) (Ev.now _)
  · intro j hj ih
    apply Ev.succ
    simp only [spec_l05Bound.l0]
    exact Ev.ite_pos (by omega) (ev_l05Bound_l1 U cuts _ j hj hc _ hl ih)
end Go.Proofs.Ythnpcalkcjkdhaa.Q
