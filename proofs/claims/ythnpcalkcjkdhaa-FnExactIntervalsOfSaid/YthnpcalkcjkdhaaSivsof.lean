/- The intervals that both sides answer, and marks in rows; no conditions beyond those written. -/
import Derived.Test.YthnpcalkcjkdhaaQx0
import Derived.Test.YthnpcalkcjkdhaaQx1
import Derived.Test.YthnpcalkcjkdhaaSbase
import Derived.Test.YthnpcalkcjkdhaaSintervals
import Derived.Test.YthnpcalkcjkdhaaSivsimpl
import Derived.Test.YthnpcalkcjkdhaaSivsspec
import Derived.Test.YthnpcalkcjkdhaaSmarkrows
import Derived.Test.YthnpcalkcjkdhaaSmarks
import Derived.Test.YthnpcalkcjkdhaaSokuses
import Derived.Test.YthnpcalkcjkdhaaSuses
import Derived.Test.YthnpcalkcjkdhaaSusesimpl
import Derived.Test.YthnpcalkcjkdhaaSwords
namespace Go.Proofs.Ythnpcalkcjkdhaa.Q
open Go.RowKit Go.Proofs.YthnpcalkcjkdhaaW.PrintWords Go.Proofs.YthnpcalkcjkdhaaW.PrintLast Go.Proofs.YthnpcalkcjkdhaaW.PrintMore
attribute [local go_sem] max2_int min2_int max_two min_two max_three min_three max_four min_four   -- for this text's walks alone
set_option linter.unusedVariables false
set_option linter.unusedSimpArgs false

theorem markRows_at (H : List (List Int)) (a : Int) (i : Nat) (hi : i < H.length) : rd_L1 (markRows H a) (i : Int) = ups (a + (sumLen (H.take i) : Int)) H[i].length := by
  show (markRows H a).getD i _ = _
  have e : H = H.take i ++ (H[i] :: H.drop (i + 1)) := by rw [← List.drop_eq_getElem_cons hi, List.take_append_drop]
  have e1 : (markRows (H.take i) a).length = i := by rw [markRows_length, List.length_take]; omega
  have e2 : markRows H a = markRows (H.take i) a ++ (ups (a + (sumLen (H.take i) : Int)) H[i].length :: markRows (H.drop (i + 1)) (a + (sumLen (H.take i) : Int) + H[i].length)) := by
    have := markRows_append (H.take i) (H[i] :: H.drop (i + 1)) a
    rw [← e, markRows] at this
    exact this
  rw [e2, List.getD_eq_getElem?_getD, List.getElem?_append_right (by omega), e1, Nat.sub_self]
  rfl
theorem ev_heldRows (H : List (List Int)) (a : Int) (hH : H.length ≤ 1048576) (hin : ∀ y ∈ H, y.length ≤ 1048576) (ha : 0 ≤ a) (hs : a + (sumLen H : Int) ≤ 1000000000000) : Ev (fun k => laws_heldInt64SS.f k (markRows H a) a) (a + (sumLen H : Int)) := by
  unfold laws_heldInt64SS.f
  have e0 : a + (sumLen (H.take 0) : Int) = a := by simp [sumLen]
  have key := Ev.up (fun i k => laws_heldInt64SS.l0 k (markRows H a) (a + (sumLen (H.take i) : Int)) (i : Int)) H.length (a + (sumLen H : Int)) ?_ ?_
  · refine Ev.congr (fun k => ?_) key
    show _ = laws_heldInt64SS.l0 k (markRows H a) (a + (sumLen (H.take 0) : Int)) ((0 : Nat) : Int)
    rw [e0]; rfl
  · apply Ev.succ
    simp only [laws_heldInt64SS.l0]
    rw [List.take_length]
    exact Ev.ite_neg (by rw [markRows_length]; omega) (Ev.now _)
  · intro i hi ih
    have hm := hin H[i] (List.getElem_mem hi)
    have h1 := sumLen_take H i hi
    have h2 := sumLen_le H (i + 1)
    apply Ev.succ
    simp only [laws_heldInt64SS.l0]
    rw [markRows_at H a i hi]
    refine Ev.ite_pos (by rw [markRows_length]; omega) (Ev.ite_pos (by omega) (Ev.bind (ev_heldInt64S _ _ (by omega) (by omega) (by omega)) (Ev.ite_neg (by omega) ?_)))
    rw [wrap64_succ (by omega), show a + (sumLen (H.take i) : Int) + (H[i].length : Int) = a + (sumLen (H.take (i + 1)) : Int) by omega]
    exact ih
theorem ev_eqRows (X : List (List Int)) (hX : X.length ≤ 1048576) (hin : ∀ y ∈ X, y.length ≤ 1048576) : Ev (fun k => laws_eqInt64SS.f k X X) true := by
  unfold laws_eqInt64SS.f
  refine Ev.ite_pos rfl ?_
  refine Ev.up (fun i k => laws_eqInt64SS.l0 k X X (i : Int)) X.length true ?_ ?_
  · apply Ev.succ
    simp only [laws_eqInt64SS.l0]
    exact Ev.ite_neg (by omega) (Ev.now _)
  · intro i hi ih
    have hm : rd_L1 X (i : Int) ∈ X := by
      show X.getD i _ ∈ X
      rw [List.getD_eq_getElem?_getD, List.getElem?_eq_getElem hi, Option.getD_some]
      exact List.getElem_mem hi
    have := hin _ hm
    apply Ev.succ
    simp only [laws_eqInt64SS.l0]
    refine Ev.ite_pos (by omega) (Ev.ite_pos (by omega) (Ev.ite_pos (by omega) (Ev.bind (ev_eqInt64S_same _ (by omega)) (Ev.ite_pos rfl ?_))))
    rw [wrap64_succ (by omega)]
    exact ih
def ivR (l : List Int) : List (List Int) := if okUses l = true then ivs l else []
theorem ivR_small (l : List Int) : (ivR l).length ≤ 60 ∧ ∀ y ∈ ivR l, y.length ≤ 2 := by
  unfold ivR
  split
  · rename_i h
    have h1 := ((okUses_iff l).1 h).2
    have h2 := ivsTo_length l l.length
    refine ⟨by unfold ivs; omega, fun y hy => ?_⟩
    obtain ⟨i, j, rfl, _, _⟩ := ivs_mem hy
    exact Nat.le_refl _
  · exact ⟨Nat.zero_le _, fun y hy => by cases hy⟩
theorem sumLen_small (H : List (List Int)) (h : ∀ y ∈ H, y.length ≤ 2) : sumLen H ≤ 2 * H.length := by
  induction H with
  | nil => simp [sumLen]
  | cons y H ih =>
    have h1 := h y (by simp)
    have h2 := ih (fun z hz => h z (by simp [hz]))
    simp only [sumLen, List.length_cons]; omega
theorem ev_spec_IntervalsOf (l : List Int) (h : l.length ≤ 1048576) : Ev (fun k => spec_IntervalsOf.f k l) (ivR l, okUses l) := by
  unfold spec_IntervalsOf.f ivR
  refine Ev.bind (ev_l02Uses l (by omega)) ?_
  by_cases hu : okUses l = true
  · rw [if_pos hu, hu]
    exact Ev.ite_pos rfl (Ev.bind (ev_l05Intervals l ((okUses_iff l).1 hu).2) (Ev.now _))
  · rw [if_neg hu, Bool.eq_false_iff.2 hu]
    exact Ev.ite_neg (by simp) (Ev.now _)
theorem ev_impl_IntervalsOf (l : List Int) : Ev (fun k => impl_IntervalsOf.f k l) (ivR l, okUses l) := by
  unfold impl_IntervalsOf.f ivR
  refine Ev.cbind (impl_ValidUses_f l) ?_
  by_cases hu : okUses l = true
  · rw [if_pos hu, hu]
    exact Ev.ite_pos rfl (Ev.bind (ev_intervalsOf l (by have := ((okUses_iff l).1 hu).2; omega)) (Ev.now _))
  · rw [if_neg hu, Bool.eq_false_iff.2 hu]
    exact Ev.ite_neg (by simp) (Ev.now _)
end Go.Proofs.Ythnpcalkcjkdhaa.Q
