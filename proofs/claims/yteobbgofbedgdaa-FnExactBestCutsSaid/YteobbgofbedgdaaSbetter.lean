/- Comparing lists of cuts, as the program does it; no conditions beyond those written. -/
import Derived.Test.YteobbgofbedgdaaQx0
import Derived.Test.YteobbgofbedgdaaQx3
import Derived.Test.YteobbgofbedgdaaSbase
import Derived.Test.YteobbgofbedgdaaSdpdef
import Derived.Test.YteobbgofbedgdaaSlessb
namespace Go.Proofs.Yteobbgofbedgdaa.Q
open Go.RowKit Go.Proofs.YteobbgofbedgdaaW.PrintWords Go.Proofs.YteobbgofbedgdaaW.PrintLast Go.Proofs.YteobbgofbedgdaaW.PrintMore
attribute [local go_sem] max2_int min2_int max_two min_two max_three min_three max_four min_four   -- for this text's walks alone
set_option linter.unusedVariables false
set_option linter.unusedSimpArgs false

def cmpL : List Int → List Int → Int
  | a :: xs, b :: ys => if a < b then -1 else if b < a then 1 else cmpL xs ys
  | _, _ => 0
theorem cmpL_less : ∀ x y : List Int, x.length = y.length → decide (cmpL x y < 0) = lessB x y
  | [], [], _ => rfl
  | [], _ :: _, h => by simp at h
  | _ :: _, [], h => by simp at h
  | a :: xs, b :: ys, h => by
    have ih := cmpL_less xs ys (by simpa using h)
    rw [lessB_cons]
    unfold cmpL
    by_cases h1 : a < b
    · simp [h1]
    · by_cases h2 : b < a
      · have h3 : ¬ a = b := by omega
        simp [h1, h2, h3]
      · have h3 : a = b := by omega
        simp [h1, h2, h3, ih]
theorem cmp_Compare_f (a b : Int) : cmp_Compare_int64.f a b = some (if a < b then -1 else if b < a then 1 else 0) := by
  unfold cmp_Compare_int64.f cmp_isNaN_int64.f
  simp only [bne_self_eq_false, Option.bind_some, Bool.false_eq_true, if_false, ne_eq, not_true_eq_false, decide_false]
  by_cases h1 : a < b
  · simp [h1]
  · by_cases h2 : b < a <;> simp [h1, h2]
theorem ev_Compare (x y : List Int) (h : x.length = y.length) (hl : x.length ≤ 1000000) : Ev (fun k => slices_Compare_int64_int64.f k x y) (cmpL x y) := by
  unfold slices_Compare_int64_int64.f
  have key := Ev.down (fun i k => slices_Compare_int64_int64.l0 k x y x (x.length : Int) (i : Int)) x.length (fun i => cmpL (x.drop i) (y.drop i)) ?_ ?_ 0 (Nat.zero_le _)
  · exact key
  · apply Ev.succ
    simp only [slices_Compare_int64_int64.l0]
    refine Ev.ite_neg (by omega) (Ev.ite_neg (by omega) (Ev.eq (Ev.now _) ?_))
    rw [List.drop_length, List.drop_eq_nil_of_le (by omega)]; rfl
  · intro i hi ih
    have e : cmpL (x.drop i) (y.drop i) = if rd x (i : Int) < rd y (i : Int) then -1 else if rd y (i : Int) < rd x (i : Int) then 1 else cmpL (x.drop (i + 1)) (y.drop (i + 1)) := by
      rw [drop_rd x i hi, drop_rd y i (by omega)]; rfl
    rw [e]
    apply Ev.succ
    simp only [slices_Compare_int64_int64.l0]
    refine Ev.ite_pos (by omega) (Ev.ite_pos (by omega) (Ev.ite_pos (by omega) (Ev.ite_neg (by omega) (Ev.ite_pos (by omega) (Ev.cbind (cmp_Compare_f _ _) ?_)))))
    by_cases h1 : rd x (i : Int) < rd y (i : Int)
    · refine Ev.ite_neg ?_ (Ev.eq (Ev.now _) ?_)
      · rw [if_pos h1]; omega
      · rw [if_pos h1, if_pos h1]
    · by_cases h2 : rd y (i : Int) < rd x (i : Int)
      · refine Ev.ite_neg ?_ (Ev.eq (Ev.now _) ?_)
        · rw [if_neg h1, if_pos h2]; omega
        · rw [if_neg h1, if_pos h2, if_neg h1, if_pos h2]
      · rw [wrap64_succ (by omega)]
        refine Ev.ite_pos ?_ (Ev.eq ih ?_)
        · rw [if_neg h1, if_neg h2]
        · rw [if_neg h1, if_neg h2]
theorem ev_better (c d : Int × List Int) (hl : c.2.length ≤ 1000000) : Ev (fun k => impl_cutList_better.f k c.1 c.2 d.1 d.2) (betC c d) := by
  unfold impl_cutList_better.f betC
  by_cases h1 : c.1 = d.1
  · rw [if_neg (by simpa using h1)]
    refine Ev.ite_pos h1 ?_
    by_cases h2 : c.2.length = d.2.length
    · rw [if_neg (by simpa using h2)]
      refine Ev.ite_pos (by omega) (Ev.bind (ev_Compare c.2 d.2 h2 hl) (Ev.eq (Ev.now _) (cmpL_less _ _ h2)))
    · rw [if_pos h2]
      refine Ev.ite_neg (by omega) (Ev.eq (Ev.now _) ?_)
      by_cases h3 : c.2.length < d.2.length
      · rw [decide_eq_true h3, decide_eq_true (by omega)]
      · rw [decide_eq_false h3, decide_eq_false (by omega)]
  · rw [if_pos h1]
    exact Ev.ite_neg h1 (Ev.now _)
end Go.Proofs.Yteobbgofbedgdaa.Q
