/- Parts of the proof, laid together: contracts and lemmas; no conditions beyond those written. -/
import Derived.Test.YtfiohpbinpbhcaaQx0
import Derived.Test.YtfiohpbinpbhcaaQx7
import Derived.Test.YtfiohpbinpbhcaaSaddr
import Derived.Test.YtfiohpbinpbhcaaSbase
import Derived.Test.YtfiohpbinpbhcaaSsortl
import Derived.Test.YtfiohpbinpbhcaaSokuses
import Derived.Test.YtfiohpbinpbhcaaHarePrograms
import Derived.Test.YtfiohpbinpbhcaaSnested
namespace Go.Proofs.Ytfiohpbinpbhcaa.Q
open Go.RowKit Go.Proofs.YtfiohpbinpbhcaaW.PrintWords Go.Proofs.YtfiohpbinpbhcaaW.PrintLast Go.Proofs.YtfiohpbinpbhcaaW.PrintMore
attribute [local go_sem] max2_int min2_int max_two min_two max_three min_three max_four min_four   -- for this text's walks alone
set_option linter.unusedVariables false
set_option linter.unusedSimpArgs false
section
theorem ev_l02Uses (l : List Int) (h : l.length ≤ 9223372036854775807) : Ev (fun k => spec_l02Uses.f k l) (okUses l) := by
  unfold spec_l02Uses.f
  have key := Ev.down (fun i k => spec_l02Uses.l0 k l (i : Int)) l.length (fun i => (l.drop i).all okAddr && decide (l.length ≤ 60)) ?_ ?_ 0 (Nat.zero_le _)
  · exact Ev.eq key (by simp [okUses])
  · apply Ev.succ
    simp only [spec_l02Uses.l0]
    refine Ev.ite_neg (by omega) (Ev.eq (Ev.now _) ?_)
    simp; omega
  · intro i hi ih
    apply Ev.succ
    simp only [spec_l02Uses.l0]
    refine Ev.ite_pos (by omega) (Ev.ite_pos (by omega) (Ev.cbind (spec_l02Address_f _) ?_))
    rw [drop_rd l i hi, List.all_cons]
    cases ha : okAddr (rd l (i : Int)) with
    | true =>
      refine Ev.ite_pos rfl ?_
      rw [wrap64_succ (by omega)]
      exact Ev.eq ih (by simp)
    | false => exact Ev.ite_neg (by simp) (Ev.eq (Ev.now _) (by simp))
end
section
theorem ev_l04Programs (P : List (List Int)) (h : P.length ≤ 9223372036854775807) (hin : ∀ y ∈ P, y.length ≤ 9223372036854775807) : Ev (fun k => spec_l04Programs.f k P) (okProgs P) := by
  unfold spec_l04Programs.f
  have key := Ev.down (fun i k => spec_l04Programs.l0 k P (i : Int)) P.length (fun i => (P.drop i).all okUses && decide (P.length ≤ 4)) ?_ ?_ 0 (Nat.zero_le _)
  · refine Ev.eq key ?_
    unfold okProgs
    rw [List.drop_zero, Bool.and_comm]
  · apply Ev.succ
    simp only [spec_l04Programs.l0]
    refine Ev.ite_neg (by omega) (Ev.eq (Ev.now _) ?_)
    simp; omega
  · intro i hi ih
    apply Ev.succ
    simp only [spec_l04Programs.l0]
    rw [rdLL P i hi, wrap64_succ (by omega), List.drop_eq_getElem_cons hi, List.all_cons]
    refine Ev.ite_pos (by omega) (Ev.ite_pos (by omega) (Ev.bind (ev_l02Uses P[i] (by have := hin _ (List.getElem_mem hi); omega)) ?_))
    cases ho : okUses P[i] with
    | true => exact Ev.ite_pos rfl (Ev.eq ih (by simp))
    | false => exact Ev.ite_neg (by simp) (Ev.eq (Ev.now _) (by simp))
theorem l04Size_f (s : Int) : spec_l04Size.f s = some (okShare s) := by
  unfold spec_l04Size.f spec_l00In.f okShare
  by_cases h0 : s ≥ 0
  · simp [h0]
  · rw [if_neg h0, decide_eq_false (show ¬ 0 ≤ s from h0)]; rfl
end
end Go.Proofs.Ytfiohpbinpbhcaa.Q
