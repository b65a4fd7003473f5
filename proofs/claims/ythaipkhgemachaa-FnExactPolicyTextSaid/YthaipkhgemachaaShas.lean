/- spec.l00Has over int64; no conditions beyond those written. -/
import Derived.Test.YthaipkhgemachaaQx0
import Derived.Test.YthaipkhgemachaaQx1
import Derived.Test.YthaipkhgemachaaSbase
namespace Go.Proofs.Ythaipkhgemachaa.Q
open Go.RowKit Go.Proofs.YthaipkhgemachaaW.PrintWords Go.Proofs.YthaipkhgemachaaW.PrintLast Go.Proofs.YthaipkhgemachaaW.PrintMore
attribute [local go_sem] max2_int min2_int max_two min_two max_three min_three max_four min_four   -- for this text's walks alone
set_option linter.unusedVariables false
set_option linter.unusedSimpArgs false

theorem ev_l00Has (l : List Int) (a : Int) (h : l.length ≤ 1000000000) : Ev (fun k => spec_l00Has.f k l a) (decide (a ∈ l)) := by
  unfold spec_l00Has.f
  have key := Ev.down (fun i k => spec_l00Has.l0 k l a (i : Int)) l.length (fun i => decide (a ∈ l.drop i)) ?_ ?_ 0 (Nat.zero_le _)
  · exact Ev.eq key (by simp)
  · apply Ev.succ
    simp only [spec_l00Has.l0]
    exact Ev.ite_neg (by omega) (Ev.eq (Ev.now _) (by simp))
  · intro i hi ih
    apply Ev.succ
    simp only [spec_l00Has.l0]
    refine Ev.ite_pos (by omega) (Ev.ite_pos (by omega) ?_)
    rw [drop_rd l i hi]
    by_cases hx : rd l (i : Int) = a
    · exact Ev.ite_pos hx (Ev.eq (Ev.now _) (by simp [hx]))
    · refine Ev.ite_neg hx ?_
      rw [wrap64_succ (by omega)]
      refine Ev.eq ih ?_
      have : ¬ a = rd l (i : Int) := fun e => hx e.symm
      simp [this]
end Go.Proofs.Ythaipkhgemachaa.Q
