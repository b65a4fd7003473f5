/- Parts of the proof, laid together: contracts and lemmas; no conditions beyond those written. -/
import Derived.Test.YtellojkbfnfacaaQx0
import Derived.Test.YtellojkbfnfacaaQx1
import Derived.Test.YtellojkbfnfacaaSsortl
import Derived.Lib.SlicesCompact
import Derived.Test.YtellojkbfnfacaaSbase
import Derived.Test.YtellojkbfnfacaaSintervals
namespace Go.Proofs.Ytellojkbfnfacaa.Q
open Go.RowKit Go.Proofs.YtellojkbfnfacaaW.PrintWords Go.Proofs.YtellojkbfnfacaaW.PrintLast Go.Proofs.YtellojkbfnfacaaW.PrintMore
attribute [local go_sem] max2_int min2_int max_two min_two max_three min_three max_four min_four   -- for this text's walks alone
set_option linter.unusedVariables false
set_option linter.unusedSimpArgs false
section
def isIn (lo hi : Int) (n : Int) : Bool := decide (lo ≤ n) && decide (n ≤ hi)
theorem impl_inRange_f (n lo hi : Int) : impl_inRange.f n lo hi = some (isIn lo hi n) := by
  unfold impl_inRange.f isIn
  by_cases h : lo ≤ n
  · rw [if_pos h]; simp [h]
  · rw [if_neg h]; simp [h]
end
section
/-- The numbers of a list, sorted, each once. -/
def setL (l : List Int) : List Int := Go.Lib.compact (sortL l)
theorem compact_len (l : List Int) : (Go.Lib.compact l).length ≤ l.length := by
  unfold Go.Lib.compact Go.Lib.compactUpTo
  rw [List.length_map]
  have := List.length_filter_le (Go.Lib.keeps l.toArray) (List.range l.length)
  simpa using this
end
section
theorem ev_l05Next (l : List Int) (a : Int) (i : Nat) (h : l.length ≤ 35184372088832) (hi : i + 1 ≤ l.length) : Ev (fun k => spec_l05Next.f k l (i : Int) a) (if nx l a (i + 1) < l.length then (nx l a (i + 1) : Int) else 60) := by
  unfold spec_l05Next.f
  rw [wrap64_succ (by omega)]
  refine Ev.down (fun i k => spec_l05Next.l0 k l a (i : Int)) l.length (fun i => if nx l a i < l.length then (nx l a i : Int) else 60) ?_ ?_ (i + 1) hi
  · apply Ev.succ
    simp only [spec_l05Next.l0]
    refine Ev.ite_neg (by omega) (Ev.eq (Ev.now _) ?_)
    rw [if_neg (by unfold nx; omega)]
  · intro i hi ih
    apply Ev.succ
    simp only [spec_l05Next.l0]
    refine Ev.ite_pos (by omega) (Ev.ite_pos (by omega) ?_)
    by_cases hx : rd l (i : Int) = a
    · refine Ev.ite_pos hx (Ev.eq (Ev.now _) ?_)
      have : nx l a i = i := by unfold nx; rw [drop_rd l i hi, List.findIdx_cons]; simp [hx]
      rw [this, if_pos hi]
    · refine Ev.ite_neg hx ?_
      rw [wrap64_succ (by omega)]
      have : nx l a i = nx l a (i + 1) := by
        have hb : (rd l (i : Int) == a) = false := by simpa using hx
        unfold nx
        rw [drop_rd l i hi, List.findIdx_cons, hb, cond_false]; omega
      rw [this]
      exact ih
end
end Go.Proofs.Ytellojkbfnfacaa.Q
