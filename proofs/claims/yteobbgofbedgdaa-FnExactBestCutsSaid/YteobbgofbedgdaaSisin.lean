/- Parts of the proof, laid together: contracts and lemmas; no conditions beyond those written. -/
import Derived.Test.YteobbgofbedgdaaQx0
import Derived.Test.YteobbgofbedgdaaQx2
import Derived.Test.YteobbgofbedgdaaSintervals
import Derived.Test.YteobbgofbedgdaaQx1
import Derived.Test.YteobbgofbedgdaaSbase
namespace Go.Proofs.Yteobbgofbedgdaa.Q
open Go.RowKit Go.Proofs.YteobbgofbedgdaaW.PrintWords Go.Proofs.YteobbgofbedgdaaW.PrintLast Go.Proofs.YteobbgofbedgdaaW.PrintMore
attribute [local go_sem] max2_int min2_int max_two min_two max_three min_three max_four min_four   -- for this text's walks alone
set_option linter.unusedVariables false
set_option linter.unusedSimpArgs false
section
def isIn (lo hi : Int) (n : Int) : Bool := decide (lo ≤ n) && decide (n ≤ hi)
theorem impl_inRange_f (n lo hi : Int) : impl_inRange.f n lo hi = some (isIn lo hi n) := by
  unfold impl_inRange.f isIn
  by_cases h : lo ≤ n
  · rw [if_pos h]; simp [h]
  · rw [if_neg h]; simp [h]
end
section
theorem ivs_two {l : List Int} {n : Int} (h0 : 0 ≤ n) (h1 : n < ((ivs l).length : Int)) : ((ivs l).getD n.toNat []).length = 2 := by
  have hlt : n.toNat < (ivs l).length := by omega
  rw [List.getD_eq_getElem?_getD, List.getElem?_eq_getElem hlt, Option.getD_some]
  obtain ⟨i, j, e, _, _⟩ := ivs_mem (List.getElem_mem hlt)
  rw [e]; rfl
end
section
theorem ev_l05Next (l : List Int) (a : Int) (i : Nat) (h : l.length ≤ 35184372088832) (hi : i + 1 ≤ l.length) : Ev (fun k => spec_l05Next.f k l (i : Int) a) (if nx l a (i + 1) < l.length then (nx l a (i + 1) : Int) else 60) := by
  unfold spec_l05Next.f
  rw [wrap64_succ (by omega)]
  refine Ev.down (fun i k => spec_l05Next.l0 k l a (i : Int)) l.length (fun i => if nx l a i < l.length then (nx l a i : Int) else 60) ?_ ?_ (i + 1) hi
  · apply Ev.succ
    simp only [spec_l05Next.l0]
    refine Ev.ite_neg (by omega) (Ev.eq (Ev.now _) ?_)
    rw [if_neg (by unfold nx; omega)]
  · intro i hi ih
    apply Ev.succ
    simp only [spec_l05Next.l0]
    refine Ev.ite_pos (by omega) (Ev.ite_pos (by omega) ?_)
    by_cases hx : rd l (i : Int) = a
    · refine Ev.ite_pos hx (Ev.eq (Ev.now _) ?_)
      have : nx l a i = i := by unfold nx; rw [drop_rd l i hi, List.findIdx_cons]; simp [hx]
      rw [this, if_pos hi]
    · refine Ev.ite_neg hx ?_
      rw [wrap64_succ (by omega)]
      have : nx l a i = nx l a (i + 1) := by
        have hb : (rd l (i : Int) == a) = false := by simpa using hx
        unfold nx
        rw [drop_rd l i hi, List.findIdx_cons, hb, cond_false]; omega
      rw [this]
      exact ih
end
end Go.Proofs.Yteobbgofbedgdaa.Q
