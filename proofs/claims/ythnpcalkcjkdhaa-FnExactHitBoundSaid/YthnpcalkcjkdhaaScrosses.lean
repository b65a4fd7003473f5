/- impl.crosses, told; no conditions beyond those written. -/
import Derived.Test.YthnpcalkcjkdhaaQx0
import Derived.Test.YthnpcalkcjkdhaaQx1
import Derived.Test.YthnpcalkcjkdhaaShit
import Derived.Test.YthnpcalkcjkdhaaSintervals
namespace Go.Proofs.Ythnpcalkcjkdhaa.Q
open Go.RowKit Go.Proofs.YthnpcalkcjkdhaaW.PrintWords Go.Proofs.YthnpcalkcjkdhaaW.PrintLast Go.Proofs.YthnpcalkcjkdhaaW.PrintMore
attribute [local go_sem] max2_int min2_int max_two min_two max_three min_three max_four min_four   -- for this text's walks alone
set_option linter.unusedVariables false
set_option linter.unusedSimpArgs false

theorem ivs_two {l : List Int} {n : Int} (h0 : 0 ≤ n) (h1 : n < ((ivs l).length : Int)) : ((ivs l).getD n.toNat []).length = 2 := by
  have hlt : n.toNat < (ivs l).length := by omega
  rw [List.getD_eq_getElem?_getD, List.getElem?_eq_getElem hlt, Option.getD_some]
  obtain ⟨i, j, e, _, _⟩ := ivs_mem (List.getElem_mem hlt)
  rw [e]; rfl
theorem ev_crosses (x : List Int) (t : Int) (h : x.length = 2) : impl_crosses.f x t = some (crossB x t) := by
  unfold impl_crosses.f crossB
  rw [if_pos (by omega)]
  by_cases hx : rd x 0 < t
  · rw [if_pos hx, if_pos (by omega)]; simp [hx]
  · rw [if_neg hx]; simp [hx]
end Go.Proofs.Ythnpcalkcjkdhaa.Q
