/- Parts of the proof, laid together: contracts and lemmas; no conditions beyond those written. -/
import Derived.Test.YtfiohpbinpbhcaaQx0
import Derived.Test.YtfiohpbinpbhcaaQx7
import Derived.Test.YtfiohpbinpbhcaaSsortl
import Derived.Test.YtfiohpbinpbhcaaHsetOf
import Derived.Test.YtfiohpbinpbhcaaQx6
import Derived.Test.YtfiohpbinpbhcaaSbase
import Derived.Test.YtfiohpbinpbhcaaSl00put
import Derived.Test.YtfiohpbinpbhcaaSsetl
namespace Go.Proofs.Ytfiohpbinpbhcaa.Q
open Go.RowKit Go.Proofs.YtfiohpbinpbhcaaW.PrintWords Go.Proofs.YtfiohpbinpbhcaaW.PrintLast Go.Proofs.YtfiohpbinpbhcaaW.PrintMore
attribute [local go_sem] max2_int min2_int max_two min_two max_three min_three max_four min_four   -- for this text's walks alone
set_option linter.unusedVariables false
set_option linter.unusedSimpArgs false
section
theorem spec_l02Address_f (n : Int) : spec_l02Address.f n = some (okAddr n) := by
  unfold spec_l02Address.f spec_l00In.f okAddr
  by_cases h : n ≥ 0 <;> simp [h]
end
section
theorem impl_setOf_f (l : List Int) (h : l.length ≤ 17592186044416) : impl_setOf.f l = some (setL l) := by unfold impl_setOf.f; rw [if_pos h]
end
section
theorem ev_l02Set (l : List Int) (h : l.length ≤ 1000000000) : Ev (fun k => spec_l02Set.f k l) (setL l) := by
  unfold spec_l02Set.f
  rw [← putAll_eq]
  refine Ev.up (fun i k => spec_l02Set.l0 k l (putAll (l.take i)) (i : Int)) l.length (putAll l) ?_ ?_
  · apply Ev.succ
    simp only [spec_l02Set.l0, List.take_length]
    exact Ev.ite_neg (by omega) (Ev.now _)
  · intro i hi ih
    apply Ev.succ
    simp only [spec_l02Set.l0]
    have hl := (putAll_facts (l.take i) [] (by simp [Inc])).2.2
    refine Ev.ite_pos (by omega) (Ev.ite_pos (by omega) (Ev.bind (ev_l00Put _ _ (by unfold putAll; simp at hl; omega)) ?_))
    rw [wrap64_succ (by omega)]
    have e : putL (putAll (l.take i)) (rd l (i : Int)) = putAll (l.take (i + 1)) := by
      rw [take_succ_rd l i hi]; unfold putAll; rw [List.foldl_append]; rfl
    rw [e]
    exact ih
end
end Go.Proofs.Ytfiohpbinpbhcaa.Q
