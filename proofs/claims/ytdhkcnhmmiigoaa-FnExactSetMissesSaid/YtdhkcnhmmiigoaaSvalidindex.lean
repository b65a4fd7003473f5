/- Parts of the proof, laid together: contracts and lemmas; no conditions beyond those written. -/
import Derived.Test.YtdhkcnhmmiigoaaQx0
import Derived.Test.YtdhkcnhmmiigoaaHallIn
import Derived.Test.YtdhkcnhmmiigoaaQx7
import Derived.Test.YtdhkcnhmmiigoaaSl06Is
import Derived.Test.YtdhkcnhmmiigoaaSmisses
import Derived.Test.YtdhkcnhmmiigoaaSuses
import Derived.Test.YtdhkcnhmmiigoaaSisin
import Derived.Test.YtdhkcnhmmiigoaaQx6
import Derived.Test.YtdhkcnhmmiigoaaSbase
import Derived.Test.YtdhkcnhmmiigoaaSl00put
import Derived.Test.YtdhkcnhmmiigoaaSsetl
import Derived.Test.YtdhkcnhmmiigoaaSsetldef
namespace Go.Proofs.Ytdhkcnhmmiigoaa.Q
open Go.RowKit Go.Proofs.YtdhkcnhmmiigoaaW.PrintWords Go.Proofs.YtdhkcnhmmiigoaaW.PrintLast Go.Proofs.YtdhkcnhmmiigoaaW.PrintMore
attribute [local go_sem] max2_int min2_int max_two min_two max_three min_three max_four min_four   -- for this text's walks alone
set_option linter.unusedVariables false
set_option linter.unusedSimpArgs false
section
theorem impl_ValidIndex_f (l : List Int) : impl_ValidIndex.f l = some (okRows l) := by
  unfold impl_ValidIndex.f impl_allIn.f okRows
  by_cases h : l.length ≤ 3
  · rw [if_pos (by omega)]; simp [h]
  · rw [if_neg (by omega)]; simp [h]
end
section
theorem impl_ValidUses_f (l : List Int) : impl_ValidUses.f l = some (okUses l) := by
  unfold impl_ValidUses.f impl_allIn.f okUses
  by_cases h : l.length ≤ 60
  · rw [if_pos (by omega)]
    show some (l.all okAddr) = some (l.all okAddr && decide (l.length ≤ 60))
    simp [h]
  · rw [if_neg (by omega)]
    simp [h]
end
section
theorem impl_isPlaced_f (l : List Int) (p : Int) (U : List Int) : impl_isPlaced.f l p U = some (okRows l && (isIn 1 4 p && okUses U)) := by
  unfold impl_isPlaced.f
  rw [impl_ValidIndex_f, impl_inRange_f, impl_ValidUses_f]
  cases okRows l <;> cases isIn 1 4 p <;> cases okUses U <;> rfl
end
section
theorem ev_l02Set (l : List Int) (h : l.length ≤ 1000000000) : Ev (fun k => spec_l02Set.f k l) (setL l) := by
  unfold spec_l02Set.f
  rw [← putAll_eq]
  refine Ev.up (fun i k => spec_l02Set.l0 k l (putAll (l.take i)) (i : Int)) l.length (putAll l) ?_ ?_
  · apply Ev.succ
    simp only [spec_l02Set.l0, List.take_length]
    exact Ev.ite_neg (by omega) (Ev.now _)
  · intro i hi ih
    apply Ev.succ
    simp only [spec_l02Set.l0]
    have hl := (putAll_facts (l.take i) [] (by simp [Inc])).2.2
    refine Ev.ite_pos (by omega) (Ev.ite_pos (by omega) (Ev.bind (ev_l00Put _ _ (by unfold putAll; simp at hl; omega)) ?_))
    rw [wrap64_succ (by omega)]
    have e : putL (putAll (l.take i)) (rd l (i : Int)) = putAll (l.take (i + 1)) := by
      rw [take_succ_rd l i hi]; unfold putAll; rw [List.foldl_append]; rfl
    rw [e]
    exact ih
end
end Go.Proofs.Ytdhkcnhmmiigoaa.Q
