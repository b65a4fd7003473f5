/- Parts of the proof, laid together: contracts and lemmas; no conditions beyond those written. -/
import Derived.Test.YteobbgofbedgdaaQx0
import Derived.Test.YteobbgofbedgdaaHallIn
import Derived.Test.YteobbgofbedgdaaQx2
import Derived.Test.YteobbgofbedgdaaSown
import Derived.Test.YteobbgofbedgdaaSsetlimpl
import Derived.Test.YteobbgofbedgdaaSbase
import Derived.Test.YteobbgofbedgdaaSsetldef
namespace Go.Proofs.Yteobbgofbedgdaa.Q
open Go.RowKit Go.Proofs.YteobbgofbedgdaaW.PrintWords Go.Proofs.YteobbgofbedgdaaW.PrintLast Go.Proofs.YteobbgofbedgdaaW.PrintMore
attribute [local go_sem] max2_int min2_int max_two min_two max_three min_three max_four min_four   -- for this text's walks alone
set_option linter.unusedVariables false
set_option linter.unusedSimpArgs false
section
theorem impl_ValidUses_f (l : List Int) : impl_ValidUses.f l = some (okUses l) := by
  unfold impl_ValidUses.f impl_allIn.f okUses
  by_cases h : l.length ≤ 60
  · rw [if_pos (by omega)]
    show some (l.all okAddr) = some (l.all okAddr && decide (l.length ≤ 60))
    simp [h]
  · rw [if_neg (by omega)]
    simp [h]
end
section
theorem among_ok (l : List Int) (hb : Bytes l) (a : Nat) (sd : Int) (b : List Int) (hn : 1 ≤ b.length) (h2 : b.length ≤ 200) (ha : a ≤ 1000000000000) :
    ∃ (x : Int) (a' : Nat) (s : Int), spec_l00Src_among.f l (a : Int) sd b = some (x, (a' : Int), s) ∧ x ∈ b ∧ a' ≤ a + 1 := by
  unfold spec_l00Src_among.f
  obtain ⟨x, a', s, e, hx, ha'⟩ := pick_ok l hb a sd b.length hn h2 ha
  refine ⟨b[x], a', s, ?_, List.getElem_mem hx, ha'⟩
  rw [e, Option.bind_some]
  rw [if_pos (by omega), if_pos (by omega), rd_lt b x hx]
end
section
theorem ev_slices_Contains (l : List Int) (a : Int) (h : l.length ≤ 35184372088832) : Ev (fun k => slices_Contains_int64_int64.f k l a) (decide (a ∈ l)) := by
  unfold slices_Contains_int64_int64.f
  refine Ev.bind (ev_slices_Index l a h) (Ev.eq (Ev.now _) ?_)
  by_cases hm : a ∈ l
  · have := List.findIdx_lt_length_of_exists (p := fun x => x == a) ⟨a, hm, by simp⟩
    rw [if_pos this]
    simp [hm]
  · have : ¬ (l.findIdx (fun x => x == a) < l.length) := by
      intro hlt
      have := List.findIdx_getElem (w := hlt)
      simp only [beq_iff_eq] at this
      exact hm (this ▸ List.getElem_mem hlt)
    rw [if_neg this]
    simp [hm]
end
section
theorem ev_r8Has (l : List Int) (a : Int) (h : l.length ≤ 1000000000) : Ev (fun k => laws_r8Has.f k l a) (decide (a ∈ l)) := by
  unfold laws_r8Has.f
  have key := Ev.down (fun i k => laws_r8Has.l0 k l a (i : Int)) l.length (fun i => decide (a ∈ l.drop i)) ?_ ?_ 0 (Nat.zero_le _)
  · exact Ev.eq key (by simp)
  · apply Ev.succ
    simp only [laws_r8Has.l0]
    exact Ev.ite_neg (by omega) (Ev.eq (Ev.now _) (by simp))
  · intro i hi ih
    apply Ev.succ
    simp only [laws_r8Has.l0]
    refine Ev.ite_pos (by omega) (Ev.ite_pos (by omega) ?_)
    rw [drop_rd l i hi]
    by_cases e : rd l (i : Int) = a
    · exact Ev.ite_pos e (Ev.eq (Ev.now _) (by simp [e]))
    · rw [wrap64_succ (by omega)]
      refine Ev.ite_neg e (Ev.eq ih ?_)
      have : ¬ a = rd l (i : Int) := fun h => e h.symm
      simp [this]
end
end Go.Proofs.Yteobbgofbedgdaa.Q
