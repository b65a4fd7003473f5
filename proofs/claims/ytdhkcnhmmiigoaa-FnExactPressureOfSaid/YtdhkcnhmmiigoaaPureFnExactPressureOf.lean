/- The plain law of FnExactPressureOf: what it computes answers true; no conditions. -/
import Derived.Test.YtdhkcnhmmiigoaaQx0
import Derived.Test.YtdhkcnhmmiigoaaHspecPressureOf
import Derived.Test.YtdhkcnhmmiigoaaQx18
import Derived.Test.YtdhkcnhmmiigoaaSascend
import Derived.Test.YtdhkcnhmmiigoaaSbase
import Derived.Test.YtdhkcnhmmiigoaaSdiffs
import Derived.Test.YtdhkcnhmmiigoaaSindex
import Derived.Test.YtdhkcnhmmiigoaaSl06Is
import Derived.Test.YtdhkcnhmmiigoaaSmembers
import Derived.Test.YtdhkcnhmmiigoaaSuses
import Derived.Test.YtdhkcnhmmiigoaaSvalidindex
import Derived.Test.YtdhkcnhmmiigoaaSwords
namespace Go.Proofs.Ytdhkcnhmmiigoaa.Q
open Go.RowKit Go.Proofs.YtdhkcnhmmiigoaaW.PrintWords Go.Proofs.YtdhkcnhmmiigoaaW.PrintLast Go.Proofs.YtdhkcnhmmiigoaaW.PrintMore
attribute [local go_sem] max2_int min2_int max_two min_two max_three min_three max_four min_four   -- for this text's walks alone
set_option linter.unusedVariables false
set_option linter.unusedSimpArgs false

def laws_FnExactPressureOf.PureQ : Prop := ∀ (l0_0 : List Int) (l1 : List Int), l0_0.length ≤ 9223372036854775807 → l1.length ≤ 9223372036854775807 → ∃ k, laws_FnExactPressureOf.f k l0_0 l1 = some true
end Go.Proofs.Ytdhkcnhmmiigoaa.Q
namespace Go.Proofs.Ytdhkcnhmmiigoaa.Pure
open Go.RowKit Go.Proofs.Ytdhkcnhmmiigoaa.Q Go.Proofs.YtdhkcnhmmiigoaaW.PrintWords
theorem ev_impl_sum (d m : List Int) (hd : d.length = 64) (hm : ∀ x ∈ m, 0 ≤ x ∧ x ≤ 63) (hl : m.length ≤ 1000) : Ev (fun k => impl_PressureOf.l0 k 0 d m (m.length : Int) 0) (sumAt d m, true) := by
  refine Ev.up (fun i k => impl_PressureOf.l0 k (sumAt d (m.take i)) d m (m.length : Int) (i : Int)) m.length _ ?_ ?_
  · apply Ev.succ
    simp only [impl_PressureOf.l0]
    refine Ev.ite_neg (by omega) ?_
    rw [List.take_length]; exact Ev.now _
  · intro i hi ih
    have hx := hm _ (List.getElem_mem hi)
    rw [← rd_lt m i hi] at hx
    have hst : sumAt d (m.take (i + 1)) = wrap64 (sumAt d (m.take i) + rd d (rd m (i : Int))) := by unfold sumAt; rw [take_succ_rd m i hi, List.foldl_append]; rfl
    rw [hst] at ih
    apply Ev.succ
    simp only [impl_PressureOf.l0]
    refine Ev.ite_pos (by omega) (Ev.ite_pos (by omega) (Ev.ite_pos (by omega) (Ev.ite_pos (by omega) (Ev.ite_pos (by omega) ?_))))
    rw [wrap64_succ (by omega)]
    exact ih
theorem bothPressureOf (l m : List Int) (_ : l.length ≤ 1048576) (h2 : m.length ≤ 1048576) : ∃ r b, Ev (fun k => spec_PressureOf.f k l m) (r, b) ∧ Ev (fun k => impl_PressureOf.f k l m) (r, b) := by
  unfold spec_PressureOf.f impl_PressureOf.f
  cases ho : okRows l with
  | false =>
    refine ⟨0, false, Ev.ite_neg (by simp) (Ev.now _), Ev.cbind (impl_ValidIndex_f l) ?_⟩
    rw [ho]; refine Ev.ite_neg (by simp) (Ev.succ ?_); simp only [impl_PressureOf.j0]; exact Ev.ite_pos (by first | rfl | trivial | simp) (Ev.now _)
  | true =>
    obtain ⟨hr, hl⟩ := (okRows_iff l).1 ho
    cases hu : okUses m with
    | false =>
      refine ⟨0, false, Ev.ite_pos rfl (Ev.bind (ev_l02Uses m (by omega)) ?_), Ev.cbind (impl_ValidIndex_f l) ?_⟩
      · rw [hu]; exact Ev.ite_neg (by simp) (Ev.now _)
      · rw [ho]; refine Ev.ite_pos rfl (Ev.cbind (impl_ValidUses_f m) (Ev.succ ?_)); rw [hu]; simp only [impl_PressureOf.j0]; exact Ev.ite_pos (by first | rfl | trivial | simp) (Ev.now _)
    | true =>
      obtain ⟨hm, hml⟩ := (okUses_iff m).1 hu
      have hd := dif_length m m.length
      have hk : ∀ x ∈ membersTo l 0 64, 0 ≤ x ∧ x ≤ 63 := fun x hx => upto64_mem (List.mem_filter.1 hx).1
      have hkl := membersTo_length l 0 64
      have hin : inRows (dif m m.length) (membersTo l 0 64) = true := by
        unfold inRows
        rw [List.all_eq_true]
        intro x hx
        have := hk x hx
        rw [hd]
        simp; omega
      refine ⟨sumAt (dif m m.length) (membersTo l 0 64), true, Ev.ite_pos rfl (Ev.bind (ev_l02Uses m (by omega)) ?_), Ev.cbind (impl_ValidIndex_f l) ?_⟩
      · rw [hu]; refine Ev.ite_pos rfl (Ev.bind (ev_spec_diffs m (by omega) hm) (Ev.bind (ev_l06Members l 0 hl hr (by omega) (by omega)) ?_))
        exact Ev.ite_pos hin (Ev.now _)
      · rw [ho]; refine Ev.ite_pos rfl (Ev.cbind (impl_ValidUses_f m) (Ev.succ ?_)); rw [hu]; simp only [impl_PressureOf.j0]
        exact Ev.ite_neg (by simp) (Ev.bind (ev_impl_diffs m (by omega) hm) (Ev.cbind (kernel_f l ho) (ev_impl_sum _ _ hd hk (by omega))))
theorem FnExactPressureOf : laws_FnExactPressureOf.PureQ := by
  intro l0_0 l1 hl0_0
  intros
  refine Ev.rounds (g := fun k => laws_FnExactPressureOf.f k l0_0 l1) ?_
  unfold laws_FnExactPressureOf.f
  by_cases cl1 : (l1.length : Int) > 1048576
  · exact Ev.ite_pos cl1 (Ev.now _)
  refine Ev.ite_neg cl1 ?_
  refine ev_index_guard l0_0 hl0_0 fun hs => ?_
  obtain ⟨r, b, es, ei⟩ := bothPressureOf l0_0 l1 (by omega) (by omega)
  have etx := ev_toIndex l0_0 (by omega)
  have eqx := ev_eqIndex_same l0_0 (by omega)
  have etl1 := ev_toInt64S l1 (by omega)
  have eql1 := ev_eqInt64S_same l1 (by omega)
  repeat' first
    | exact Ev.now _
    | (with_reducible refine Ev.bind es ?_)
    | (with_reducible refine Ev.bind ei ?_)
    | (with_reducible refine Ev.bind etx ?_)
    | (with_reducible refine Ev.bind eqx ?_)
    | (with_reducible refine Ev.bind etl1 ?_)
    | (with_reducible refine Ev.bind eql1 ?_)
    | (with_reducible refine Ev.ite_pos (by first | rfl | omega | (dsimp only; omega)) ?_)
    | (with_reducible refine Ev.ite_neg (by first | omega | (dsimp only; omega) | (simp; done) | (simp; omega)) ?_)
    | (apply Ev.succ; simp only [laws_FnExactPressureOf.j0])
end Go.Proofs.Ytdhkcnhmmiigoaa.Pure
