/- The plain law of FnExactBestIndex: what it computes answers true; no conditions. -/
import Derived.Test.YtdhkcnhmmiigoaaQx0
import Derived.Test.YtdhkcnhmmiigoaaHbestIndex
import Derived.Test.YtdhkcnhmmiigoaaQx4
import Derived.Test.YtdhkcnhmmiigoaaSxor
import Derived.Test.YtdhkcnhmmiigoaaSbidw
import Derived.Test.YtdhkcnhmmiigoaaSbestspec
import Derived.Test.YtdhkcnhmmiigoaaSvalidindex
import Derived.Test.YtdhkcnhmmiigoaaSheldindex
import Derived.Test.YtdhkcnhmmiigoaaSlead
import Derived.Test.YtdhkcnhmmiigoaaSmarks
import Derived.Test.YtdhkcnhmmiigoaaStries
import Derived.Test.YtdhkcnhmmiigoaaStriesame
namespace Go.Proofs.Ytdhkcnhmmiigoaa.Q
open Go.RowKit Go.Proofs.YtdhkcnhmmiigoaaW.PrintWords Go.Proofs.YtdhkcnhmmiigoaaW.PrintLast Go.Proofs.YtdhkcnhmmiigoaaW.PrintMore
attribute [local go_sem] max2_int min2_int max_two min_two max_three min_three max_four min_four   -- for this text's walks alone
set_option linter.unusedVariables false
set_option linter.unusedSimpArgs false

def laws_FnExactBestIndex.PureQ : Prop := ∀ (a0 : Int) (a1 : Int) (l2 : List Int), (Lit.int .i64 a0).wf = true → (Lit.int .i64 a1).wf = true → l2.length ≤ 9223372036854775807 → ∃ k, laws_FnExactBestIndex.f k a0 a1 l2 = some true
end Go.Proofs.Ytdhkcnhmmiigoaa.Q
namespace Go.Proofs.Ytdhkcnhmmiigoaa.Pure
open Go.RowKit Go.Proofs.Ytdhkcnhmmiigoaa.Q Go.Proofs.YtdhkcnhmmiigoaaW.PrintWords
theorem bestRes_len (a0 a1 : Int) (U : List Int) : (bestRes a0 a1 U).1.length ≤ 3 := by
  unfold bestRes
  split
  · rename_i h
    have h0 : isIn 0 3 a0 = true := by rw [Bool.and_eq_true] at h; exact h.1
    have hb : 0 ≤ a0 ∧ a0 ≤ 3 := by simpa [isIn] using h0
    show (nI _).length ≤ 3
    rw [nI_length, rAll_tryT]
    rcases bfold_mem (misI a1 U) (tryT a0.toNat) ([], -1) with e | e
    · rw [e]; simp
    · have := (tryT_mem a0.toNat _ e).1; omega
  · simp
theorem impl_BestIndex_res (a0 a1 : Int) (U : List Int) : impl_BestIndex.f a0 a1 U = some (bestRes a0 a1 U) := by
  unfold impl_BestIndex.f bestRes
  split <;> rfl
theorem FnExactBestIndex : laws_FnExactBestIndex.PureQ := by
  intro a0 a1 l2
  intros
  refine Ev.rounds (g := fun k => laws_FnExactBestIndex.f k a0 a1 l2) ?_
  unfold laws_FnExactBestIndex.f
  by_cases cl2 : (l2.length : Int) > 1048576
  · exact Ev.ite_pos cl2 (Ev.now _)
  refine Ev.ite_neg cl2 ?_
  have es := ev_spec_BestIndex a0 a1 l2 (by omega)
  have ei := impl_BestIndex_res a0 a1 l2
  have hr := bestRes_len a0 a1 l2
  obtain ⟨⟨r, n, b⟩, hq⟩ : ∃ q, q = bestRes a0 a1 l2 := ⟨_, rfl⟩
  rw [← hq] at es ei hr
  have hr : r.length ≤ 3 := hr
  have etl2 := ev_toInt64S l2 (by omega)
  have eql2 := ev_eqInt64S_same l2 (by omega)
  have eml2 := ev_markInt64S l2 1 (by omega) (by omega) (by omega)
  have eqr := ev_eqIndex_same r (by omega)
  have emr := ev_markIndex r 1 (by omega) (by omega) (by omega)
  have ehr := ev_heldIndex 1 r.length (by omega) (by omega) (by omega)
  repeat' first
    | exact Ev.now _
    | (with_reducible refine Ev.bind es ?_)
    | (with_reducible refine Ev.cbind ei ?_)
    | (with_reducible refine Ev.bind etl2 ?_)
    | (with_reducible refine Ev.bind eql2 ?_)
    | (with_reducible refine Ev.bind eml2 ?_)
    | (with_reducible refine Ev.bind eqr ?_)
    | (with_reducible refine Ev.bind emr ?_)
    | (with_reducible refine Ev.bind ehr ?_)
    | (with_reducible refine Ev.ite_pos (by first | exact True.intro | rfl | omega | (dsimp only; omega)) ?_)
    | (with_reducible refine Ev.ite_neg (by first | omega | (dsimp only; omega) | (simp; done) | (simp; omega)) ?_)
    | (apply Ev.succ; simp only [laws_FnExactBestIndex.j0, laws_FnExactBestIndex.j1, laws_FnExactBestIndex.j2])
end Go.Proofs.Ytdhkcnhmmiigoaa.Pure
