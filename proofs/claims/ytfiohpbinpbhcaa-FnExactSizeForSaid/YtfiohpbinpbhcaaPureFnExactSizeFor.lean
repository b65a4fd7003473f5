/- The plain law of FnExactSizeFor: what it computes answers true; no conditions. -/
import Derived.Test.YtfiohpbinpbhcaaQx0
import Derived.Test.YtfiohpbinpbhcaaHsizefor
import Derived.Test.YtfiohpbinpbhcaaQx1
import Derived.Test.YtfiohpbinpbhcaaQx16
import Derived.Test.YtfiohpbinpbhcaaQx2
import Derived.Test.YtfiohpbinpbhcaaSbase
import Derived.Test.YtfiohpbinpbhcaaScurve
import Derived.Test.YtfiohpbinpbhcaaSdist
import Derived.Test.YtfiohpbinpbhcaaSidxi64
import Derived.Test.YtfiohpbinpbhcaaSuses
import Derived.Test.YtfiohpbinpbhcaaSwords
namespace Go.Proofs.Ytfiohpbinpbhcaa.Q
open Go.RowKit Go.Proofs.YtfiohpbinpbhcaaW.PrintWords Go.Proofs.YtfiohpbinpbhcaaW.PrintLast Go.Proofs.YtfiohpbinpbhcaaW.PrintMore
attribute [local go_sem] max2_int min2_int max_two min_two max_three min_three max_four min_four   -- for this text's walks alone
set_option linter.unusedVariables false
set_option linter.unusedSimpArgs false

def laws_FnExactSizeFor.PureQ : Prop := ∀ (l0 : List Int) (a1 : Int), l0.length ≤ 9223372036854775807 → (Lit.int .i64 a1).wf = true → ∃ k, laws_FnExactSizeFor.f k l0 a1 = some true
end Go.Proofs.Ytfiohpbinpbhcaa.Q
namespace Go.Proofs.Ytfiohpbinpbhcaa.Pure
open Go.RowKit Go.Proofs.Ytfiohpbinpbhcaa.Q Go.Proofs.YtfiohpbinpbhcaaW.PrintWords
theorem ev_first (c : List Int) (a : Int) (h : c.length ≤ 1000) : Ev (fun k => spec_SizeFor.l0 k a c 0) (if firstLe c a < 0 then (0, false) else (firstLe c a, true)) := by
  have key := Ev.down (fun i k => spec_SizeFor.l0 k a c (i : Int)) c.length (fun i => if (c.drop i).findIdx (fun n => decide (n ≤ a)) < (c.drop i).length then (((i + (c.drop i).findIdx (fun n => decide (n ≤ a)) : Nat) : Int), true) else (0, false)) ?_ ?_ 0 (Nat.zero_le _)
  · refine Ev.eq key ?_
    unfold firstLe idxF
    simp only [List.drop_zero, Nat.zero_add]
    by_cases hlt : c.findIdx (fun n => decide (n ≤ a)) < c.length
    · rw [if_pos hlt, if_pos hlt, if_neg (by omega)]
    · rw [if_neg hlt, if_neg hlt, if_pos (by omega)]
  · apply Ev.succ
    simp only [spec_SizeFor.l0]
    exact Ev.ite_neg (by omega) (Ev.eq (Ev.now _) (by simp))
  · intro i hi ih
    apply Ev.succ
    simp only [spec_SizeFor.l0]
    refine Ev.ite_pos (by omega) (Ev.ite_pos (by omega) ?_)
    rw [drop_rd c i hi, List.findIdx_cons, List.length_cons]
    by_cases hx : rd c (i : Int) ≤ a
    · refine Ev.ite_pos hx (Ev.eq (Ev.now _) ?_)
      simp [hx]
    · refine Ev.ite_neg hx ?_
      rw [wrap64_succ (by omega)]
      refine Ev.eq ih ?_
      simp only [decide_eq_false hx, cond_false]
      by_cases hlt : (c.drop (i + 1)).findIdx (fun n => decide (n ≤ a)) < (c.drop (i + 1)).length
      · rw [if_pos hlt, if_pos (by omega)]; congr 2; omega
      · rw [if_neg hlt, if_neg (by omega)]
theorem bothSizeFor (l : List Int) (m : Int) (h : l.length ≤ 1048576) : ∃ r b, Ev (fun k => spec_SizeFor.f k l m) (r, b) ∧ Ev (fun k => impl_SizeFor.f k l m) (r, b) := by
  unfold spec_SizeFor.f impl_SizeFor.f
  have hs : spec_l04Size.f m = some (decide (0 ≤ m ∧ m ≤ 60)) := by
    unfold spec_l04Size.f spec_l00In.f
    by_cases h0 : m ≥ 0 <;> simp [h0]
  cases ho : okUses l with
  | false =>
    refine ⟨0, false, Ev.bind (ev_l02Uses l (by omega)) ?_, Ev.ite_neg (by simp) (Ev.now _)⟩
    rw [ho]; refine Ev.ite_neg (by simp) (Ev.succ ?_); simp only [spec_SizeFor.j0]; exact Ev.ite_pos (by first | rfl | trivial | simp) (Ev.now _)
  | true =>
    obtain ⟨hm, hl⟩ := (okUses_iff l).1 ho
    have hd : (dists l).length = l.length := by unfold dists; rw [distsTo_length]
    cases hr : decide (0 ≤ m ∧ m ≤ 60) with
    | false =>
      refine ⟨0, false, Ev.bind (ev_l02Uses l (by omega)) ?_, Ev.ite_pos rfl (Ev.ite_neg (by simp) (Ev.now _))⟩
      rw [ho]; refine Ev.ite_pos rfl (Ev.cbind hs (Ev.succ ?_)); simp only [spec_SizeFor.j0]; rw [hr]; exact Ev.ite_pos (by first | rfl | trivial | simp) (Ev.now _)
    | true =>
      have hf := ev_first (crv (dists l) (60 + 1)) m (by rw [crv_length]; omega)
      have hcs := ev_spec_curve (dists l) 60 (by omega) (by omega)
      have hci := ev_impl_curve (dists l) 60 (by omega) (by omega)
      obtain ⟨v, hv⟩ : ∃ v : Int × Bool, v = (if firstLe (crv (dists l) (60 + 1)) m < 0 then (0, false) else (firstLe (crv (dists l) (60 + 1)) m, true)) := ⟨_, rfl⟩
      refine ⟨v.1, v.2, Ev.bind (ev_l02Uses l (by omega)) ?_, Ev.ite_pos rfl (Ev.ite_pos rfl (Ev.bind (ev_distancesOf l (by omega)) (Ev.bind hci ?_)))⟩
      · rw [ho]; refine Ev.ite_pos rfl (Ev.cbind hs (Ev.succ ?_)); simp only [spec_SizeFor.j0]; rw [hr]
        refine Ev.ite_neg (by simp) (Ev.bind (ev_l04Distances l (by omega)) (Ev.bind hcs (Ev.eq hf ?_)))
        rw [← hv]
      · by_cases hn : firstLe (crv (dists l) (60 + 1)) m < 0
        · rw [if_pos hn] at hv; rw [hv]; exact Ev.ite_pos hn (Ev.now _)
        · rw [if_neg hn] at hv; rw [hv]; exact Ev.ite_neg hn (Ev.now _)
theorem FnExactSizeFor : laws_FnExactSizeFor.PureQ := by
  intro l0 a1
  intros
  refine Ev.rounds (g := fun k => laws_FnExactSizeFor.f k l0 a1) ?_
  unfold laws_FnExactSizeFor.f
  by_cases cl0 : (l0.length : Int) > 1048576
  · exact Ev.ite_pos cl0 (Ev.now _)
  refine Ev.ite_neg cl0 ?_
  obtain ⟨r, b, es, ei⟩ := bothSizeFor l0 a1 (by omega)
  have etl0 := ev_toInt64S l0 (by omega)
  have eql0 := ev_eqInt64S_same l0 (by omega)
  repeat' first
    | exact Ev.now _
    | (with_reducible refine Ev.bind es ?_)
    | (with_reducible refine Ev.bind ei ?_)
    | (with_reducible refine Ev.bind etl0 ?_)
    | (with_reducible refine Ev.bind eql0 ?_)
    | (with_reducible refine Ev.ite_pos (by first | rfl | omega | (dsimp only; omega)) ?_)
    | (with_reducible refine Ev.ite_neg (by first | omega | (dsimp only; omega) | (simp; done) | (simp; omega)) ?_)
    | (apply Ev.succ; simp only [laws_FnExactSizeFor.j0])
end Go.Proofs.Ytfiohpbinpbhcaa.Pure
