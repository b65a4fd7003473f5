/- Parts of the proof, laid together: contracts and lemmas; no conditions beyond those written. -/
import Derived.Test.YtfiohpbinpbhcaaQx0
import Derived.Test.YtfiohpbinpbhcaaHarePrograms
import Derived.Test.YtfiohpbinpbhcaaHimplBestShares
import Derived.Test.YtfiohpbinpbhcaaSbestshares
import Derived.Test.YtfiohpbinpbhcaaSbsev
import Derived.Test.YtfiohpbinpbhcaaSprograms
import Derived.Test.YtfiohpbinpbhcaaQx1
import Derived.Test.YtfiohpbinpbhcaaSsetldef
namespace Go.Proofs.Ytfiohpbinpbhcaa.Q
open Go.RowKit Go.Proofs.YtfiohpbinpbhcaaW.PrintWords Go.Proofs.YtfiohpbinpbhcaaW.PrintLast Go.Proofs.YtfiohpbinpbhcaaW.PrintMore
attribute [local go_sem] max2_int min2_int max_two min_two max_three min_three max_four min_four   -- for this text's walks alone
set_option linter.unusedVariables false
set_option linter.unusedSimpArgs false
section
theorem impl_BestShares_best (P : List (List Int)) (a : Int) : impl_BestShares.f P a = some (bestSh P a) := by
  unfold impl_BestShares.f bestSh
  cases hok : okBest P a with
  | false => simp
  | true =>
    rw [if_pos rfl, if_pos rfl]
    unfold okBest at hok
    obtain ⟨h1, h2⟩ := Bool.and_eq_true_iff.1 hok
    obtain ⟨h3, h4⟩ := Bool.and_eq_true_iff.1 h2
    unfold okProgs at h1
    obtain ⟨h5, h6⟩ := Bool.and_eq_true_iff.1 h1
    have e : bshD P a.toNat 0 = fsh (crvT a.toNat) a.toNat P := by
      unfold bshD
      rw [List.drop_zero]
      exact bsh_fsh _ _ _ (by simpa using h3) (by simpa using h5) (fun p hp => crvT_small _ _ (List.all_eq_true.1 h6 p hp))
    rw [e]
end
section
/-- The numbers m, m + 1, .. -/
def ups (m : Int) (n : Nat) : List Int := (List.range n).map fun (j : Nat) => m + (j : Int)
theorem ups_length (m : Int) (n : Nat) : (ups m n).length = n := by simp [ups]
theorem ev_markInt64S (l : List Int) (m : Int) (h : l.length ≤ 35184372088832) (h0 : 0 ≤ m) (h1 : m ≤ 4611686018427387904) : Ev (fun k => laws_markInt64S.f k l m) (m + l.length, ups m l.length) := by
  unfold laws_markInt64S.f
  have S0 : l = ups m 0 ++ l.drop 0 := by simp [ups]
  have e0 : m = m + ((0 : Nat) : Int) := by simp
  have key := Ev.up (fun i k => laws_markInt64S.l0 k (ups m i ++ l.drop i) (m + (i : Int)) (i : Int)) l.length (m + l.length, ups m l.length) ?_ ?_
  · refine Ev.congr (fun k => ?_) key
    show _ = laws_markInt64S.l0 k (ups m 0 ++ l.drop 0) (m + ((0 : Nat) : Int)) ((0 : Nat) : Int)
    rw [← S0, ← e0]; rfl
  · apply Ev.succ
    simp only [laws_markInt64S.l0]
    refine Ev.ite_neg (by simp [ups_length]) (Ev.eq (Ev.now _) ?_)
    simp
  · intro i hi ih
    apply Ev.succ
    simp only [laws_markInt64S.l0]
    refine Ev.ite_pos (by simp [ups_length]; omega) (Ev.ite_pos (by omega) ?_)
    rw [wrap64_succ (by omega), Int.toNat_natCast, wrap64_id (by omega) (by omega)]
    have e : (ups m i ++ l.drop i).set i (m + (i : Int)) = ups m (i + 1) ++ l.drop (i + 1) := by
      rw [List.set_append_right (h := by simp [ups_length]), ups_length, Nat.sub_self, List.drop_eq_getElem_cons hi, List.set_cons_zero]
      unfold ups
      rw [List.range_succ, List.map_append, List.append_assoc]
      rfl
    rw [e, show m + (i : Int) + 1 = m + ((i + 1 : Nat) : Int) by omega]
    exact ih
theorem ev_heldInt64S (m : Int) (n : Nat) (h : n ≤ 35184372088832) (h0 : 0 ≤ m) (h1 : m ≤ 4611686018427387904) : Ev (fun k => laws_heldInt64S.f k (ups m n) m) (m + n) := by
  unfold laws_heldInt64S.f
  have key := Ev.up (fun i k => laws_heldInt64S.l0 k (ups m n) (m + (i : Int)) (i : Int)) n (m + (n : Int)) ?_ ?_
  · refine Ev.congr (fun k => ?_) key
    show _ = laws_heldInt64S.l0 k (ups m n) (m + ((0 : Nat) : Int)) ((0 : Nat) : Int)
    simp
  · apply Ev.succ
    simp only [laws_heldInt64S.l0]
    exact Ev.ite_neg (by simp [ups_length]) (Ev.now _)
  · intro i hi ih
    apply Ev.succ
    simp only [laws_heldInt64S.l0]
    have hrd : rd (ups m n) (i : Int) = m + (i : Int) := by
      rw [rd_lt _ _ (by rw [ups_length]; exact hi)]
      simp [ups]
    refine Ev.ite_pos (by simp [ups_length]; omega) (Ev.ite_pos (by omega) (Ev.ite_pos hrd ?_))
    rw [wrap64_succ (by omega), wrap64_id (by omega) (by omega), show m + (i : Int) + 1 = m + ((i + 1 : Nat) : Int) by omega]
    exact ih
end
end Go.Proofs.Ytfiohpbinpbhcaa.Q
