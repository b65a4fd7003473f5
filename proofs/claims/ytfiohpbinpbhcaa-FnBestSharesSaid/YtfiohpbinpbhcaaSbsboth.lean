/- Parts of the proof, laid together: contracts and lemmas; no conditions beyond those written. -/
import Derived.Test.YtfiohpbinpbhcaaQx0
import Derived.Test.YtfiohpbinpbhcaaHarePrograms
import Derived.Test.YtfiohpbinpbhcaaHimplBestShares
import Derived.Test.YtfiohpbinpbhcaaSbestshares
import Derived.Test.YtfiohpbinpbhcaaSdrawfew
import Derived.Test.YtfiohpbinpbhcaaScrv
import Derived.Test.YtfiohpbinpbhcaaSr8sum
import Derived.Test.YtfiohpbinpbhcaaSokuses
import Derived.Test.YtfiohpbinpbhcaaQx1
import Derived.Test.YtfiohpbinpbhcaaSbase
import Derived.Test.YtfiohpbinpbhcaaSdraw
namespace Go.Proofs.Ytfiohpbinpbhcaa.Q
open Go.RowKit Go.Proofs.YtfiohpbinpbhcaaW.PrintWords Go.Proofs.YtfiohpbinpbhcaaW.PrintLast Go.Proofs.YtfiohpbinpbhcaaW.PrintMore
attribute [local go_sem] max2_int min2_int max_two min_two max_three min_three max_four min_four   -- for this text's walks alone
set_option linter.unusedVariables false
set_option linter.unusedSimpArgs false
section
def bestSh (P : List (List Int)) (a : Int) : List Int × Int × Bool := if okBest P a = true then ((fsh (crvT a.toNat) a.toNat P).1.getD a.toNat [], rd (fsh (crvT a.toNat) a.toNat P).2 a, true) else ([], 0, false)
/-- The curve's numbers are few. -/
theorem crvT_small (T : Nat) (p : List Int) (h : okUses p = true) : Sml (crvT T p) T := by
  obtain ⟨_, hl⟩ := (okUses_iff _).1 h
  have hdl : (dists p).length = p.length := distsTo_length _ _
  intro k hk
  unfold crvT crv
  rw [rd_range (fun n => (((dists p).countP (isMiss n) : Nat) : Int)) T k hk]
  have := List.countP_le_length (p := isMiss k) (l := dists p)
  omega
theorem impl_BestShares_best (P : List (List Int)) (a : Int) : impl_BestShares.f P a = some (bestSh P a) := by
  unfold impl_BestShares.f bestSh
  cases hok : okBest P a with
  | false => simp
  | true =>
    rw [if_pos rfl, if_pos rfl]
    unfold okBest at hok
    obtain ⟨h1, h2⟩ := Bool.and_eq_true_iff.1 hok
    obtain ⟨h3, h4⟩ := Bool.and_eq_true_iff.1 h2
    unfold okProgs at h1
    obtain ⟨h5, h6⟩ := Bool.and_eq_true_iff.1 h1
    have e : bshD P a.toNat 0 = fsh (crvT a.toNat) a.toNat P := by
      unfold bshD
      rw [List.drop_zero]
      exact bsh_fsh _ _ _ (by simpa using h3) (by simpa using h5) (fun p hp => crvT_small _ _ (List.all_eq_true.1 h6 p hp))
    rw [e]
end
section
theorem r8At_ok (l : List Int) (hb : Bytes l) (i n : Nat) (hn : 1 ≤ n) : ∃ x : Nat, laws_r8At.f l (i : Int) (n : Int) = some (x : Int) ∧ x < n := by
  unfold laws_r8At.f
  by_cases h1 : n ≤ 1
  · exact ⟨0, by rw [if_pos (by omega)]; rfl, by omega⟩
  · rw [if_neg (by omega)]
    by_cases h : i < l.length
    · have hr := hb _ (List.getElem_mem h)
      rw [if_neg (by omega), if_pos (by omega), if_pos (by omega), if_neg (by omega), rd_lt l i h, wrap64_id (by omega) (by omega)]
      have t0 := Int.tmod_nonneg (n : Int) hr.1
      have t1 := Int.tmod_lt_of_pos l[i] (show (0 : Int) < (n : Int) by omega)
      exact ⟨(Int.tmod l[i] (n : Int)).toNat, by rw [Int.toNat_of_nonneg t0], by omega⟩
    · exact ⟨0, by rw [if_pos (by omega)]; rfl, by omega⟩
end
section
theorem ev_R8Uses (l : List Int) (hb : Bytes l) : ∃ u, Ev (fun k => spec_R8Uses.f k l) u ∧ okUses u = true ∧ u.length ≤ 13 := by
  unfold spec_R8Uses.f
  obtain ⟨n, a1, s1, e1, hn, h1⟩ := pick_ok l hb 0 0 14 (by omega) (by omega) (by omega)
  obtain ⟨m, a2, s2, e2, hm, h2⟩ := pick_ok l hb a1 s1 5 (by omega) (by omega) (by omega)
  obtain ⟨u, a3, s3, e3, hl, hr, h3⟩ := few_ok l hb a2 s2 n (m + 1) (by omega) (by omega) (by omega) (by omega)
  refine ⟨u, Ev.cbind (a := (l, 0, 0)) rfl (Ev.cbind e1 (Ev.cbind e2 (Ev.bind (a := (u, (a3 : Int), s3)) ?_ (Ev.now _)))), (okUses_iff u).2 ⟨hr, by omega⟩, by omega⟩
  have : wrap64 (1 + (m : Int)) = ((m + 1 : Nat) : Int) := by rw [wrap64_id (by omega) (by omega)]; omega
  show Ev (fun k => spec_l02DrawFew.f k l (a2 : Int) s2 (n : Int) (wrap64 (1 + (m : Int)))) _
  rw [this]
  exact e3
end
end Go.Proofs.Ytfiohpbinpbhcaa.Q
