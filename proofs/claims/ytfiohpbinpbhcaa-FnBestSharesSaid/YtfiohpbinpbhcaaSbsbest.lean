/- Of three programs: the best shares add up, have the told misses, and no others have fewer; no conditions beyond those written. -/
import Derived.Test.YtfiohpbinpbhcaaQx0
import Derived.Test.YtfiohpbinpbhcaaHarePrograms
import Derived.Test.YtfiohpbinpbhcaaHimplBestShares
import Derived.Test.YtfiohpbinpbhcaaHshareMisses
import Derived.Test.YtfiohpbinpbhcaaSbase
import Derived.Test.YtfiohpbinpbhcaaSbestshares
import Derived.Test.YtfiohpbinpbhcaaSbsboth
import Derived.Test.YtfiohpbinpbhcaaSdrawfew
import Derived.Test.YtfiohpbinpbhcaaScrv
import Derived.Test.YtfiohpbinpbhcaaSr8sum
import Derived.Test.YtfiohpbinpbhcaaSokuses
namespace Go.Proofs.Ytfiohpbinpbhcaa.Q
open Go.RowKit Go.Proofs.YtfiohpbinpbhcaaW.PrintWords Go.Proofs.YtfiohpbinpbhcaaW.PrintLast Go.Proofs.YtfiohpbinpbhcaaW.PrintMore
attribute [local go_sem] max2_int min2_int max_two min_two max_three min_three max_four min_four   -- for this text's walks alone
set_option linter.unusedVariables false
set_option linter.unusedSimpArgs false

theorem crv_at (d : List Int) (T a : Nat) (h : a ≤ T) : rd (crv d (a + 1)) (a : Int) = rd (crv d (T + 1)) (a : Int) := by
  unfold crv
  rw [rd_range (fun n => ((d.countP (isMiss n) : Nat) : Int)) a a (Nat.le_refl _), rd_range (fun n => ((d.countP (isMiss n) : Nat) : Int)) T a h]
theorem share3 (u1 u2 u3 : List Int) (T a b c : Nat) (h1 : okUses u1 = true) (h2 : okUses u2 = true) (h3 : okUses u3 = true) (ha : a ≤ T) (hb : b ≤ T) (hc : c ≤ T) :
    shareTo [u1, u2, u3] [(a : Int), (b : Int), (c : Int)] 3 = shv [crvT T u1, crvT T u2, crvT T u3] [(a : Int), (b : Int), (c : Int)] := by
  have e1 := crvT_small T u1 h1 a ha
  have e2 := crvT_small T u2 h2 b hb
  have e3 := crvT_small T u3 h3 c hc
  show wrap64 (wrap64 (wrap64 (0 + rd (crv (dists u1) ((a : Int).toNat + 1)) (a : Int)) + rd (crv (dists u2) ((b : Int).toNat + 1)) (b : Int)) + rd (crv (dists u3) ((c : Int).toNat + 1)) (c : Int)) = rd (crvT T u1) (a : Int) + (rd (crvT T u2) (b : Int) + (rd (crvT T u3) (c : Int) + 0))
  rw [Int.toNat_natCast, Int.toNat_natCast, Int.toNat_natCast, crv_at _ T a ha, crv_at _ T b hb, crv_at _ T c hc]
  show wrap64 (wrap64 (wrap64 (0 + rd (crvT T u1) (a : Int)) + rd (crvT T u2) (b : Int)) + rd (crvT T u3) (c : Int)) = _
  rw [wrap64_id (x := 0 + rd (crvT T u1) (a : Int)) (by omega) (by omega), wrap64_id (x := 0 + rd (crvT T u1) (a : Int) + rd (crvT T u2) (b : Int)) (by omega) (by omega), wrap64_id (by omega) (by omega)]
  omega
theorem share3_f (u1 u2 u3 : List Int) (T a b c : Nat) (h1 : okUses u1 = true) (h2 : okUses u2 = true) (h3 : okUses u3 = true) (hT : T ≤ 60) (ha : a ≤ T) (hb : b ≤ T) (hc : c ≤ T) :
    impl_ShareMisses.f [u1, u2, u3] [(a : Int), (b : Int), (c : Int)] = some (shv [crvT T u1, crvT T u2, crvT T u3] [(a : Int), (b : Int), (c : Int)], true) := by
  unfold impl_ShareMisses.f
  rw [if_pos]
  · show some (shareTo [u1, u2, u3] [(a : Int), (b : Int), (c : Int)] 3, true) = _
    rw [share3 u1 u2 u3 T a b c h1 h2 h3 ha hb hc]
  · simp [okProgs, h1, h2, h3, okShare]; omega
theorem best3 (u1 u2 u3 : List Int) (T : Nat) (h1 : okUses u1 = true) (h2 : okUses u2 = true) (h3 : okUses u3 = true) (hT : T ≤ 60) : ∃ (a b c : Nat) (m : Int), a + b + c = T ∧ impl_BestShares.f [u1, u2, u3] (T : Int) = some ([(a : Int), (b : Int), (c : Int)], m, true) ∧ impl_ShareMisses.f [u1, u2, u3] [(a : Int), (b : Int), (c : Int)] = some (m, true) ∧
    ∀ x y z : Nat, x + y + z = T → ∃ o, impl_ShareMisses.f [u1, u2, u3] [(x : Int), (y : Int), (z : Int)] = some (o, true) ∧ m ≤ o := by
  have hsm : ∀ p ∈ [u1, u2, u3], Sml (crvT T p) T := by
    intro p hp
    simp only [List.mem_cons, List.not_mem_nil, or_false] at hp
    rcases hp with rfl | rfl | rfl
    · exact crvT_small T _ h1
    · exact crvT_small T _ h2
    · exact crvT_small T _ h3
  obtain ⟨bs, e1, e2, h⟩ := fsh_tab (crvT T) T [u1, u2, u3] (by simp) (by simp) hsm
  obtain ⟨hb, _, _⟩ := h T (Nat.le_refl _)
  obtain ⟨⟨hl, hp, hsum⟩, hbest⟩ := hb
  obtain ⟨s, hs⟩ : ∃ s, s = bs T := ⟨_, rfl⟩
  have hok : okBest [u1, u2, u3] (T : Int) = true := by simp [okBest, okProgs, h1, h2, h3, okShare]; omega
  have hI : impl_BestShares.f [u1, u2, u3] (T : Int) = some (bs T, shv ([u1, u2, u3].map (crvT T)) (bs T), true) := by
    rw [impl_BestShares_best]
    unfold bestSh
    rw [if_pos hok, Int.toNat_natCast, e1, e2, getD_range bs T T (Nat.le_refl _), rd_range (fun n => shv ([u1, u2, u3].map (crvT T)) (bs n)) T T (Nat.le_refl _)]
  rw [← hs] at hl hp hsum hbest hI
  match s, hl, hp, hsum, hbest, hI with
  | [p, q, r], _, hp, hsum, hbest, hI =>
    have hp1 := hp p (by simp)
    have hp2 := hp q (by simp)
    have hp3 := hp r (by simp)
    obtain ⟨a, rfl⟩ : ∃ a : Nat, p = (a : Int) := ⟨p.toNat, by omega⟩
    obtain ⟨b, rfl⟩ : ∃ b : Nat, q = (b : Int) := ⟨q.toNat, by omega⟩
    obtain ⟨c, rfl⟩ : ∃ c : Nat, r = (c : Int) := ⟨r.toNat, by omega⟩
    have hsum' : (a : Int) + ((b : Int) + ((c : Int) + 0)) = (T : Int) := hsum
    refine ⟨a, b, c, _, by omega, hI, share3_f u1 u2 u3 T a b c h1 h2 h3 hT (by omega) (by omega) (by omega), fun x y z hxyz => ⟨_, share3_f u1 u2 u3 T x y z h1 h2 h3 hT (by omega) (by omega) (by omega), ?_⟩⟩
    have hf : Feas 3 (T : Int) [(x : Int), (y : Int), (z : Int)] := ⟨rfl, fun w hw => by simp only [List.mem_cons, List.not_mem_nil, or_false] at hw; rcases hw with rfl | rfl | rfl <;> omega, by show (x : Int) + ((y : Int) + ((z : Int) + 0)) = (T : Int); omega⟩
    rcases hbest _ hf with h4 | ⟨h4, _⟩
    · exact Int.le_of_lt h4
    · exact Int.le_of_eq h4
theorem wsum3 (p q r : Int) : wsumOf [p, q, r] = wrap64 (wrap64 (wrap64 (0 + p) + q) + r) := by
  unfold wsumOf
  simp only [List.foldl_cons, List.foldl_nil]
theorem sum3B (a b c : Nat) (h : a + b + c ≤ 1000) : wsumOf [(a : Int), (b : Int), (c : Int)] = ((a + b + c : Nat) : Int) := by
  rw [wsum3, wrap64_id (x := 0 + (a : Int)) (by omega) (by omega), wrap64_id (x := 0 + (a : Int) + (b : Int)) (by omega) (by omega), wrap64_id (by omega) (by omega)]
  omega
end Go.Proofs.Ytfiohpbinpbhcaa.Q
