/- The policies that the reference draws are valid: the draws; no conditions beyond those written. -/
import Derived.Test.YthaipkhgemachaaGreatDoorQx0
import Derived.Test.YthaipkhgemachaaGreatDoorQx1
import Derived.Test.YthaipkhgemachaaGreatDoorQx2
import Derived.Test.YthaipkhgemachaaGreatDoorSbase
import Derived.Test.YthaipkhgemachaaGreatDoorSdrawpol
namespace Go.Proofs.YthaipkhgemachaaGreatDoor.Q
open Go.RowKit Go.Proofs.YthaipkhgemachaaGreatDoorW.PrintWords Go.Proofs.YthaipkhgemachaaGreatDoorW.PrintLast Go.Proofs.YthaipkhgemachaaGreatDoorW.PrintMore
attribute [local go_sem] max2_int min2_int max_two min_two max_three min_three max_four min_four   -- for this text's walks alone
set_option linter.unusedVariables false
set_option linter.unusedSimpArgs false

theorem pick_big (l : List Int) (hb : Bytes l) (a : Nat) (sd : Int) (n : Nat) (hn : 200 < n) (h2 : n ≤ 65536) (ha : a ≤ 100000000000) :
    ∃ (x a' : Nat) (s : Int), spec_l00Src_pick.f l (a : Int) sd (n : Int) = some ((x : Int), (a' : Int), s) ∧ x < n ∧ a' ≤ a + 2 := by
  unfold spec_l00Src_pick.f
  obtain ⟨x, s, e, h0, h255⟩ := next_ok l hb a sd (by omega)
  obtain ⟨x2, s2, e2, h02, h2552⟩ := next_ok l hb (a + 1) s (by omega)
  have hw : wrap64 (wrap64 (x * 256) + x2) = x * 256 + x2 := by rw [wrap64_id (x := x * 256) (by omega) (by omega), wrap64_id (by omega) (by omega)]
  have hp : 0 ≤ x * 256 + x2 := by omega
  have t0 := Int.tmod_nonneg (n : Int) hp
  have t1 := Int.tmod_lt_of_pos (x * 256 + x2) (show (0 : Int) < (n : Int) by omega)
  refine ⟨(Int.tmod (x * 256 + x2) (n : Int)).toNat, a + 1 + 1, s2, ?_, by omega, by omega⟩
  rw [if_neg (by omega), e, Option.bind_some, if_pos (by omega)]
  dsimp only
  rw [e2, Option.bind_some, if_neg (by omega)]
  dsimp only
  rw [hw, Int.toNat_of_nonneg t0]
theorem one_okd (l : List Int) (hb : Bytes l) (a : Nat) (sd : Int) (n : Nat) (hn : 1 ≤ n) (h2 : n ≤ 200) (ha : a ≤ 1000000000000) :
    ∃ (b : Bool) (a' : Nat) (s : Int), spec_l00Src_one.f l (a : Int) sd (n : Int) = some (b, (a' : Int), s) ∧ a' ≤ a + 1 := by
  obtain ⟨x, a', s, e, _, h⟩ := pick_ok l hb a sd n hn h2 ha
  exact ⟨_, a', s, by unfold spec_l00Src_one.f; rw [e]; rfl, h⟩
theorem j0_ok (l : List Int) (hb : Bytes l) (a : Nat) (sd : Int) (n : Nat) (h1 : 1 ≤ n) (h6 : n ≤ 6) (ha : a ≤ 1000000) (K : Nat) (hK : 20 ≤ K) :
    ∃ H M a' s, spec_l03DrawOf.j0 (K + 1) (n : Int) l (a : Int) sd = some (H, M, a', s) ∧ PolN n H M := by
  obtain ⟨H, M, eL, hP⟩ := lru_ok n h1 h6
  have eL := rounds_up (f := fun k => spec_l03Lru.f k (n : Int)) (spec_l03Lru.mono _) eL K hK
  obtain ⟨x, a1, s1, e1, hx, ha1⟩ := pick_ok l hb a sd n h1 (by omega) (by omega)
  obtain ⟨y, a2, s2, e2, hy, ha2⟩ := pick_big l hb a1 s1 50000 (by omega) (by omega) (by omega)
  obtain ⟨o, t, e3, ho, _, _⟩ := ord_ok n h1 h6 (wrap64 (1 + (y : Int))) (by rw [wrap64_id (by omega) (by omega)]; omega) (by rw [wrap64_id (by omega) (by omega)]; omega) K hK
  obtain ⟨b1, a3, s3, e4, ha3⟩ := one_okd l hb a2 s2 2 (by omega) (by omega) (by omega)
  obtain ⟨b2, a4, s4, e5, ha4⟩ := one_okd l hb a3 s3 2 (by omega) (by omega) (by omega)
  obtain ⟨sm, e6, hsm⟩ := same_ok n h1 h6
  have e6 := rounds_up (f := fun k => spec_l03Same.f k (n : Int)) (spec_l03Same.mono _) e6 K hK
  have hl := hP.2.1
  simp only [spec_l03DrawOf.j0]
  rw [eL, Option.bind_some, e1, Option.bind_some]
  dsimp only
  rw [show (50000 : Int) = ((50000 : Nat) : Int) from rfl, e2, Option.bind_some]
  dsimp only
  rw [e3, Option.bind_some, show (2 : Int) = ((2 : Nat) : Int) from rfl, e4, Option.bind_some]
  dsimp only
  cases b1 with
  | true =>
    rw [if_pos rfl, if_pos (by omega), if_pos (by omega)]
    exact ⟨_, _, _, _, rfl, hP.set _ _ ho⟩
  | false =>
    rw [if_neg (by decide), e5, Option.bind_some]
    dsimp only
    cases b2 with
    | true =>
      rw [if_pos rfl, e6, Option.bind_some, if_pos (by omega), if_pos (by omega)]
      exact ⟨_, _, _, _, rfl, hP.set _ _ hsm⟩
    | false =>
      rw [if_neg (by decide)]
      exact ⟨_, _, _, _, rfl, hP.miss _ ho⟩
theorem drawOf_ok (l : List Int) (hb : Bytes l) (a : Nat) (sd : Int) (n : Nat) (h1 : 1 ≤ n) (h6 : n ≤ 6) (ha : a ≤ 1000) (K : Nat) (hK : 40 ≤ K) :
    ∃ H M a' s, spec_l03DrawOf.f K l (a : Int) sd (n : Int) = some (H, M, a', s) ∧ PolN n H M := by
  obtain ⟨K, rfl⟩ : ∃ k, K = k + 1 := ⟨K - 1, by omega⟩
  obtain ⟨x, a1, s1, e1, hx, ha1⟩ := pick_ok l hb a sd 7 (by omega) (by omega) (by omega)
  have hj := j0_ok l hb a1 s1 n h1 h6 (by omega) K (by omega)
  unfold spec_l03DrawOf.f
  rw [show (7 : Int) = ((7 : Nat) : Int) from rfl, e1, Option.bind_some]
  dsimp only
  by_cases c0 : (x : Int) = 0
  · rw [if_pos c0]
    obtain ⟨H, M, e, hP⟩ := lru_ok n h1 h6
    rw [rounds_up (f := fun k => spec_l03Lru.f k (n : Int)) (spec_l03Lru.mono _) e (K + 1) (by omega)]
    exact ⟨_, _, _, _, rfl, hP⟩
  rw [if_neg c0]
  by_cases c1 : (x : Int) = 1
  · rw [if_pos c1]
    obtain ⟨H, M, e, hP⟩ := fifo_ok n h1 h6
    rw [rounds_up (f := fun k => spec_l03Fifo.f k (n : Int)) (spec_l03Fifo.mono _) e (K + 1) (by omega)]
    exact ⟨_, _, _, _, rfl, hP⟩
  rw [if_neg c1]
  by_cases c2 : (x : Int) = 2
  · rw [if_pos c2]
    obtain ⟨H, M, e, hP⟩ := mrup_ok n h1 h6
    rw [rounds_up (f := fun k => spec_l03Mru.f k (n : Int)) (spec_l03Mru.mono _) e (K + 1) (by omega)]
    exact ⟨_, _, _, _, rfl, hP⟩
  rw [if_neg c2]
  by_cases c3 : (x : Int) = 3
  · rw [if_pos c3]
    by_cases d2 : (n : Int) = 2
    · rw [if_pos d2]
      obtain rfl : n = 2 := by omega
      obtain ⟨H, M, e, hP⟩ := okPolB_iff _ _ tree24.1
      have e : spec_l03Tree.f (K + 1) ((2 : Nat) : Int) = some (H, M) := rounds_up (f := fun k => spec_l03Tree.f k 2) (spec_l03Tree.mono _) e (K + 1) (by omega)
      rw [e]
      exact ⟨_, _, _, _, rfl, hP⟩
    rw [if_neg d2]
    by_cases d4 : (n : Int) = 4
    · rw [if_pos d4]
      obtain rfl : n = 4 := by omega
      obtain ⟨H, M, e, hP⟩ := okPolB_iff _ _ tree24.2
      have e : spec_l03Tree.f (K + 1) ((4 : Nat) : Int) = some (H, M) := rounds_up (f := fun k => spec_l03Tree.f k 4) (spec_l03Tree.mono _) e (K + 1) (by omega)
      rw [e]
      exact ⟨_, _, _, _, rfl, hP⟩
    rw [if_neg d4]
    exact hj
  rw [if_neg c3]
  by_cases c4 : (x : Int) = 4
  · rw [if_pos c4]
    obtain ⟨y, a2, s2, e2, hy, ha2⟩ := pick_big l hb a1 s1 50000 (by omega) (by omega) (by omega)
    rw [show (50000 : Int) = ((50000 : Nat) : Int) from rfl, e2, Option.bind_some]
    dsimp only
    obtain ⟨H, M, e, hP⟩ := seedp_ok n h1 h6 (wrap64 (1 + (y : Int))) (by rw [wrap64_id (by omega) (by omega)]; omega) (by rw [wrap64_id (by omega) (by omega)]; omega)
    rw [rounds_up (f := fun k => spec_l03Seed.f k (n : Int) (wrap64 (1 + (y : Int)))) (spec_l03Seed.mono _ _) e (K + 1) (by omega)]
    exact ⟨_, _, _, _, rfl, hP⟩
  rw [if_neg c4]
  exact hj
theorem drawOk_ok (l : List Int) (hb : Bytes l) (K : Nat) (hK : 40 ≤ K) : ∃ H M a' s, spec_l03DrawOk.f K l 0 0 = some (H, M, a', s) ∧ okPol H M = true := by
  obtain ⟨x, a1, s1, e1, hx, ha1⟩ := pick_ok l hb 0 0 4 (by omega) (by omega) (by omega)
  obtain ⟨b, a2, s2, e2, ha2⟩ := one_okd l hb a1 s1 6 (by omega) (by omega) (by omega)
  unfold spec_l03DrawOk.f
  rw [show (4 : Int) = ((4 : Nat) : Int) from rfl, show spec_l00Src_pick.f l 0 0 ((4 : Nat) : Int) = _ from e1, Option.bind_some]
  dsimp only
  rw [show spec_l00Src_one.f l (a1 : Int) s1 6 = _ from e2, Option.bind_some]
  dsimp only
  cases b with
  | true =>
    rw [if_pos rfl]
    obtain ⟨H, M, a', s, e, hP⟩ := drawOf_ok l hb a2 s2 6 (by omega) (by omega) (by omega) K hK
    rw [show spec_l03DrawOf.f K l (a2 : Int) s2 6 = _ from e, Option.bind_some]
    exact ⟨_, _, _, _, rfl, hP.okPol (by omega) (by omega)⟩
  | false =>
    rw [if_neg (by decide), show wrap64 (1 + (x : Int)) = ((1 + x : Nat) : Int) by rw [wrap64_id (by omega) (by omega)]; omega]
    obtain ⟨H, M, a', s, e, hP⟩ := drawOf_ok l hb a2 s2 (1 + x) (by omega) (by omega) (by omega) K hK
    rw [e, Option.bind_some]
    exact ⟨_, _, _, _, rfl, hP.okPol (by omega) (by omega)⟩
theorem b10pol_ok (l : List Int) (hb : Bytes l) (K : Nat) (hK : 40 ≤ K) : ∃ H M, spec_B10Policy.f K l = some (H, M) ∧ okPol H M = true := by
  obtain ⟨H, M, a', s, e, hP⟩ := drawOk_ok l hb K hK
  refine ⟨H, M, ?_, hP⟩
  unfold spec_B10Policy.f
  show ((spec_l03DrawOk.f K l 0 0).bind _) = _
  rw [e]; rfl
end Go.Proofs.YthaipkhgemachaaGreatDoor.Q
