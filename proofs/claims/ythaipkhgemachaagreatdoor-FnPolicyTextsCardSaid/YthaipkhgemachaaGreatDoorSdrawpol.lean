/- The policies that the reference draws are valid; no conditions beyond those written. -/
import Derived.Test.YthaipkhgemachaaGreatDoorQx0
import Derived.Test.YthaipkhgemachaaGreatDoorQx1
import Derived.Test.YthaipkhgemachaaGreatDoorSbase
import Derived.Test.YthaipkhgemachaaGreatDoorSupto
import Derived.Test.YthaipkhgemachaaGreatDoorSokord
import Derived.Test.YthaipkhgemachaaGreatDoorSreadpoldef
namespace Go.Proofs.YthaipkhgemachaaGreatDoor.Q
open Go.RowKit Go.Proofs.YthaipkhgemachaaGreatDoorW.PrintWords Go.Proofs.YthaipkhgemachaaGreatDoorW.PrintLast Go.Proofs.YthaipkhgemachaaGreatDoorW.PrintMore
attribute [local go_sem] max2_int min2_int max_two min_two max_three min_three max_four min_four   -- for this text's walks alone
set_option linter.unusedVariables false
set_option linter.unusedSimpArgs false

def okPolB (n : Nat) (p : Option (List (List Int) × List Int)) : Bool := match p with
  | some (H, M) => M.isPerm (ascI n) && decide (H.length = n) && H.all fun x => x.isPerm (ascI n)
  | none => false
/-- A policy with a number of ways. -/
def PolN (n : Nat) (H : List (List Int)) (M : List Int) : Prop := okOrd n M = true ∧ H.length = n ∧ ∀ x ∈ H, okOrd n x = true
theorem PolN.okPol {n : Nat} {H : List (List Int)} {M : List Int} (h : PolN n H M) (h1 : 1 ≤ n) (h6 : n ≤ 6) : okPol H M = true := by
  have hl : M.length = n := ((okOrd_iff n M).1 h.1).2.2
  unfold Go.Proofs.YthaipkhgemachaaGreatDoor.Q.okPol
  rw [hl]
  simp only [Bool.and_eq_true, decide_eq_true_iff, List.all_eq_true]
  exact ⟨⟨by omega, by omega⟩, by rw [h.2.1], h.1, h.2.2⟩
theorem PolN.set {n : Nat} {H : List (List Int)} {M : List Int} (h : PolN n H M) (k : Nat) (x : List Int) (hx : okOrd n x = true) : PolN n (H.set k x) M :=
  ⟨h.1, by rw [List.length_set]; exact h.2.1, fun y hy => by
    rcases List.mem_or_eq_of_mem_set hy with hy | rfl
    · exact h.2.2 y hy
    · exact hx⟩
theorem PolN.miss {n : Nat} {H : List (List Int)} {M : List Int} (h : PolN n H M) (x : List Int) (hx : okOrd n x = true) : PolN n H x := ⟨hx, h.2.1, h.2.2⟩
theorem okPolB_iff (n : Nat) (p : Option (List (List Int) × List Int)) (h : okPolB n p = true) : ∃ H M, p = some (H, M) ∧ PolN n H M := by
  unfold okPolB at h
  match p, h with
  | some (H, M), h =>
    simp only [Bool.and_eq_true, decide_eq_true_iff, List.all_eq_true] at h
    exact ⟨H, M, rfl, okOrd_asc n M (List.isPerm_iff.1 h.1.1), h.1.2, fun x hx => okOrd_asc n x (List.isPerm_iff.1 (h.2 x hx))⟩
set_option maxRecDepth 100000 in
theorem lru6 : ∀ n : Fin 6, okPolB (n.val + 1) (spec_l03Lru.f 20 ((n.val + 1 : Nat) : Int)) = true := by decide +kernel
set_option maxRecDepth 100000 in
theorem fifo6 : ∀ n : Fin 6, okPolB (n.val + 1) (spec_l03Fifo.f 20 ((n.val + 1 : Nat) : Int)) = true := by decide +kernel
set_option maxRecDepth 100000 in
theorem mru6 : ∀ n : Fin 6, okPolB (n.val + 1) (spec_l03Mru.f 20 ((n.val + 1 : Nat) : Int)) = true := by decide +kernel
set_option maxRecDepth 100000 in
theorem tree24 : okPolB 2 (spec_l03Tree.f 20 2) = true ∧ okPolB 4 (spec_l03Tree.f 20 4) = true := by decide +kernel
set_option maxRecDepth 100000 in
theorem same6 : ∀ n : Fin 6, (match spec_l03Same.f 20 ((n.val + 1 : Nat) : Int) with | some l => l.isPerm (ascI (n.val + 1)) | none => false) = true := by decide +kernel
theorem lru_ok (n : Nat) (h1 : 1 ≤ n) (h6 : n ≤ 6) : ∃ H M, spec_l03Lru.f 20 (n : Int) = some (H, M) ∧ PolN n H M := by
  obtain ⟨m, rfl⟩ : ∃ m, n = m + 1 := ⟨n - 1, by omega⟩
  exact okPolB_iff _ _ (lru6 ⟨m, by omega⟩)
theorem fifo_ok (n : Nat) (h1 : 1 ≤ n) (h6 : n ≤ 6) : ∃ H M, spec_l03Fifo.f 20 (n : Int) = some (H, M) ∧ PolN n H M := by
  obtain ⟨m, rfl⟩ : ∃ m, n = m + 1 := ⟨n - 1, by omega⟩
  exact okPolB_iff _ _ (fifo6 ⟨m, by omega⟩)
theorem mrup_ok (n : Nat) (h1 : 1 ≤ n) (h6 : n ≤ 6) : ∃ H M, spec_l03Mru.f 20 (n : Int) = some (H, M) ∧ PolN n H M := by
  obtain ⟨m, rfl⟩ : ∃ m, n = m + 1 := ⟨n - 1, by omega⟩
  exact okPolB_iff _ _ (mru6 ⟨m, by omega⟩)
theorem same_ok (n : Nat) (h1 : 1 ≤ n) (h6 : n ≤ 6) : ∃ l, spec_l03Same.f 20 (n : Int) = some l ∧ okOrd n l = true := by
  obtain ⟨m, rfl⟩ : ∃ m, n = m + 1 := ⟨n - 1, by omega⟩
  have h := same6 ⟨m, by omega⟩
  dsimp only at h
  revert h
  cases hh : spec_l03Same.f 20 ((m + 1 : Nat) : Int) with
  | none => intro h; cases h
  | some l => intro h; exact ⟨l, rfl, okOrd_asc _ l (List.isPerm_iff.1 h)⟩
theorem ord_l1 (i : Nat) : ∀ (K : Nat) (s : Int) (x : List Int), i + 1 ≤ K → 0 ≤ s → s ≤ 2147483646 → (i = 0 ∨ i < x.length) → x.length ≤ 6 → ∃ y s', spec_l01Order.l1 K s x (i : Int) = some (y, s') ∧ y.Perm x ∧ 0 ≤ s' ∧ s' ≤ 2147483646 := by
  induction i with
  | zero =>
    intro K s x hK h1 h2 _ _
    obtain ⟨K, rfl⟩ : ∃ k, K = k + 1 := ⟨K - 1, by omega⟩
    exact ⟨x, s, by simp only [spec_l01Order.l1]; rw [if_neg (by omega)], List.Perm.refl _, h1, h2⟩
  | succ i ih =>
    intro K s x hK h1 h2 hx hl
    obtain ⟨K, rfl⟩ : ∃ k, K = k + 1 := ⟨K - 1, by omega⟩
    have hx : i + 1 < x.length := by omega
    obtain ⟨t, ht, ht1, ht2⟩ := nextSeed_ok s h1 h2
    have ht : spec_l01Next.f s = some t := ht
    have hw : wrap64 (((i + 1 : Nat) : Int) + 1) = ((i + 2 : Nat) : Int) := by rw [wrap64_id (by omega) (by omega)]; omega
    have hw2 : wrap64 (((i + 1 : Nat) : Int) - 1) = (i : Int) := by rw [wrap64_id (by omega) (by omega)]; omega
    obtain ⟨j, hj⟩ : ∃ j : Nat, Int.tmod t ((i + 2 : Nat) : Int) = (j : Int) := ⟨(Int.tmod t ((i + 2 : Nat) : Int)).toNat, (Int.toNat_of_nonneg (Int.tmod_nonneg _ ht1)).symm⟩
    have hj2 : j < i + 2 := by
      have h := Int.tmod_lt_of_pos t (show (0 : Int) < ((i + 2 : Nat) : Int) by omega)
      rw [hj] at h
      omega
    have hp := swap_perm x (i + 1) j hx (by omega)
    obtain ⟨y, s', hy, hyp, hs1, hs2⟩ := ih K t ((x.set (i + 1) (rd x (j : Int))).set j (rd x ((i + 1 : Nat) : Int))) (by omega) ht1 ht2 (by simp only [List.length_set]; omega) (by simp only [List.length_set]; exact hl)
    refine ⟨y, s', ?_, hyp.trans hp, hs1, hs2⟩
    simp only [spec_l01Order.l1]
    rw [if_pos (by omega), ht, Option.bind_some, hw, hj, hw2, if_neg (by omega), if_pos (by omega), if_pos (by omega), if_pos (by omega), if_pos (by omega), Int.toNat_natCast, Int.toNat_natCast]
    exact hy
theorem ascI_succ (i : Nat) : ascI (i + 1) = ascI i ++ [(i : Int)] := by unfold ascI; rw [List.range_succ, List.map_append, List.map_singleton]
theorem ord_l0 (n d : Nat) (h6 : n ≤ 6) (s : Int) (K : Nat) : ∀ i, i + d = n → spec_l01Order.l0 (K + 1 + d) s (n : Int) (ascI i) (i : Int) = spec_l01Order.l1 K s (ascI n) (wrap64 ((n : Int) - 1)) := by
  induction d with
  | zero =>
    intro i hi
    obtain rfl : i = n := by omega
    show spec_l01Order.l0 (K + 1) _ _ _ _ = _
    simp only [spec_l01Order.l0]
    rw [if_neg (by omega)]
  | succ d ih =>
    intro i hi
    show spec_l01Order.l0 ((K + 1 + d) + 1) _ _ _ _ = _
    simp only [spec_l01Order.l0]
    rw [if_pos (by omega), if_pos (by rw [ascI_len]; omega), ← ascI_succ, wrap64_succ (by omega)]
    exact ih (i + 1) (by omega)
theorem ord_ok (n : Nat) (h1 : 1 ≤ n) (h6 : n ≤ 6) (s : Int) (hs1 : 0 ≤ s) (hs2 : s ≤ 2147483646) (K : Nat) (hK : 20 ≤ K) : ∃ y s', spec_l01Order.f K s (n : Int) = some (y, s') ∧ okOrd n y = true ∧ 0 ≤ s' ∧ s' ≤ 2147483646 := by
  obtain ⟨y, s', hy, hp, a, b⟩ := ord_l1 (n - 1) (K - 1 - n) s (ascI n) (by omega) hs1 hs2 (by rw [ascI_len]; omega) (by rw [ascI_len]; exact h6)
  refine ⟨y, s', ?_, okOrd_asc n y hp, a, b⟩
  have h := ord_l0 n n h6 s (K - 1 - n) 0 (by omega)
  rw [show K - 1 - n + 1 + n = K by omega, show wrap64 ((n : Int) - 1) = ((n - 1 : Nat) : Int) by rw [wrap64_id (by omega) (by omega)]; omega, hy] at h
  exact h
theorem seedp_l0 (n d : Nat) (h1 : 1 ≤ n) (h6 : n ≤ 6) : ∀ (i : Nat) (s : Int) (X : List (List Int)), i + d = n → 0 ≤ s → s ≤ 2147483646 → X.length = i → (∀ x ∈ X, okOrd n x = true) → ∃ H M, spec_l03Seed.l0 (21 + d) (n : Int) s (i : Int) X = some (H, M) ∧ PolN n H M := by
  induction d with
  | zero =>
    intro i s X hi hs1 hs2 hX hall
    obtain ⟨y, s', hy, ho, _, _⟩ := ord_ok n h1 h6 s hs1 hs2 20 (Nat.le_refl _)
    refine ⟨X, y, ?_, ho, by omega, hall⟩
    show spec_l03Seed.l0 (20 + 1) _ _ _ _ = _
    simp only [spec_l03Seed.l0]
    rw [if_neg (by omega), hy]; rfl
  | succ d ih =>
    intro i s X hi hs1 hs2 hX hall
    obtain ⟨y, s', hy, ho, a, b⟩ := ord_ok n h1 h6 s hs1 hs2 (21 + d) (by omega)
    obtain ⟨H, M, hH, hP⟩ := ih (i + 1) s' (X ++ [y]) (by omega) a b (by rw [List.length_append, List.length_singleton, hX]) (fun x hx => by
      rcases List.mem_append.1 hx with hx | hx
      · exact hall x hx
      · rw [List.mem_singleton] at hx; rw [hx]; exact ho)
    refine ⟨H, M, ?_, hP⟩
    show spec_l03Seed.l0 ((21 + d) + 1) _ _ _ _ = _
    simp only [spec_l03Seed.l0]
    rw [if_pos (by omega), hy, Option.bind_some, if_pos (by rw [hX]; omega), wrap64_succ (by omega)]
    exact hH
theorem seedp_ok (n : Nat) (h1 : 1 ≤ n) (h6 : n ≤ 6) (s : Int) (hs1 : 0 ≤ s) (hs2 : s ≤ 2147483646) : ∃ H M, spec_l03Seed.f (21 + n) (n : Int) s = some (H, M) ∧ PolN n H M :=
  seedp_l0 n n h1 h6 0 s [] (by omega) hs1 hs2 rfl (fun _ h => by cases h)
/-- What holds at one number of rounds holds at more. -/
theorem rounds_up {α : Type} {f : Nat → Option α} (hm : ∀ k, LeO (f k) (f (k + 1))) {N : Nat} {v : α} (h : f N = some v) : ∀ k, N ≤ k → f k = some v := by
  intro k hk
  induction k with
  | zero => obtain rfl : N = 0 := by omega
            exact h
  | succ k ih =>
    rcases Nat.lt_or_ge k N with hlt | hge
    · obtain rfl : N = k + 1 := by omega
      exact h
    · exact hm k v (ih hge)
end Go.Proofs.YthaipkhgemachaaGreatDoor.Q
