/- Parts of the proof, laid together: contracts and lemmas; no conditions beyond those written. -/
import Derived.Test.YthaipkhgemachaaGreatDoorQx0
import Derived.Test.YthaipkhgemachaaGreatDoorHvalidPolicy
import Derived.Test.YthaipkhgemachaaGreatDoorQx1
import Derived.Test.YthaipkhgemachaaGreatDoorQx2
import Derived.Test.YthaipkhgemachaaGreatDoorQx3
import Derived.Test.YthaipkhgemachaaGreatDoorSbase
import Derived.Test.YthaipkhgemachaaGreatDoorSpoldef
import Derived.Test.YthaipkhgemachaaGreatDoorSpoltext
import Derived.Test.YthaipkhgemachaaGreatDoorSreadpol
import Derived.Test.YthaipkhgemachaaGreatDoorSreadpoldef
import Derived.Test.YthaipkhgemachaaGreatDoorSdrawpol2
import Derived.Test.YthaipkhgemachaaGreatDoorSimplReadPolicy
import Derived.Test.YthaipkhgemachaaGreatDoorSlawptmem
import Derived.Test.YthaipkhgemachaaGreatDoorSmakers
import Derived.Test.YthaipkhgemachaaGreatDoorSmakeseed
import Derived.Test.YthaipkhgemachaaGreatDoorSmaketree
import Derived.Test.YthaipkhgemachaaGreatDoorSupto
import Derived.Test.YthaipkhgemachaaGreatDoorSokord
namespace Go.Proofs.YthaipkhgemachaaGreatDoor.Q
open Go.RowKit Go.Proofs.YthaipkhgemachaaGreatDoorW.PrintWords Go.Proofs.YthaipkhgemachaaGreatDoorW.PrintLast Go.Proofs.YthaipkhgemachaaGreatDoorW.PrintMore
attribute [local go_sem] max2_int min2_int max_two min_two max_three min_three max_four min_four   -- for this text's walks alone
set_option linter.unusedVariables false
set_option linter.unusedSimpArgs false
section
theorem b10At_ok (l : List Int) (hb : Bytes l) (i n : Nat) (hi : i ≤ 1) (hn : 2 ≤ n) (hn2 : n ≤ 256) : ∃ r : Nat, laws_b10At.f l (i : Int) (n : Int) = some (r : Int) ∧ r < n := by
  unfold laws_b10At.f
  rw [if_neg (by omega)]
  by_cases h : i < l.length
  · have hr := hb _ (List.getElem_mem h)
    rw [if_pos (by omega), if_pos (by omega), if_neg (by omega), rd_lt l i h, wrap64_id (by omega) (by omega)]
    have t0 := Int.tmod_nonneg (n : Int) hr.1
    have t1 := Int.tmod_lt_of_pos l[i] (show (0 : Int) < (n : Int) by omega)
    exact ⟨(Int.tmod l[i] (n : Int)).toNat, by rw [Int.toNat_of_nonneg t0], by omega⟩
  · rw [if_neg (by omega), if_neg (by omega)]
    have hw : wrap64 (wrap64 ((i : Int) * 37) + 11) = (i : Int) * 37 + 11 := by rw [wrap64_id (x := (i : Int) * 37) (by omega) (by omega), wrap64_id (by omega) (by omega)]
    rw [hw]
    have t0 := Int.tmod_nonneg (n : Int) (show (0 : Int) ≤ (i : Int) * 37 + 11 by omega)
    have t1 := Int.tmod_lt_of_pos ((i : Int) * 37 + 11) (show (0 : Int) < (n : Int) by omega)
    exact ⟨(Int.tmod ((i : Int) * 37 + 11) (n : Int)).toNat, by rw [Int.toNat_of_nonneg t0], by omega⟩
theorem pt_text (H : List (List Int)) (M : List Int) (hok : okPol H M = true) : ∃ K, impl_PolicyText.f K H M = some (polTxt H M, true) := by
  obtain ⟨K, hK⟩ := ev_policyText H M (okDigs_of hok)
  refine ⟨K, ?_⟩
  unfold impl_PolicyText.f
  rw [show impl_ValidPolicy.f H M = some (okPol H M) from rfl, hok, Option.bind_some, if_pos rfl, show impl_policyText.f K H M = some (polTxt H M) from hK K (Nat.le_refl _)]
  rfl
theorem pt_long (l0 l1 : List Int) (h0 : l0.length ≤ 1048576) (h1 : l1.length ≤ 1048576) : laws_b10Long.f l0 l1 = some false := by
  unfold laws_b10Long.f
  rw [if_neg (by omega), decide_eq_false (by omega)]
theorem pt_long_t (l0 l1 : List Int) (h : 1048576 < l0.length ∨ 1048576 < l1.length) : laws_b10Long.f l0 l1 = some true := by
  unfold laws_b10Long.f
  by_cases h0 : (l0.length : Int) > 1048576
  · rw [if_pos h0]
  · rw [if_neg h0, decide_eq_true (by omega)]
theorem nums_same_l (l : List Int) (hl : l.length ≤ 1000) (d : Nat) : ∀ (i e : Nat), i + d = l.length → laws_b10Nums.l0 (d + 1 + e) l l (i : Int) = some true := by
  induction d with
  | zero =>
    intro i e hi
    rw [show 0 + 1 + e = e + 1 by omega]
    simp only [laws_b10Nums.l0]
    rw [if_neg (by omega)]
  | succ d ih =>
    intro i e hi
    rw [show d + 1 + 1 + e = (d + 1 + e) + 1 by omega]
    simp only [laws_b10Nums.l0]
    rw [if_pos (by omega), if_pos (by omega), if_pos (by omega), if_pos trivial, wrap64_succ (by omega)]
    exact ih (i + 1) e (by omega)
theorem nums_same (l : List Int) (hl : l.length ≤ 6) (K : Nat) (hK : 8 ≤ K) : laws_b10Nums.f K l l = some true := by
  unfold laws_b10Nums.f
  rw [if_pos rfl]
  have h := nums_same_l l (by omega) l.length 0 (K - 1 - l.length) (by omega)
  rw [show l.length + 1 + (K - 1 - l.length) = K by omega] at h
  exact h
theorem pols_same_l (H : List (List Int)) (M : List Int) (hl : H.length ≤ 1000) (hH : ∀ x ∈ H, x.length ≤ 6) (d : Nat) : ∀ i, i + d = H.length → laws_b10Policies.l0 (9 + d) (i : Int) H M H M = some true := by
  induction d with
  | zero =>
    intro i hi
    show laws_b10Policies.l0 (8 + 1) _ _ _ _ _ = _
    simp only [laws_b10Policies.l0]
    rw [if_neg (by omega)]
  | succ d ih =>
    intro i hi
    show laws_b10Policies.l0 ((9 + d) + 1) _ _ _ _ _ = _
    simp only [laws_b10Policies.l0]
    have hx : (rd_L2 H (i : Int)).length ≤ 6 := hH _ (by
      show H.getD i _ ∈ H
      rw [List.getD_eq_getElem?_getD, List.getElem?_eq_getElem (by omega), Option.getD_some]
      exact List.getElem_mem _)
    rw [if_pos (by omega), if_pos (by omega), if_pos (by omega), nums_same _ hx _ (by omega), Option.bind_some, if_pos rfl, wrap64_succ (by omega)]
    exact ih (i + 1) (by omega)
theorem pols_same (H : List (List Int)) (M : List Int) (hl : H.length ≤ 1000) (hH : ∀ x ∈ H, x.length ≤ 6) (hM : M.length ≤ 6) : laws_b10Policies.f (10 + H.length) H M H M = some true := by
  unfold laws_b10Policies.f
  rw [nums_same M hM _ (by omega), Option.bind_some, if_pos rfl]
  rw [show 10 + H.length = (9 + H.length) + 1 by omega]
  simp only [laws_b10Policies.j0]
  rw [if_neg (by simp)]
  exact pols_same_l H M hl hH H.length 0 (by omega)
theorem pt_read (H : List (List Int)) (M : List Int) (hok : okPol H M = true) : irpF (polTxt H M) = (H, M, true) := by
  have h := (rp_both H M hok (polTxt H M) rfl).2
  unfold irpF
  rw [h.2.1, h.2.2, if_pos ⟨h.1, hok, rfl⟩]
theorem pt_size (H : List (List Int)) (M : List Int) (hok : okPol H M = true) : (polTxt H M).size ≤ 1048576 := Nat.le_trans (rp_both H M hok (polTxt H M) rfl).1.2 (by decide)
end
section
theorem pt_draw (l : List Int) (hb : Bytes l) : ∃ H M, okPol H M = true ∧ ∀ (A : Option Addr) (c : Nat) (W : World), Kd.C (Kd.int .u8) W A l.length l → l.length ≤ c → Calls Tryz.prog 5 #[.slice A l.length c] W (PolOne W H M) := by
  obtain ⟨H, M, e, h⟩ := b10pol_ok l hb 40 (Nat.le_refl _)
  refine ⟨H, M, h, fun A c W hC hc => (spec_B10Policy.calls 40 A c l H M W hC hc e).mono ?_⟩
  rintro e w' ⟨vH, vM, rfl, hH, hM, hbel⟩
  obtain ⟨A0, c0, A1, c1, rfl, rfl, hp⟩ := PolIn.of_N hH hM
  exact ⟨A0, c0, A1, c1, rfl, hp, hbel⟩
theorem pt_textc (H : List (List Int)) (M : List Int) (hok : okPol H M = true) : ∀ (A0 : Option Addr) (c0 : Nat) (A1 : Option Addr) (c1 : Nat) (W : World), PolIn W ⟨A0, c0, H, A1, c1, M⟩ → Calls Tryz.prog 6 #[.agg #[.slice A0 H.length c0, .slice A1 M.length c1]] W fun e w' => e = .returned (.tuple #[.string (polTxt H M), .bool true]) ∧ Below W.heap.size W w' := by
  obtain ⟨K, e⟩ := pt_text H M hok
  exact fun A0 c0 A1 c1 W h => impl_PolicyText.calls K A0 c0 H A1 c1 M (polTxt H M) true W h.rows h.len0 h.miss h.len1 e
theorem pt_readc (H : List (List Int)) (M : List Int) (hok : okPol H M = true) (m : Int) (W : World) (hm : W.cell? ⟨0, 0, none⟩ = some (.int .i64 m)) : Calls Tryz.prog 7 #[.string (polTxt H M)] W (PolTwo W H M) := by
  have h := impl_ReadPolicy.calls (polTxt H M) m W (pt_size H M hok) hm
  rw [pt_read H M hok] at h
  refine h.mono ?_
  rintro e w' ⟨n, vH, vM, rfl, hH, hM, hbel⟩
  obtain ⟨A0, c0, A1, c1, rfl, rfl, hp⟩ := PolIn.of_R (Kd.S_R hH) hM
  exact ⟨A0, c0, A1, c1, rfl, hp, hbel⟩
theorem pt_seedc (n : Nat) (h1 : 1 ≤ n) (h6 : n ≤ 6) (sd : Int) (hs1 : 1 ≤ sd) (hs2 : sd ≤ 256) : ∃ H M, okPol H M = true ∧ M.length = n ∧ ∀ W, Calls Tryz.prog 9 #[.int .i64 (n : Int), .int .i64 sd] W (PolTwo W H M) := by
  have hrow := fun i => seedRow_ev n h1 h6 sd (by omega) (by omega) i
  refine ⟨(List.range n).map (seedRow n sd), seedRow n sd n, okPol_rows n h1 h6 (seedRow n sd) (seedRow n sd n) (hrow n).2 (fun i _ => (hrow i).2), ((okOrd_iff n _).1 (hrow n).2).2.2, fun W => ?_⟩
  have h := seed_calls n 10 h1 h6 (seedSt n sd) (seedRow n sd) (fun i _ => (hrow i).1) (show (1 : Int) ≤ sd from hs1) (show sd ≤ 2147483646 by omega) W
  refine (show Calls Tryz.prog 9 #[.int .i64 (n : Int), .int .i64 sd] W _ from h).mono ?_
  rintro e w' ⟨vH, vM, rfl, hH, hM, hbel⟩
  obtain ⟨A0, c0, A1, c1, rfl, rfl, hp⟩ := PolIn.of_R hH hM
  exact ⟨A0, c0, A1, c1, rfl, hp, hbel⟩
theorem lru_perm : ∀ i : Fin 2, ([(i.val : Int), 1 - (i.val : Int)] : List Int).isPerm (ascI 2) = true := by decide +kernel
theorem pt_lruc : ∃ H M, okPol H M = true ∧ (∀ W, Calls Tryz.prog 10 #[.int .i64 2] W (PolTwo W H M)) ∧ ∀ W, Calls Tryz.prog 11 #[.int .i64 2] W (PolTwo W H M) := by
  refine ⟨(List.range 2).map fun (i : Nat) => [(i : Int), 1 - (i : Int)], [1, 0], okPol_rows 2 (by decide) (by decide) (fun (i : Nat) => [(i : Int), 1 - (i : Int)]) [1, 0] (okOrd_asc 2 _ (List.isPerm_iff.1 (by decide +kernel))) (fun i hi => okOrd_asc 2 _ (List.isPerm_iff.1 (lru_perm ⟨i, hi⟩))), fun W => ?_, fun W => ?_⟩
  · refine (lru_calls W).mono ?_
    rintro e w' ⟨vH, vM, rfl, hH, hM, hbel⟩
    obtain ⟨A0, c0, A1, c1, rfl, rfl, hp⟩ := PolIn.of_R hH hM
    exact ⟨A0, c0, A1, c1, rfl, hp, hbel⟩
  · refine (tree_calls W).mono ?_
    rintro e w' ⟨vH, vM, rfl, hH, hM, hbel⟩
    obtain ⟨A0, c0, A1, c1, rfl, rfl, hp⟩ := PolIn.of_R hH hM
    exact ⟨A0, c0, A1, c1, rfl, hp, hbel⟩
theorem pt_mruc (n : Nat) (h1 : 1 ≤ n) (h6 : n ≤ 6) : ∃ H M, okPol H M = true ∧ ∀ W, Calls Tryz.prog 12 #[.int .i64 (n : Int)] W (PolTwo W H M) := by
  refine ⟨(List.range n).map fun i => (ascI n).eraseIdx i ++ [(i : Int)], ascI n, okPol_rows n h1 h6 (fun i => (ascI n).eraseIdx i ++ [(i : Int)]) (ascI n) (asc_ord n) (fun i hi => mru_ord n i h6 hi), fun W => ?_⟩
  refine (mru_calls n h1 h6 W).mono ?_
  rintro e w' ⟨vH, vM, rfl, hH, hM, hbel⟩
  obtain ⟨A0, c0, A1, c1, rfl, rfl, hp⟩ := PolIn.of_R hH hM
  exact ⟨A0, c0, A1, c1, rfl, hp, hbel⟩
theorem pt_samec (H : List (List Int)) (M : List Int) (hok : okPol H M = true) (A0 : Option Addr) (c0 : Nat) (A1 : Option Addr) (c1 : Nat) (B0 : Option Addr) (d0 : Nat) (B1 : Option Addr) (d1 : Nat) (W : World) (h : PolIn W ⟨A0, c0, H, A1, c1, M⟩) (h2 : PolIn W ⟨B0, d0, H, B1, d1, M⟩) :
    Calls Tryz.prog 13 #[.agg #[.slice A0 H.length c0, .slice A1 M.length c1], .agg #[.slice B0 H.length d0, .slice B1 M.length d1]] W fun e w' => e = .returned (.bool true) ∧ Below W.heap.size W w' := by
  have f := okPol_facts hok
  exact laws_b10Policies.calls (10 + H.length) A0 c0 H A1 c1 M B0 d0 H B1 d1 M true W h.rows h.len0 h.miss h.len1 h2.rows h2.len0 h2.miss h2.len1 (pols_same H M (by have := f.2.2.2.1; omega) f.2.2.2.2.1 f.2.2.2.2.2)
theorem pt_validc (H : List (List Int)) (M : List Int) (hok : okPol H M = true) (A0 : Option Addr) (c0 : Nat) (A1 : Option Addr) (c1 : Nat) (W : World) (h : PolIn W ⟨A0, c0, H, A1, c1, M⟩) :
    Calls Tryz.prog 14 #[.agg #[.slice A0 H.length c0, .slice A1 M.length c1]] W fun e w' => e = .returned (.bool true) ∧ Below W.heap.size W w' :=
  impl_ValidPolicy.calls A0 c0 H A1 c1 M true W h.rows h.len0 h.miss h.len1 (show some (okPol H M) = some true by rw [hok])
end
end Go.Proofs.YthaipkhgemachaaGreatDoor.Q
