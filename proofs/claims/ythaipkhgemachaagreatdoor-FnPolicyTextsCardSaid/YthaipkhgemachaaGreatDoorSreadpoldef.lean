/- Parts of the proof, laid together: contracts and lemmas; no conditions beyond those written. -/
import Derived.Test.YthaipkhgemachaaGreatDoorQx0
import Derived.Test.YthaipkhgemachaaGreatDoorSbase
import Derived.Test.YthaipkhgemachaaGreatDoorSpoldef
import Derived.Test.YthaipkhgemachaaGreatDoorShelf
import Derived.Test.YthaipkhgemachaaGreatDoorQx2
import Derived.Test.YthaipkhgemachaaGreatDoorQx3
import Derived.Test.YthaipkhgemachaaGreatDoorSupto
import Derived.Test.YthaipkhgemachaaGreatDoorSokord
namespace Go.Proofs.YthaipkhgemachaaGreatDoor.Q
open Go.RowKit Go.Proofs.YthaipkhgemachaaGreatDoorW.PrintWords Go.Proofs.YthaipkhgemachaaGreatDoorW.PrintLast Go.Proofs.YthaipkhgemachaaGreatDoorW.PrintMore
attribute [local go_sem] max2_int min2_int max_two min_two max_three min_three max_four min_four   -- for this text's walks alone
set_option linter.unusedVariables false
set_option linter.unusedSimpArgs false
section
theorem rp_ba_ext {a b : ByteArray} (h : a.data.toList = b.data.toList) : a = b := by
  obtain ⟨⟨x⟩⟩ := a
  obtain ⟨⟨y⟩⟩ := b
  have e : x = y := h
  rw [e]
theorem rp_toList (s : ByteArray) : s.toList = s.data.toList := by
  first | exact ByteArray.toList_eq s | exact Go.ByteArray.toList_eq s
def btn (s : ByteArray) (i : Nat) : Int := if h : i < s.size then ((s[i]'h).toNat : Int) else 0
theorem btn_at (s : ByteArray) (i : Nat) (h : i < s.size) : ((s[i]'h).toNat : Int) = btn s i := by unfold btn; rw [dif_pos h]
theorem btn_range (s : ByteArray) (i : Nat) : 0 ≤ btn s i ∧ btn s i ≤ 255 := by
  unfold btn
  split
  · rename_i h
    have := (s[i]'h).toNat_lt
    omega
  · omega
/-- One byte more of the reference's reading: the rows so far and the row begun. -/
def stepP (p : List (List Int) × List Int) (b : UInt8) : List (List Int) × List Int := if 48 ≤ (b.toNat : Int) ∧ (b.toNat : Int) ≤ 57 then (p.1, p.2 ++ [(b.toNat : Int) - 48]) else (p.1 ++ [p.2], [])
def srp (s : ByteArray) (i : Nat) : List (List Int) × List Int := (s.data.toList.take i).foldl stepP ([], [])
theorem take_snoc_ba (s : ByteArray) (i : Nat) (h : i < s.size) : s.data.toList.take (i + 1) = s.data.toList.take i ++ [s[i]'h] := by
  rw [List.take_succ_eq_append_getElem (by rw [Array.length_toList]; exact h)]
  rfl
theorem srp_succ (s : ByteArray) (i : Nat) (h : i < s.size) : srp s (i + 1) = if 48 ≤ btn s i ∧ btn s i ≤ 57 then ((srp s i).1, (srp s i).2 ++ [btn s i - 48]) else ((srp s i).1 ++ [(srp s i).2], []) := by
  unfold srp
  rw [take_snoc_ba s i h, List.foldl_append]
  show stepP _ (s[i]'h) = _
  unfold stepP
  rw [btn_at]
theorem srp_all (s : ByteArray) : srp s s.size = s.data.toList.foldl stepP ([], []) := by
  unfold srp
  rw [List.take_of_length_le (by rw [Array.length_toList]; exact Nat.le_refl _)]
theorem srp_len (s : ByteArray) (i : Nat) (h : i ≤ s.size) : (srp s i).1.length ≤ i ∧ (srp s i).2.length ≤ i ∧ ∀ y ∈ (srp s i).1, y.length ≤ i := by
  induction i with
  | zero => exact ⟨Nat.le_refl _, Nat.le_refl _, fun y hy => by cases hy⟩
  | succ i ih =>
    obtain ⟨h1, h2, h3⟩ := ih (by omega)
    rw [srp_succ s i (by omega)]
    split
    · exact ⟨by show (srp s i).1.length ≤ _; omega, by show ((srp s i).2 ++ _).length ≤ _; rw [List.length_append, List.length_singleton]; omega, fun y hy => by have := h3 y hy; omega⟩
    · refine ⟨by show ((srp s i).1 ++ _).length ≤ _; rw [List.length_append, List.length_singleton]; omega, Nat.zero_le _, fun y hy => ?_⟩
      rcases List.mem_append.1 hy with hy | hy
      · have := h3 y hy; omega
      · rw [List.mem_singleton.1 hy]; omega
/-- A row of digits. -/
def fdg (x : ByteArray) : List Int := x.data.toList.map fun b => (b.toNat : Int) - 48
theorem fdg_len (x : ByteArray) : (fdg x).length = x.size := by unfold fdg; rw [List.length_map, Array.length_toList]; rfl
abbrev irpC (s : ByteArray) : List UInt8 × List UInt8 × Bool := Go.Lib.cut s.data.toList [124]
def irpH (s : ByteArray) : ByteArray := ⟨(irpC s).1.toArray⟩
def irpM (s : ByteArray) : ByteArray := ⟨(irpC s).2.1.toArray⟩
def irpL (s : ByteArray) : List ByteArray := Go.Lib.splitB ⟨#[47]⟩ 0 (Go.Lib.countB (irpH s) ⟨#[47]⟩) (irpH s)
theorem irp_splitB_size (sep : ByteArray) : ∀ (k : Nat) (s : ByteArray), ∀ x ∈ Go.Lib.splitB sep 0 k s, x.size ≤ s.size
  | 0, s, x, hx => by rw [Go.Lib.splitB_zero, List.mem_singleton] at hx; rw [hx]; exact Nat.le_refl _
  | k + 1, s, x, hx => by
    rcases Go.Lib.indexB_cases s sep with hix | ⟨i, hix, _⟩
    · rw [Go.Lib.splitB_miss sep 0 _ s hix, List.mem_singleton] at hx; rw [hx]; exact Nat.le_refl _
    · rw [Go.Lib.splitB_hit sep 0 k s i hix] at hx
      rcases List.mem_cons.1 hx with rfl | hx
      · rw [ByteArray.size_extract]; omega
      · have := irp_splitB_size sep k _ x hx
        rw [ByteArray.size_extract] at this
        omega
theorem irp_sizes (s : ByteArray) : (irpH s).size ≤ s.size ∧ (irpM s).size ≤ s.size := by
  rcases Go.Lib.indexB_cases s ⟨#[124]⟩ with h | ⟨i, h, hi⟩
  · have hc := Go.Lib.cutB_miss s ⟨#[124]⟩ h
    have e1 : irpH s = s := hc.1
    have e2 : irpM s = ByteArray.empty := hc.2.1
    rw [e1, e2]
    exact ⟨Nat.le_refl _, Nat.zero_le _⟩
  · have hc := Go.Lib.cutB_hit s ⟨#[124]⟩ i h
    have e1 : irpH s = s.extract 0 i := hc.1
    have e2 : irpM s = s.extract (i + 1) s.size := hc.2.1
    rw [e1, e2, ByteArray.size_extract, ByteArray.size_extract]
    omega
/-- What the two answer: the rows, the last row, and whether it is a policy's text. -/
def srpF (s : ByteArray) : List (List Int) × List Int × Bool := if s.size ≤ 60 ∧ okPol (srp s s.size).1 (srp s s.size).2 = true ∧ polTxt (srp s s.size).1 (srp s s.size).2 = s then ((srp s s.size).1, (srp s s.size).2, true) else ([], [], false)
def irpF (s : ByteArray) : List (List Int) × List Int × Bool := if (irpC s).2.2 = true ∧ okPol ((irpL s).map fdg) (fdg (irpM s)) = true ∧ polTxt ((irpL s).map fdg) (fdg (irpM s)) = s then ((irpL s).map fdg, fdg (irpM s), true) else ([], [], false)
end
section
theorem nextSeed_ok (s : Int) (h1 : 0 ≤ s) (h2 : s ≤ 2147483646) : ∃ t, impl_nextSeed.f s = some t ∧ 0 ≤ t ∧ t ≤ 2147483646 := by
  refine ⟨_, rfl, ?_, ?_⟩
  · rw [wrap64_id (by omega) (by omega)]
    exact Int.tmod_nonneg _ (by omega)
  · rw [wrap64_id (by omega) (by omega), Int.tmod_eq_emod_of_nonneg (by omega)]
    omega
theorem swap_perm (x : List Int) (i j : Nat) (hi : i < x.length) (hj : j < x.length) : ((x.set i (rd x (j : Int))).set j (rd x (i : Int))).Perm x := by
  rw [rd_lt x i hi, rd_lt x j hj]
  exact List.set_set_perm hi hj
theorem seed_l0 (i : Nat) : ∀ (K : Nat) (s : Int) (x : List Int), i + 1 ≤ K → 0 ≤ s → s ≤ 2147483646 → (i = 0 ∨ i < x.length) → x.length ≤ 6 → ∃ y s', impl_seedOrder.l0 K s x (i : Int) = some (y, s') ∧ y.Perm x ∧ 0 ≤ s' ∧ s' ≤ 2147483646 := by
  induction i with
  | zero =>
    intro K s x hK h1 h2 _ _
    obtain ⟨K, rfl⟩ : ∃ k, K = k + 1 := ⟨K - 1, by omega⟩
    exact ⟨x, s, by simp only [impl_seedOrder.l0]; rw [if_neg (by omega)], List.Perm.refl _, h1, h2⟩
  | succ i ih =>
    intro K s x hK h1 h2 hx hl
    obtain ⟨K, rfl⟩ : ∃ k, K = k + 1 := ⟨K - 1, by omega⟩
    have hx : i + 1 < x.length := by omega
    obtain ⟨t, ht, ht1, ht2⟩ := nextSeed_ok s h1 h2
    have hw : wrap64 (((i + 1 : Nat) : Int) + 1) = ((i + 2 : Nat) : Int) := by rw [wrap64_id (by omega) (by omega)]; omega
    have hw2 : wrap64 (((i + 1 : Nat) : Int) - 1) = (i : Int) := by rw [wrap64_id (by omega) (by omega)]; omega
    obtain ⟨j, hj⟩ : ∃ j : Nat, Int.tmod t ((i + 2 : Nat) : Int) = (j : Int) := ⟨(Int.tmod t ((i + 2 : Nat) : Int)).toNat, (Int.toNat_of_nonneg (Int.tmod_nonneg _ ht1)).symm⟩
    have hj2 : j < i + 2 := by
      have h := Int.tmod_lt_of_pos t (show (0 : Int) < ((i + 2 : Nat) : Int) by omega)
      rw [hj] at h
      omega
    have hp := swap_perm x (i + 1) j hx (by omega)
    obtain ⟨y, s', hy, hyp, hs1, hs2⟩ := ih K t ((x.set (i + 1) (rd x (j : Int))).set j (rd x ((i + 1 : Nat) : Int))) (by omega) ht1 ht2 (by simp only [List.length_set]; omega) (by simp only [List.length_set]; exact hl)
    refine ⟨y, s', ?_, hyp.trans hp, hs1, hs2⟩
    simp only [impl_seedOrder.l0]
    rw [if_pos (by omega), ht, Option.bind_some, hw, hj, hw2, if_neg (by omega), if_pos (by omega), if_pos (by omega), if_pos (by omega), if_pos (by omega), Int.toNat_natCast, Int.toNat_natCast]
    exact hy
theorem seed_f (n : Nat) (h1 : 1 ≤ n) (h6 : n ≤ 6) (s : Int) (hs1 : 0 ≤ s) (hs2 : s ≤ 2147483646) : ∃ y s', impl_seedOrder.f 10 s (n : Int) = some (y, s') ∧ y.Perm (ascI n) ∧ 0 ≤ s' ∧ s' ≤ 2147483646 := by
  obtain ⟨y, s', hy, hp, a, b⟩ := seed_l0 (n - 1) 10 s (ascI n) (by omega) hs1 hs2 (by rw [ascI_len]; omega) (by rw [ascI_len]; exact h6)
  refine ⟨y, s', ?_, hp, a, b⟩
  show (impl_ascending.f 10 (n : Int)).bind _ = _
  rw [ev_asc n h6, Option.bind_some, show wrap64 ((n : Int) - 1) = ((n - 1 : Nat) : Int) by rw [wrap64_id (by omega) (by omega)]; omega]
  exact hy
theorem okOrd_asc (n : Nat) (y : List Int) (hp : y.Perm (ascI n)) : okOrd n y = true := by
  refine (okOrd_iff n y).2 ⟨fun x hx => ?_, ?_, ?_⟩
  · have h := hp.mem_iff.1 hx
    unfold ascI at h
    rw [List.mem_map] at h
    obtain ⟨a, ha, rfl⟩ := h
    rw [List.mem_range] at ha
    omega
  · refine hp.nodup_iff.2 ?_
    unfold ascI
    unfold List.Nodup
    rw [List.pairwise_map]
    exact List.nodup_range.imp (fun hab e => hab (by omega))
  · rw [hp.length_eq, ascI_len]
/-- The seeds in turn, and their orders. -/
def seedSt (n : Nat) (s : Int) : Nat → Int
  | 0 => s
  | i + 1 => ((impl_seedOrder.f 10 (seedSt n s i) (n : Int)).getD ([], 0)).2
def seedRow (n : Nat) (s : Int) (i : Nat) : List Int := ((impl_seedOrder.f 10 (seedSt n s i) (n : Int)).getD ([], 0)).1
theorem seedSt_ok (n : Nat) (h1 : 1 ≤ n) (h6 : n ≤ 6) (s : Int) (hs1 : 0 ≤ s) (hs2 : s ≤ 2147483646) (i : Nat) : 0 ≤ seedSt n s i ∧ seedSt n s i ≤ 2147483646 := by
  induction i with
  | zero => exact ⟨hs1, hs2⟩
  | succ i ih =>
    obtain ⟨y, s', hy, _, a, b⟩ := seed_f n h1 h6 (seedSt n s i) ih.1 ih.2
    unfold seedSt
    rw [hy]
    exact ⟨a, b⟩
theorem seedRow_ev (n : Nat) (h1 : 1 ≤ n) (h6 : n ≤ 6) (s : Int) (hs1 : 0 ≤ s) (hs2 : s ≤ 2147483646) (i : Nat) : impl_seedOrder.f 10 (seedSt n s i) (n : Int) = some (seedRow n s i, seedSt n s (i + 1)) ∧ okOrd n (seedRow n s i) = true := by
  have h := seedSt_ok n h1 h6 s hs1 hs2 i
  obtain ⟨y, s', hy, hp, _, _⟩ := seed_f n h1 h6 (seedSt n s i) h.1 h.2
  have hr : seedRow n s i = y := by unfold seedRow; rw [hy]; rfl
  have ht : seedSt n s (i + 1) = s' := by rw [seedSt, hy]; rfl
  rw [hr, ht]
  exact ⟨hy, okOrd_asc n y hp⟩
set_option maxRecDepth 100000 in
theorem mru_ord7 : ∀ n : Fin 7, ∀ i : Fin 7, i.val < n.val → ((ascI n.val).eraseIdx i.val ++ [(i.val : Int)]).isPerm (ascI n.val) = true := by decide +kernel
theorem mru_ord (n i : Nat) (h : n ≤ 6) (hi : i < n) : okOrd n ((ascI n).eraseIdx i ++ [(i : Int)]) = true := okOrd_asc n _ (List.isPerm_iff.1 (mru_ord7 ⟨n, by omega⟩ ⟨i, by omega⟩ hi))
theorem asc_ord (n : Nat) : okOrd n (ascI n) = true := okOrd_asc n _ (List.Perm.refl _)
theorem okPol_rows (n : Nat) (h1 : 1 ≤ n) (h6 : n ≤ 6) (f : Nat → List Int) (M : List Int) (hM : okOrd n M = true) (hf : ∀ i, i < n → okOrd n (f i) = true) : okPol ((List.range n).map f) M = true := by
  have hl : M.length = n := ((okOrd_iff n M).1 hM).2.2
  unfold okPol
  rw [hl]
  simp only [Bool.and_eq_true, decide_eq_true_iff, List.length_map, List.length_range, List.all_eq_true, List.mem_map, List.mem_range]
  refine ⟨⟨by omega, by omega⟩, trivial, hM, ?_⟩
  rintro x ⟨i, hi, rfl⟩
  exact hf i hi
end
end Go.Proofs.YthaipkhgemachaaGreatDoor.Q
