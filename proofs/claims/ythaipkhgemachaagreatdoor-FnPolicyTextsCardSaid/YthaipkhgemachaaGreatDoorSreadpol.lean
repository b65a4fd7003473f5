/- Both readers of a policy's text answer the same. -/
import Derived.Test.YthaipkhgemachaaGreatDoorQx0
import Derived.Test.YthaipkhgemachaaGreatDoorSlawptmem
import Derived.Test.YthaipkhgemachaaGreatDoorSbase
import Derived.Test.YthaipkhgemachaaGreatDoorSpoldef
import Derived.Test.YthaipkhgemachaaGreatDoorSpoltext
import Derived.Test.YthaipkhgemachaaGreatDoorSreadpoldef
import Derived.Test.YthaipkhgemachaaGreatDoorSokord
namespace Go.Proofs.YthaipkhgemachaaGreatDoor.Q
open Go.RowKit Go.Proofs.YthaipkhgemachaaGreatDoorW.PrintWords Go.Proofs.YthaipkhgemachaaGreatDoorW.PrintLast Go.Proofs.YthaipkhgemachaaGreatDoorW.PrintMore
attribute [local go_sem] max2_int min2_int max_two min_two max_three min_three max_four min_four   -- for this text's walks alone
set_option linter.unusedVariables false
set_option linter.unusedSimpArgs false

theorem dl_eq (l : List Int) : (digTxt l).data.toList = l.map fun n => UInt8.ofNat (48 + n).toNat := by
  show ((l.map fun n => 48 + n).map fun n => UInt8.ofNat n.toNat).toArray.toList = _
  rw [List.map_map]
  rfl
theorem dig_byte {n : Int} (h : 0 ≤ n ∧ n ≤ 9) : ((UInt8.ofNat (48 + n).toNat).toNat : Int) = 48 + n := by
  rw [UInt8.toNat_ofNat']
  omega
theorem isDig_mem {l : List Int} (h : isDig l = true) : ∀ n ∈ l, 0 ≤ n ∧ n ≤ 9 := by
  intro n hn
  obtain ⟨_, h2⟩ := Bool.and_eq_true_iff.1 h
  obtain ⟨a, b⟩ := Bool.and_eq_true_iff.1 (List.all_eq_true.1 h2 n hn)
  exact ⟨of_decide_eq_true a, of_decide_eq_true b⟩
theorem fold_dig (l : List Int) (h : ∀ n ∈ l, 0 ≤ n ∧ n ≤ 9) (p : List (List Int) × List Int) : (digTxt l).data.toList.foldl stepP p = (p.1, p.2 ++ l) := by
  rw [dl_eq]
  induction l generalizing p with
  | nil => simp
  | cons a l ih =>
    have ha := h a (by simp)
    rw [List.map_cons, List.foldl_cons, ih (fun n hn => h n (List.mem_cons_of_mem _ hn))]
    have e : stepP p (UInt8.ofNat (48 + a).toNat) = (p.1, p.2 ++ [a]) := by
      unfold stepP
      rw [dig_byte ha, if_pos ⟨by omega, by omega⟩, show (48 + a - 48 : Int) = a by omega]
    rw [e]
    simp
theorem fdg_dig (l : List Int) (h : ∀ n ∈ l, 0 ≤ n ∧ n ≤ 9) (x : ByteArray) (hx : x.data.toList = (digTxt l).data.toList) : fdg x = l := by
  unfold fdg
  rw [hx, dl_eq, List.map_map]
  conv => rhs; rw [← List.map_id l]
  refine List.map_congr_left fun n hn => ?_
  show ((UInt8.ofNat (48 + n).toNat).toNat : Int) - 48 = n
  rw [dig_byte (h n hn)]
  omega
theorem dig_no (l : List Int) (h : ∀ n ∈ l, 0 ≤ n ∧ n ≤ 9) (c : UInt8) (hc : c.toNat < 48 ∨ 57 < c.toNat) : ¬ c ∈ (digTxt l).data.toList := by
  rw [dl_eq]
  intro hm
  obtain ⟨n, hn, e⟩ := List.mem_map.1 hm
  have := dig_byte (h n hn)
  rw [e] at this
  have := h n hn
  omega
theorem fold_join (H : List (List Int)) (hH : ∀ y ∈ H, ∀ n ∈ y, 0 ≤ n ∧ n ≤ 9) (p : List (List Int)) (hne : H ≠ []) : ∃ a y, H = a ++ [y] ∧ (Go.Lib.join ((H.map digTxt).map (·.data.toList)) [47]).foldl stepP (p, []) = (p ++ a, y) := by
  induction H generalizing p with
  | nil => exact absurd rfl hne
  | cons x r ih =>
    have hx := hH x (by simp)
    cases r with
    | nil =>
      refine ⟨[], x, rfl, ?_⟩
      rw [List.map_cons, List.map_cons, List.map_nil, List.map_nil, Go.Lib.join_one, fold_dig x hx]
      simp
    | cons z r =>
      obtain ⟨a, y, e1, e2⟩ := ih (fun y hy => hH y (List.mem_cons_of_mem _ hy)) (p ++ [x]) (by simp)
      refine ⟨x :: a, y, by rw [e1]; rfl, ?_⟩
      have e : Go.Lib.join (((x :: z :: r).map digTxt).map (·.data.toList)) [47] = (digTxt x).data.toList ++ 47 :: Go.Lib.join (((z :: r).map digTxt).map (·.data.toList)) [47] := by
        simp [Go.Lib.join, List.intercalate]
      rw [e, List.foldl_append, fold_dig x hx, List.foldl_cons]
      have e3 : stepP (p, [] ++ x) 47 = (p ++ [x], []) := by
        unfold stepP
        rw [if_neg (by decide)]
        simp
      rw [e3, e2]
      simp
theorem pol_list (H : List (List Int)) (M : List Int) : (polTxt H M).data.toList = Go.Lib.join ((H.map digTxt).map (·.data.toList)) [47] ++ 124 :: (digTxt M).data.toList := by
  have hj := join_pol H H.length (Nat.le_refl _)
  rw [List.take_length] at hj
  unfold polTxt
  rw [pt_append_list, pt_append_list, hj, List.append_assoc]
  rfl
theorem join_no (c : UInt8) (hc : c ≠ 47) (W : List (List UInt8)) (hW : ∀ w ∈ W, ¬ c ∈ w) : ¬ c ∈ Go.Lib.join W [47] := by
  induction W with
  | nil => simp [Go.Lib.join, List.intercalate]
  | cons a W ih =>
    cases W with
    | nil => rw [Go.Lib.join_one]; exact hW a (by simp)
    | cons b W =>
      have ih := ih (fun w hw => hW w (List.mem_cons_of_mem _ hw))
      have e : Go.Lib.join (a :: b :: W) [47] = a ++ 47 :: Go.Lib.join (b :: W) [47] := by simp [Go.Lib.join, List.intercalate]
      rw [e]
      intro hm
      rcases List.mem_append.1 hm with hm | hm
      · exact hW a (by simp) hm
      · rcases List.mem_cons.1 hm with hm | hm
        · exact hc hm
        · exact ih hm
theorem map_of_data (L : List ByteArray) (H : List (List Int)) (h : L.map (·.data.toList) = (H.map digTxt).map (·.data.toList)) (hH : ∀ y ∈ H, ∀ n ∈ y, 0 ≤ n ∧ n ≤ 9) : L.map fdg = H := by
  induction L generalizing H with
  | nil => cases H with
    | nil => rfl
    | cons a H => exact absurd h (by simp)
  | cons x L ih => cases H with
    | nil => exact absurd h (by simp)
    | cons a H =>
      rw [List.map_cons, List.map_cons, List.map_cons] at h
      obtain ⟨h1, h2⟩ := List.cons.inj h
      rw [List.map_cons, ih H h2 (fun y hy => hH y (List.mem_cons_of_mem _ hy)), fdg_dig a (hH a (by simp)) x h1]
theorem okPol_facts {H : List (List Int)} {M : List Int} (h : okPol H M = true) : (∀ y ∈ H, ∀ n ∈ y, 0 ≤ n ∧ n ≤ 9) ∧ (∀ n ∈ M, 0 ≤ n ∧ n ≤ 9) ∧ H ≠ [] ∧ H.length ≤ 6 ∧ (∀ y ∈ H, y.length ≤ 6) ∧ M.length ≤ 6 := by
  have hd := okDigs_of h
  unfold okDigs at hd
  obtain ⟨d1, d2⟩ := Bool.and_eq_true_iff.1 hd
  obtain ⟨d2, d3⟩ := Bool.and_eq_true_iff.1 d2
  have l6 : ∀ y, isDig y = true → y.length ≤ 6 := fun y hy => of_decide_eq_true (Bool.and_eq_true_iff.1 hy).1
  refine ⟨fun y hy => isDig_mem (List.all_eq_true.1 d2 y hy), isDig_mem d1, ?_, of_decide_eq_true d3, fun y hy => l6 y (List.all_eq_true.1 d2 y hy), l6 M d1⟩
  unfold okPol at h
  obtain ⟨ha, hb⟩ := Bool.and_eq_true_iff.1 h
  have h1 := of_decide_eq_true (Bool.and_eq_true_iff.1 ha).1
  have h2 := of_decide_eq_true (Bool.and_eq_true_iff.1 hb).1
  intro e
  rw [e, List.length_nil] at h2
  omega
theorem rp_both (H : List (List Int)) (M : List Int) (h : okPol H M = true) (s : ByteArray) (hs : polTxt H M = s) : (srp s s.size = (H, M) ∧ s.size ≤ 60) ∧ ((irpC s).2.2 = true ∧ (irpL s).map fdg = H ∧ fdg (irpM s) = M) := by
  obtain ⟨h1, h2, h3, h4, h5, h6⟩ := okPol_facts h
  have hL := pol_list H M
  have hsz : s.size ≤ 60 := by
    have hz := polTo_size H (fun y hy => (List.all_eq_true.1 (Bool.and_eq_true_iff.1 (Bool.and_eq_true_iff.1 (okDigs_of h)).2).1 y hy)) H.length (Nat.le_refl _)
    rw [← hs]
    unfold polTxt
    rw [pt_append_size, pt_append_size, digTxt_size, show (⟨#[124]⟩ : ByteArray).size = 1 from rfl]
    omega
  rw [hs] at hL
  have hno : ¬ (124 : UInt8) ∈ Go.Lib.join ((H.map digTxt).map (·.data.toList)) [47] := by
    refine join_no 124 (by decide) _ fun w hw => ?_
    obtain ⟨x, hx, rfl⟩ := List.mem_map.1 hw
    obtain ⟨y, hy, rfl⟩ := List.mem_map.1 hx
    exact dig_no y (h1 y hy) 124 (by decide)
  have hcut : irpC s = (Go.Lib.join ((H.map digTxt).map (·.data.toList)) [47], (digTxt M).data.toList, true) := by
    unfold irpC
    rw [hL]
    exact spc_cut 124 _ _ hno
  refine ⟨⟨?_, hsz⟩, by rw [hcut], ?_, ?_⟩
  · obtain ⟨a, y, e1, e2⟩ := fold_join H h1 [] h3
    rw [srp_all, hL, List.foldl_append, e2, List.foldl_cons]
    have e3 : stepP ([] ++ a, y) 124 = (H, []) := by
      unfold stepP
      rw [if_neg (by decide), e1]
      simp
    rw [e3, fold_dig M h2]
    simp
  · refine map_of_data _ H ?_ h1
    unfold irpL
    rw [spc_splitB]
    have e : (irpH s).data.toList = Go.Lib.join ((H.map digTxt).map (·.data.toList)) [47] := by unfold irpH; rw [hcut]
    rw [e]
    refine spc_join 47 _ ?_ fun w hw => ?_
    · intro e
      exact h3 (List.map_eq_nil_iff.1 (List.map_eq_nil_iff.1 e))
    · obtain ⟨x, hx, rfl⟩ := List.mem_map.1 hw
      obtain ⟨y, hy, rfl⟩ := List.mem_map.1 hx
      exact dig_no y (h1 y hy) 47 (by decide)
  · refine fdg_dig M h2 _ ?_
    unfold irpM
    rw [hcut]
theorem rp_same (s : ByteArray) : irpF s = srpF s := by
  by_cases hx : ∃ H M, okPol H M = true ∧ polTxt H M = s
  · obtain ⟨H, M, hok, hs⟩ := hx
    obtain ⟨⟨h1, h2⟩, h3, h4, h5⟩ := rp_both H M hok s hs
    unfold srpF irpF
    rw [h1, h4, h5, if_pos ⟨h3, hok, hs⟩, if_pos ⟨h2, hok, hs⟩]
  · unfold srpF irpF
    rw [if_neg (fun h => hx ⟨_, _, h.2.1, h.2.2⟩), if_neg (fun h => hx ⟨_, _, h.2.1, h.2.2⟩)]
end Go.Proofs.YthaipkhgemachaaGreatDoor.Q
