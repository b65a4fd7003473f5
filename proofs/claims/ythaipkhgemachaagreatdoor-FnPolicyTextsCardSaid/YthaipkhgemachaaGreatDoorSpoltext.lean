/- The text of a policy: both sides' are the same; no conditions beyond those written. -/
import Derived.Test.YthaipkhgemachaaGreatDoorQx0
import Derived.Test.YthaipkhgemachaaGreatDoorHjoin
import Derived.Test.YthaipkhgemachaaGreatDoorQx2
import Derived.Test.YthaipkhgemachaaGreatDoorSbase
import Derived.Test.YthaipkhgemachaaGreatDoorSlawptmem
import Derived.Test.YthaipkhgemachaaGreatDoorSokord
import Derived.Test.YthaipkhgemachaaGreatDoorSpoldef
namespace Go.Proofs.YthaipkhgemachaaGreatDoor.Q
open Go.RowKit Go.Proofs.YthaipkhgemachaaGreatDoorW.PrintWords Go.Proofs.YthaipkhgemachaaGreatDoorW.PrintLast Go.Proofs.YthaipkhgemachaaGreatDoorW.PrintMore
attribute [local go_sem] max2_int min2_int max_two min_two max_three min_three max_four min_four   -- for this text's walks alone
set_option linter.unusedVariables false
set_option linter.unusedSimpArgs false

theorem ev_digits (l : List Int) (h : isDig l = true) : Ev (fun k => impl_digits.f k l) (digTxt l) := by
  obtain ⟨h1, h2⟩ := Bool.and_eq_true_iff.1 h
  have hl := of_decide_eq_true h1
  unfold impl_digits.f digTxt
  show Ev (fun k => impl_digits.l0 k ((l.take 0).map fun n => 48 + n) l (l.length : Int) ((0 : Nat) : Int)) _
  refine Ev.up (fun i k => impl_digits.l0 k ((l.take i).map fun n => 48 + n) l (l.length : Int) (i : Int)) l.length _ ?_ ?_
  · apply Ev.succ
    simp only [impl_digits.l0]
    rw [List.take_length]
    exact Ev.ite_neg (by omega) (Ev.now _)
  · intro i hi ih
    have hx := List.all_eq_true.1 h2 (rd l (i : Int)) (by rw [rd_lt l i hi]; exact List.getElem_mem hi)
    obtain ⟨hx1, hx2⟩ := Bool.and_eq_true_iff.1 hx
    have hx1 := of_decide_eq_true hx1
    have hx2 := of_decide_eq_true hx2
    have hlen : ((l.take i).map fun n => 48 + n).length = i := by rw [List.length_map, List.length_take]; omega
    rw [take_succ_rd l i hi, List.map_append, List.map_singleton] at ih
    apply Ev.succ
    simp only [impl_digits.l0]
    refine Ev.ite_pos (by omega) (Ev.ite_pos (by omega) (Ev.ite_pos (by omega) (Ev.ite_pos (by omega) ?_)))
    rw [wrap64_succ (by omega), show wrap64 (48 + rd l (i : Int)) % 256 = 48 + rd l (i : Int) by rw [wrap64_id (by omega) (by omega)]; omega]
    exact ih
theorem join_snoc (xs : List (List UInt8)) (x s : List UInt8) : Go.Lib.join (xs ++ [x]) s = (if xs = [] then [] else Go.Lib.join xs s ++ s) ++ x := by
  cases xs with
  | nil => simp [Go.Lib.join, List.intercalate]
  | cons a xs =>
    rw [if_neg (by simp)]
    rw [List.cons_append, Go.Lib.join_cons, Go.Lib.join_cons]
    unfold Go.Lib.joinTail
    simp
theorem pt_append_list (a b : ByteArray) : (a ++ b).data.toList = a.data.toList ++ b.data.toList := by
  rw [ByteArray.data_append, Array.toList_append]
theorem take_succ_pt (H : List (List Int)) (i : Nat) (h : i < H.length) : H.take (i + 1) = H.take i ++ [rd_L2 H (i : Int)] := by
  rw [show rd_L2 H (i : Int) = H[i] by
    show H.getD i _ = H[i]
    rw [List.getD_eq_getElem?_getD, List.getElem?_eq_getElem h, Option.getD_some], List.take_succ_eq_append_getElem h]
theorem join_pol (H : List (List Int)) (i : Nat) (hi : i ≤ H.length) : Go.Lib.join (((H.take i).map digTxt).map (·.data.toList)) [47] = (polTo H i).data.toList := by
  induction i with
  | zero => rfl
  | succ i ih =>
    have ih := ih (by omega)
    rw [take_succ_pt H i (by omega), List.map_append, List.map_append, List.map_singleton, List.map_singleton, join_snoc, ih]
    show _ = ((if i = 0 then polTo H i else polTo H i ++ ⟨#[47]⟩) ++ digTxt (rd_L2 H (i : Int))).data.toList
    rw [pt_append_list]
    by_cases h0 : i = 0
    · subst h0; rfl
    · rw [if_neg h0, if_neg, pt_append_list]
      intro e
      have := congrArg List.length e
      rw [List.length_map, List.length_map, List.length_take, List.length_nil] at this
      omega
theorem okDigs_of {H : List (List Int)} {M : List Int} (h : okPol H M = true) : okDigs H M = true := by
  unfold okPol at h
  obtain ⟨ha, hb⟩ := Bool.and_eq_true_iff.1 h
  obtain ⟨ha1, ha2⟩ := Bool.and_eq_true_iff.1 ha
  obtain ⟨hb1, hb2⟩ := Bool.and_eq_true_iff.1 hb
  obtain ⟨hb2, hb3⟩ := Bool.and_eq_true_iff.1 hb2
  have ha2 := of_decide_eq_true ha2
  have hb1 := of_decide_eq_true hb1
  have key : ∀ y, okOrd M.length y = true → isDig y = true := by
    intro y hy
    obtain ⟨h1, _, h3⟩ := (okOrd_iff M.length y).1 hy
    unfold isDig
    rw [Bool.and_eq_true]
    refine ⟨decide_eq_true (by omega), List.all_eq_true.2 fun n hn => ?_⟩
    have := h1 n hn
    rw [Bool.and_eq_true]
    exact ⟨decide_eq_true (by omega), decide_eq_true (by omega)⟩
  unfold okDigs
  rw [Bool.and_eq_true, Bool.and_eq_true]
  exact ⟨key M hb2, List.all_eq_true.2 fun y hy => key y (List.all_eq_true.1 hb3 y hy), decide_eq_true (by omega)⟩
theorem join_pol_ok (H : List (List Int)) (h6 : H.length ≤ 6) (hH : ∀ y ∈ H, isDig y = true) : strings_Join.f (H.map digTxt) ⟨#[47]⟩ = some (polTo H H.length) := by
  have hj := join_pol H H.length (Nat.le_refl _)
  rw [List.take_length] at hj
  have hsz := polTo_size H hH H.length (Nat.le_refl _)
  unfold strings_Join.f joinS
  have e : (⟨#[47]⟩ : ByteArray).data.toList = [47] := rfl
  have hlen : (polTo H H.length).data.toList.length = (polTo H H.length).size := by rw [Array.length_toList]; rfl
  rw [e, hj, if_pos ⟨by rw [List.length_map]; omega, by rw [hlen]; omega⟩]
theorem ev_policyText (H : List (List Int)) (M : List Int) (h : okDigs H M = true) : Ev (fun k => impl_policyText.f k H M) (polTxt H M) := by
  obtain ⟨hM, hd2⟩ := Bool.and_eq_true_iff.1 h
  obtain ⟨hH, h6⟩ := Bool.and_eq_true_iff.1 hd2
  have h6 := of_decide_eq_true h6
  have hH := List.all_eq_true.1 hH
  have hMl := of_decide_eq_true (Bool.and_eq_true_iff.1 hM).1
  unfold impl_policyText.f
  refine Ev.up (fun i k => impl_policyText.l0 k ((H.take i).map digTxt) H (H.length : Int) (i : Int) H M) H.length _ ?_ ?_
  · apply Ev.succ
    simp only [impl_policyText.l0]
    rw [List.take_length]
    have hsz := polTo_size H hH H.length (Nat.le_refl _)
    refine Ev.ite_neg (by omega) (Ev.cbind (join_pol_ok H h6 hH) (Ev.ite_pos (by omega) (Ev.bind (ev_digits M hM) (Ev.ite_pos ?_ (Ev.now _)))))
    rw [pt_append_size, digTxt_size, show (⟨#[124]⟩ : ByteArray).size = 1 from rfl]; omega
  · intro i hi ih
    have hlen : ((H.take i).map digTxt).length = i := by rw [List.length_map, List.length_take]; omega
    rw [take_succ_pt H i hi, List.map_append, List.map_singleton] at ih
    have hm : isDig (rd_L2 H (i : Int)) = true := hH _ (by
      show H.getD i _ ∈ H
      rw [List.getD_eq_getElem?_getD, List.getElem?_eq_getElem hi, Option.getD_some]
      exact List.getElem_mem _)
    apply Ev.succ
    simp only [impl_policyText.l0]
    refine Ev.ite_pos (by omega) (Ev.ite_pos (by omega) (Ev.ite_pos (by omega) (Ev.bind (ev_digits _ hm) (Ev.ite_pos (by omega) ?_))))
    rw [wrap64_succ (by omega)]
    exact ih
end Go.Proofs.YthaipkhgemachaaGreatDoor.Q
