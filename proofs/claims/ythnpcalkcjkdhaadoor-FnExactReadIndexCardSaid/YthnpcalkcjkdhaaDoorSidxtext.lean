/- The text of an index: both sides' are the same; no conditions beyond those written. -/
import Derived.Test.YthnpcalkcjkdhaaDoorQx0
import Derived.Test.YthnpcalkcjkdhaaDoorHjoin
import Derived.Test.YthnpcalkcjkdhaaDoorQx1
import Derived.Test.YthnpcalkcjkdhaaDoorSbase
import Derived.Test.YthnpcalkcjkdhaaDoorSl06Text
import Derived.Test.YthnpcalkcjkdhaaDoorSokrows
namespace Go.Proofs.YthnpcalkcjkdhaaDoor.Q
open Go.RowKit Go.Proofs.YthnpcalkcjkdhaaDoorW.PrintWords Go.Proofs.YthnpcalkcjkdhaaDoorW.PrintLast Go.Proofs.YthnpcalkcjkdhaaDoorW.PrintMore
attribute [local go_sem] max2_int min2_int max_two min_two max_three min_three max_four min_four   -- for this text's walks alone
set_option linter.unusedVariables false
set_option linter.unusedSimpArgs false

def digI (n x : Int) : Int := (wrap64 (48 + (Go.bits .and .i64 (shr .i64 n x) 1))) % 256
def digsTo (n : Int) (q : Nat) : List Int := (List.range q).map fun (i : Nat) => digI n (5 - (i : Int))
theorem digsTo_succ (n : Int) (q : Nat) : digsTo n (q + 1) = digsTo n q ++ [digI n (5 - (q : Int))] := by unfold digsTo; rw [List.range_succ, List.map_append]; rfl
theorem digsTo_length (n : Int) (q : Nat) : (digsTo n q).length = q := by simp [digsTo]
def wordOf (n : Int) : ByteArray := strOfNums (digsTo n 6)
set_option maxRecDepth 100000 in
theorem word_small : ∀ n : Fin 64, (wordOf (n.val : Int)).data.toList = (addBits ⟨#[]⟩ (n.val : Int) 6).data.toList := by decide +kernel
theorem ba_append_list (a b : ByteArray) : (a ++ b).data.toList = a.data.toList ++ b.data.toList := by
  rw [ByteArray.data_append, Array.toList_append]
theorem ba_ext {a b : ByteArray} (h : a.data.toList = b.data.toList) : a = b := by
  obtain ⟨⟨x⟩⟩ := a
  obtain ⟨⟨y⟩⟩ := b
  have e : x = y := h
  rw [e]
theorem addBits_list (b : ByteArray) (n : Int) (p : Nat) : (addBits b n p).data.toList = b.data.toList ++ (addBits ⟨#[]⟩ n p).data.toList := by
  induction p with
  | zero => simp [addBits]
  | succ p ih =>
    unfold addBits
    rw [ba_append_list, ba_append_list, ih, List.append_assoc]
theorem word_list {n : Int} (h : 0 ≤ n ∧ n ≤ 63) (b : ByteArray) : (addBits b n 6).data.toList = b.data.toList ++ (wordOf n).data.toList := by
  obtain ⟨m, hm⟩ : ∃ m : Fin 64, n = (m.val : Int) := ⟨⟨n.toNat, by omega⟩, by show n = (n.toNat : Int); omega⟩
  rw [addBits_list, hm, word_small m]
theorem join_txt (l : List Int) (h : okRows l = true) : Go.Lib.join ((l.map wordOf).map (·.data.toList)) [47] = (txtTo l l.length).data.toList := by
  obtain ⟨hm, hl⟩ := (okRows_iff l).1 h
  match l, hm, hl with
  | [], _, _ => rfl
  | [a], hm, _ =>
    have ha := hm a (by simp)
    show Go.Lib.join [(wordOf a).data.toList] [47] = (addBits (⟨#[]⟩ : ByteArray) a 6).data.toList
    rw [word_list ha, Go.Lib.join_one]; rfl
  | [a, b], hm, _ =>
    have ha := hm a (by simp)
    have hb := hm b (by simp)
    show Go.Lib.join [(wordOf a).data.toList, (wordOf b).data.toList] [47] = (addBits (addBits (⟨#[]⟩ : ByteArray) a 6 ++ ⟨#[47]⟩) b 6).data.toList
    rw [word_list hb, ba_append_list, word_list ha]
    simp [Go.Lib.join, List.intercalate]
  | [a, b, c], hm, _ =>
    have ha := hm a (by simp)
    have hb := hm b (by simp)
    have hc := hm c (by simp)
    show Go.Lib.join [(wordOf a).data.toList, (wordOf b).data.toList, (wordOf c).data.toList] [47] = (addBits (addBits (addBits (⟨#[]⟩ : ByteArray) a 6 ++ ⟨#[47]⟩) b 6 ++ ⟨#[47]⟩) c 6).data.toList
    rw [word_list hc, ba_append_list, word_list hb, ba_append_list, word_list ha]
    simp [Go.Lib.join, List.intercalate]
theorem join_ok (l : List Int) (h : okRows l = true) : strings_Join.f (l.map wordOf) ⟨#[47]⟩ = some (txtTo l l.length) := by
  have hj := join_txt l h
  have hsz := txtTo_size l l.length
  obtain ⟨_, hl⟩ := (okRows_iff l).1 h
  unfold strings_Join.f joinS
  have e : (⟨#[47]⟩ : ByteArray).data.toList = [47] := rfl
  have hlen : (txtTo l l.length).data.toList.length = (txtTo l l.length).size := by rw [Array.length_toList]; rfl
  rw [e, hj, if_pos ⟨by rw [List.length_map]; omega, by rw [hlen]; omega⟩]
theorem ev_indexText (l : List Int) (h : okRows l = true) : Ev (fun k => impl_indexText.f k l) (txtTo l l.length) := by
  obtain ⟨hm, hl⟩ := (okRows_iff l).1 h
  unfold impl_indexText.f
  refine Ev.up (fun i k => impl_indexText.l0 k ((l.take i).map wordOf) l (l.length : Int) (i : Int)) l.length _ ?_ ?_
  · apply Ev.succ
    simp only [impl_indexText.l0]
    rw [List.take_length]
    exact Ev.ite_neg (by omega) (Ev.cbind (join_ok l h) (Ev.now _))
  · intro i hi ih
    have hlen : ((l.take i).map wordOf).length = i := by rw [List.length_map, List.length_take]; omega
    rw [take_succ_rd l i hi, List.map_append, List.map_singleton] at ih
    apply Ev.succ
    simp only [impl_indexText.l0]
    refine Ev.ite_pos (by omega) (Ev.ite_pos (by omega) (Ev.ite_pos (by omega) ?_))
    show Ev (fun k => impl_indexText.l1 k ((l.take i).map wordOf) (rd l (i : Int)) (digsTo (rd l (i : Int)) 0) (5 - ((0 : Nat) : Int)) l (l.length : Int) (i : Int)) _
    refine Ev.up (fun q k => impl_indexText.l1 k ((l.take i).map wordOf) (rd l (i : Int)) (digsTo (rd l (i : Int)) q) (5 - (q : Int)) l (l.length : Int) (i : Int)) 6 _ ?_ ?_
    · apply Ev.succ
      simp only [impl_indexText.l1]
      refine Ev.ite_neg (by omega) (Ev.ite_pos (by omega) ?_)
      rw [wrap64_succ (by omega)]
      exact ih
    · intro q hq ihq
      have hdl := digsTo_length (rd l (i : Int)) q
      rw [digsTo_succ] at ihq
      apply Ev.succ
      simp only [impl_indexText.l1]
      refine Ev.ite_pos (by omega) (Ev.ite_pos (by omega) (Ev.ite_pos (by omega) ?_))
      rw [show wrap64 (5 - (q : Int) - 1) = 5 - ((q + 1 : Nat) : Int) by rw [wrap64_id (by omega) (by omega)]; omega]
      exact ihq
end Go.Proofs.YthnpcalkcjkdhaaDoor.Q
