/- Parts of the proof, laid together: contracts and lemmas; no conditions beyond those written. -/
import Derived.Test.YtdhkcnhmmiigoaaGreatDoorQx0
import Derived.Test.YtdhkcnhmmiigoaaGreatDoorHjoin
import Derived.Test.YtdhkcnhmmiigoaaGreatDoorQx2
import Derived.Test.YtdhkcnhmmiigoaaGreatDoorSupto
import Derived.Test.YtdhkcnhmmiigoaaGreatDoorSlu
import Derived.Test.YtdhkcnhmmiigoaaGreatDoorStxtdef
import Derived.Test.YtdhkcnhmmiigoaaGreatDoorQx1
import Derived.Test.YtdhkcnhmmiigoaaGreatDoorSred
namespace Go.Proofs.YtdhkcnhmmiigoaaGreatDoor.Q
open Go.RowKit Go.Proofs.YtdhkcnhmmiigoaaGreatDoorW.PrintWords Go.Proofs.YtdhkcnhmmiigoaaGreatDoorW.PrintLast Go.Proofs.YtdhkcnhmmiigoaaGreatDoorW.PrintMore
attribute [local go_sem] max2_int min2_int max_two min_two max_three min_three max_four min_four   -- for this text's walks alone
set_option linter.unusedVariables false
set_option linter.unusedSimpArgs false
section
def digI (n x : Int) : Int := (wrap64 (48 + (Go.bits .and .i64 (shr .i64 n x) 1))) % 256
def digsTo (n : Int) (q : Nat) : List Int := (List.range q).map fun (i : Nat) => digI n (5 - (i : Int))
theorem digsTo_succ (n : Int) (q : Nat) : digsTo n (q + 1) = digsTo n q ++ [digI n (5 - (q : Int))] := by unfold digsTo; rw [List.range_succ, List.map_append]; rfl
theorem digsTo_length (n : Int) (q : Nat) : (digsTo n q).length = q := by simp [digsTo]
def wordOf (n : Int) : ByteArray := strOfNums (digsTo n 6)
set_option maxRecDepth 100000 in
theorem word_small : ∀ n : Fin 64, (wordOf (n.val : Int)).data.toList = (addBits ⟨#[]⟩ (n.val : Int) 6).data.toList := by decide +kernel
theorem ba_append_list (a b : ByteArray) : (a ++ b).data.toList = a.data.toList ++ b.data.toList := by
  rw [ByteArray.data_append, Array.toList_append]
theorem ba_ext {a b : ByteArray} (h : a.data.toList = b.data.toList) : a = b := by
  obtain ⟨⟨x⟩⟩ := a
  obtain ⟨⟨y⟩⟩ := b
  have e : x = y := h
  rw [e]
theorem addBits_list (b : ByteArray) (n : Int) (p : Nat) : (addBits b n p).data.toList = b.data.toList ++ (addBits ⟨#[]⟩ n p).data.toList := by
  induction p with
  | zero => simp [addBits]
  | succ p ih =>
    unfold addBits
    rw [ba_append_list, ba_append_list, ih, List.append_assoc]
theorem word_list {n : Int} (h : 0 ≤ n ∧ n ≤ 63) (b : ByteArray) : (addBits b n 6).data.toList = b.data.toList ++ (wordOf n).data.toList := by
  obtain ⟨m, hm⟩ : ∃ m : Fin 64, n = (m.val : Int) := ⟨⟨n.toNat, by omega⟩, by show n = (n.toNat : Int); omega⟩
  rw [addBits_list, hm, word_small m]
theorem join_txt (l : List Int) (h : okRows l = true) : Go.Lib.join ((l.map wordOf).map (·.data.toList)) [47] = (txtTo l l.length).data.toList := by
  obtain ⟨hm, hl⟩ := (okRows_iff l).1 h
  match l, hm, hl with
  | [], _, _ => rfl
  | [a], hm, _ =>
    have ha := hm a (by simp)
    show Go.Lib.join [(wordOf a).data.toList] [47] = (addBits (⟨#[]⟩ : ByteArray) a 6).data.toList
    rw [word_list ha, Go.Lib.join_one]; rfl
  | [a, b], hm, _ =>
    have ha := hm a (by simp)
    have hb := hm b (by simp)
    show Go.Lib.join [(wordOf a).data.toList, (wordOf b).data.toList] [47] = (addBits (addBits (⟨#[]⟩ : ByteArray) a 6 ++ ⟨#[47]⟩) b 6).data.toList
    rw [word_list hb, ba_append_list, word_list ha]
    simp [Go.Lib.join, List.intercalate]
  | [a, b, c], hm, _ =>
    have ha := hm a (by simp)
    have hb := hm b (by simp)
    have hc := hm c (by simp)
    show Go.Lib.join [(wordOf a).data.toList, (wordOf b).data.toList, (wordOf c).data.toList] [47] = (addBits (addBits (addBits (⟨#[]⟩ : ByteArray) a 6 ++ ⟨#[47]⟩) b 6 ++ ⟨#[47]⟩) c 6).data.toList
    rw [word_list hc, ba_append_list, word_list hb, ba_append_list, word_list ha]
    simp [Go.Lib.join, List.intercalate]
theorem join_ok (l : List Int) (h : okRows l = true) : strings_Join.f (l.map wordOf) ⟨#[47]⟩ = some (txtTo l l.length) := by
  have hj := join_txt l h
  have hsz := txtTo_size l l.length
  obtain ⟨_, hl⟩ := (okRows_iff l).1 h
  unfold strings_Join.f joinS
  have e : (⟨#[47]⟩ : ByteArray).data.toList = [47] := rfl
  have hlen : (txtTo l l.length).data.toList.length = (txtTo l l.length).size := by rw [Array.length_toList]; rfl
  rw [e, hj, if_pos ⟨by rw [List.length_map]; omega, by rw [hlen]; omega⟩]
theorem ev_indexText (l : List Int) (h : okRows l = true) : Ev (fun k => impl_indexText.f k l) (txtTo l l.length) := by
  obtain ⟨hm, hl⟩ := (okRows_iff l).1 h
  unfold impl_indexText.f
  refine Ev.up (fun i k => impl_indexText.l0 k ((l.take i).map wordOf) l (l.length : Int) (i : Int)) l.length _ ?_ ?_
  · apply Ev.succ
    simp only [impl_indexText.l0]
    rw [List.take_length]
    exact Ev.ite_neg (by omega) (Ev.cbind (join_ok l h) (Ev.now _))
  · intro i hi ih
    have hlen : ((l.take i).map wordOf).length = i := by rw [List.length_map, List.length_take]; omega
    rw [take_succ_rd l i hi, List.map_append, List.map_singleton] at ih
    apply Ev.succ
    simp only [impl_indexText.l0]
    refine Ev.ite_pos (by omega) (Ev.ite_pos (by omega) (Ev.ite_pos (by omega) ?_))
    show Ev (fun k => impl_indexText.l1 k ((l.take i).map wordOf) (rd l (i : Int)) (digsTo (rd l (i : Int)) 0) (5 - ((0 : Nat) : Int)) l (l.length : Int) (i : Int)) _
    refine Ev.up (fun q k => impl_indexText.l1 k ((l.take i).map wordOf) (rd l (i : Int)) (digsTo (rd l (i : Int)) q) (5 - (q : Int)) l (l.length : Int) (i : Int)) 6 _ ?_ ?_
    · apply Ev.succ
      simp only [impl_indexText.l1]
      refine Ev.ite_neg (by omega) (Ev.ite_pos (by omega) ?_)
      rw [wrap64_succ (by omega)]
      exact ih
    · intro q hq ihq
      have hdl := digsTo_length (rd l (i : Int)) q
      rw [digsTo_succ] at ihq
      apply Ev.succ
      simp only [impl_indexText.l1]
      refine Ev.ite_pos (by omega) (Ev.ite_pos (by omega) (Ev.ite_pos (by omega) ?_))
      rw [show wrap64 (5 - (q : Int) - 1) = 5 - ((q + 1 : Nat) : Int) by rw [wrap64_id (by omega) (by omega)]; omega]
      exact ihq
end
section
theorem lead_small : ∀ n : Fin 64, impl_lead.f 8 (n.val : Int) = some ((ldN n.val : Nat) : Int) ∧ ldN n.val < 64 := by decide +kernel
theorem impl_lead_f {n : Nat} (h : n < 64) : impl_lead.f 8 (n : Int) = some ((ldN n : Nat) : Int) := (lead_small ⟨n, h⟩).1
theorem ldN_lt {n : Nat} (h : n < 64) : ldN n < 64 := (lead_small ⟨n, h⟩).2
def nI (l : List Nat) : List Int := l.map fun (n : Nat) => (n : Int)
theorem nI_length (l : List Nat) : (nI l).length = l.length := by unfold nI; rw [List.length_map]
theorem rd_nI (l : List Nat) (i : Nat) (h : i < l.length) : rd (nI l) (i : Int) = ((l[i] : Nat) : Int) := by
  rw [rd_lt (nI l) i (by rw [nI_length]; exact h)]; unfold nI; rw [List.getElem_map]
theorem nI_set (l : List Nat) (i y : Nat) : (nI l).set i (y : Int) = nI (l.set i y) := by unfold nI; rw [List.map_set]
theorem nI_append (l m : List Nat) : nI (l ++ m) = nI l ++ nI m := by unfold nI; rw [List.map_append]
/-- The row on its way through what is there. -/
def redXto (S : List Nat) (row : Nat) (j : Nat) : Nat := (S.take j).foldl (fun r o => if r &&& ldN o = 0 then r else r ^^^ o) row
theorem redXto_succ (S : List Nat) (row j : Nat) (h : j < S.length) : redXto S row (j + 1) = if redXto S row j &&& ldN S[j] = 0 then redXto S row j else redXto S row j ^^^ S[j] := by
  unfold redXto; rw [List.take_succ_eq_append_getElem h, List.foldl_append]; rfl
theorem redXto_all (S : List Nat) (row : Nat) : redXto S row S.length = redX S row := by unfold redXto redX; rw [List.take_length]
theorem redXto_lt (S : List Nat) (row j : Nat) (hr : row < 64) (hS : ∀ o ∈ S, o < 64) : redXto S row j < 64 := by
  unfold redXto
  have key : ∀ (l : List Nat) (row : Nat), row < 64 → (∀ o ∈ l, o < 64) → l.foldl (fun r o => if r &&& ldN o = 0 then r else r ^^^ o) row < 64 := by
    intro l
    induction l with
    | nil => intro row h _; exact h
    | cons o os ih =>
      intro row h hl
      rw [List.foldl_cons]
      refine ih _ ?_ (fun x hx => hl x (List.mem_cons_of_mem _ hx))
      split
      · exact h
      · exact lt64 h (hl o List.mem_cons_self)
  exact key _ row hr (fun o ho => hS o (List.mem_of_mem_take ho))
/-- What is there, on its way: the first j are cleared of the row's greatest bit. -/
def redMto (S : List Nat) (r j : Nat) : List Nat := (S.take j).map (redOne r) ++ S.drop j
theorem redMto_length (S : List Nat) (r j : Nat) : (redMto S r j).length = S.length := by
  unfold redMto; rw [List.length_append, List.length_map, List.length_take, List.length_drop]; omega
theorem redMto_get (S : List Nat) (r j : Nat) (h : j < S.length) : (redMto S r j)[j]'(by rw [redMto_length]; exact h) = S[j] := by
  unfold redMto
  rw [List.getElem_append_right (by rw [List.length_map, List.length_take]; omega), List.getElem_drop]
  congr 1
  rw [List.length_map, List.length_take]; omega
theorem redMto_succ (S : List Nat) (r j : Nat) (h : j < S.length) : redMto S r (j + 1) = (redMto S r j).set j (redOne r S[j]) := by
  unfold redMto
  have hl : ((S.take j).map (redOne r)).length = j := by rw [List.length_map, List.length_take]; omega
  rw [List.take_succ_eq_append_getElem h, List.map_append, List.set_append_right _ _ (by omega), hl, Nat.sub_self, List.drop_eq_getElem_cons h, List.set_cons_zero, List.append_assoc]
  rfl
theorem redMto_all (S : List Nat) (r : Nat) : redMto S r S.length = S.map (redOne r) := by unfold redMto; rw [List.take_length, List.drop_length, List.append_nil]
theorem redMto_same (S : List Nat) (r j : Nat) (h : j < S.length) (h0 : redOne r S[j] = S[j]) : redMto S r (j + 1) = redMto S r j := by
  rw [redMto_succ S r j h, h0]
  have := redMto_get S r j h
  conv => lhs; rw [← this]
  exact List.set_getElem_self _
theorem redMto_lt (S : List Nat) (r j : Nat) (hr : r < 64) (hS : ∀ o ∈ S, o < 64) : ∀ o ∈ redMto S r j, o < 64 := by
  intro o ho
  unfold redMto at ho
  rcases List.mem_append.1 ho with h | h
  · obtain ⟨x, hx, rfl⟩ := List.mem_map.1 h
    unfold redOne
    split
    · exact hS x (List.mem_of_mem_take hx)
    · exact lt64 (hS x (List.mem_of_mem_take hx)) hr
  · exact hS o (List.mem_of_mem_drop h)
def rowsTo (rows : List Int) (i : Nat) : List Nat := redN ((rows.take i).map Int.toNat)
theorem rowsTo_succ (rows : List Int) (i : Nat) (h : i < rows.length) : rowsTo rows (i + 1) = redStep (rowsTo rows i) (rd rows (i : Int)).toNat := by
  unfold rowsTo; rw [take_succ_rd rows i h, List.map_append]; exact redN_snoc _ _
theorem rowsTo_all (rows : List Int) : rowsTo rows rows.length = redN (rows.map Int.toNat) := by unfold rowsTo; rw [List.take_length]
theorem rowsTo_lt (rows : List Int) (i : Nat) (hr : ∀ x ∈ rows, 0 ≤ x ∧ x ≤ 63) : ∀ o ∈ rowsTo rows i, o < 64 := fun o ho => ((redN_red _ (fun x hx => by obtain ⟨y, hy, rfl⟩ := List.mem_map.1 hx; have := hr y (List.mem_of_mem_take hy); omega)).1 o ho).2
theorem rowsTo_length (rows : List Int) (i : Nat) : (rowsTo rows i).length ≤ i := by
  have := redN_len ((rows.take i).map Int.toNat); unfold rowsTo; rw [List.length_map, List.length_take] at this; omega
theorem and_nat {a b : Nat} (ha : a < 64) (hb : b < 64) : Go.bits .and .i64 (a : Int) (b : Int) = ((a &&& b : Nat) : Int) := (and_i64 a b ha hb).1
theorem xor_nat {a b : Nat} (ha : a < 64) (hb : b < 64) : Go.bits .xor .i64 (a : Int) (b : Int) = ((a ^^^ b : Nat) : Int) := (xor_i64 a b ha hb).1
end
end Go.Proofs.YtdhkcnhmmiigoaaGreatDoor.Q
