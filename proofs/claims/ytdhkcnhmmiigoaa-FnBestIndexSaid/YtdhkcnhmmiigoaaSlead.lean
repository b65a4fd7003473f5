/- The greatest bit of a small number; no conditions beyond those written. -/
import Derived.Test.YtdhkcnhmmiigoaaQx0
import Derived.Test.YtdhkcnhmmiigoaaQx1
import Derived.Test.YtdhkcnhmmiigoaaSupto
import Derived.Test.YtdhkcnhmmiigoaaSred
import Derived.Test.YtdhkcnhmmiigoaaSlu
namespace Go.Proofs.Ytdhkcnhmmiigoaa.Q
open Go.RowKit Go.Proofs.YtdhkcnhmmiigoaaW.PrintWords Go.Proofs.YtdhkcnhmmiigoaaW.PrintLast Go.Proofs.YtdhkcnhmmiigoaaW.PrintMore
attribute [local go_sem] max2_int min2_int max_two min_two max_three min_three max_four min_four   -- for this text's walks alone
set_option linter.unusedVariables false
set_option linter.unusedSimpArgs false

theorem lead_small : ∀ n : Fin 64, impl_lead.f 8 (n.val : Int) = some ((ldN n.val : Nat) : Int) ∧ ldN n.val < 64 := by decide +kernel
theorem impl_lead_f {n : Nat} (h : n < 64) : impl_lead.f 8 (n : Int) = some ((ldN n : Nat) : Int) := (lead_small ⟨n, h⟩).1
theorem ldN_lt {n : Nat} (h : n < 64) : ldN n < 64 := (lead_small ⟨n, h⟩).2
def nI (l : List Nat) : List Int := l.map fun (n : Nat) => (n : Int)
theorem nI_length (l : List Nat) : (nI l).length = l.length := by unfold nI; rw [List.length_map]
theorem rd_nI (l : List Nat) (i : Nat) (h : i < l.length) : rd (nI l) (i : Int) = ((l[i] : Nat) : Int) := by
  rw [rd_lt (nI l) i (by rw [nI_length]; exact h)]; unfold nI; rw [List.getElem_map]
theorem nI_set (l : List Nat) (i y : Nat) : (nI l).set i (y : Int) = nI (l.set i y) := by unfold nI; rw [List.map_set]
theorem nI_append (l m : List Nat) : nI (l ++ m) = nI l ++ nI m := by unfold nI; rw [List.map_append]
/-- The row on its way through what is there. -/
def redXto (S : List Nat) (row : Nat) (j : Nat) : Nat := (S.take j).foldl (fun r o => if r &&& ldN o = 0 then r else r ^^^ o) row
theorem redXto_succ (S : List Nat) (row j : Nat) (h : j < S.length) : redXto S row (j + 1) = if redXto S row j &&& ldN S[j] = 0 then redXto S row j else redXto S row j ^^^ S[j] := by
  unfold redXto; rw [List.take_succ_eq_append_getElem h, List.foldl_append]; rfl
theorem redXto_all (S : List Nat) (row : Nat) : redXto S row S.length = redX S row := by unfold redXto redX; rw [List.take_length]
theorem redXto_lt (S : List Nat) (row j : Nat) (hr : row < 64) (hS : ∀ o ∈ S, o < 64) : redXto S row j < 64 := by
  unfold redXto
  have key : ∀ (l : List Nat) (row : Nat), row < 64 → (∀ o ∈ l, o < 64) → l.foldl (fun r o => if r &&& ldN o = 0 then r else r ^^^ o) row < 64 := by
    intro l
    induction l with
    | nil => intro row h _; exact h
    | cons o os ih =>
      intro row h hl
      rw [List.foldl_cons]
      refine ih _ ?_ (fun x hx => hl x (List.mem_cons_of_mem _ hx))
      split
      · exact h
      · exact lt64 h (hl o List.mem_cons_self)
  exact key _ row hr (fun o ho => hS o (List.mem_of_mem_take ho))
/-- What is there, on its way: the first j are cleared of the row's greatest bit. -/
def redMto (S : List Nat) (r j : Nat) : List Nat := (S.take j).map (redOne r) ++ S.drop j
theorem redMto_length (S : List Nat) (r j : Nat) : (redMto S r j).length = S.length := by
  unfold redMto; rw [List.length_append, List.length_map, List.length_take, List.length_drop]; omega
theorem redMto_get (S : List Nat) (r j : Nat) (h : j < S.length) : (redMto S r j)[j]'(by rw [redMto_length]; exact h) = S[j] := by
  unfold redMto
  rw [List.getElem_append_right (by rw [List.length_map, List.length_take]; omega), List.getElem_drop]
  congr 1
  rw [List.length_map, List.length_take]; omega
theorem redMto_succ (S : List Nat) (r j : Nat) (h : j < S.length) : redMto S r (j + 1) = (redMto S r j).set j (redOne r S[j]) := by
  unfold redMto
  have hl : ((S.take j).map (redOne r)).length = j := by rw [List.length_map, List.length_take]; omega
  rw [List.take_succ_eq_append_getElem h, List.map_append, List.set_append_right _ _ (by omega), hl, Nat.sub_self, List.drop_eq_getElem_cons h, List.set_cons_zero, List.append_assoc]
  rfl
theorem redMto_all (S : List Nat) (r : Nat) : redMto S r S.length = S.map (redOne r) := by unfold redMto; rw [List.take_length, List.drop_length, List.append_nil]
theorem redMto_same (S : List Nat) (r j : Nat) (h : j < S.length) (h0 : redOne r S[j] = S[j]) : redMto S r (j + 1) = redMto S r j := by
  rw [redMto_succ S r j h, h0]
  have := redMto_get S r j h
  conv => lhs; rw [← this]
  exact List.set_getElem_self _
theorem redMto_lt (S : List Nat) (r j : Nat) (hr : r < 64) (hS : ∀ o ∈ S, o < 64) : ∀ o ∈ redMto S r j, o < 64 := by
  intro o ho
  unfold redMto at ho
  rcases List.mem_append.1 ho with h | h
  · obtain ⟨x, hx, rfl⟩ := List.mem_map.1 h
    unfold redOne
    split
    · exact hS x (List.mem_of_mem_take hx)
    · exact lt64 (hS x (List.mem_of_mem_take hx)) hr
  · exact hS o (List.mem_of_mem_drop h)
def rowsTo (rows : List Int) (i : Nat) : List Nat := redN ((rows.take i).map Int.toNat)
theorem rowsTo_succ (rows : List Int) (i : Nat) (h : i < rows.length) : rowsTo rows (i + 1) = redStep (rowsTo rows i) (rd rows (i : Int)).toNat := by
  unfold rowsTo; rw [take_succ_rd rows i h, List.map_append]; exact redN_snoc _ _
theorem rowsTo_all (rows : List Int) : rowsTo rows rows.length = redN (rows.map Int.toNat) := by unfold rowsTo; rw [List.take_length]
theorem rowsTo_lt (rows : List Int) (i : Nat) (hr : ∀ x ∈ rows, 0 ≤ x ∧ x ≤ 63) : ∀ o ∈ rowsTo rows i, o < 64 := fun o ho => ((redN_red _ (fun x hx => by obtain ⟨y, hy, rfl⟩ := List.mem_map.1 hx; have := hr y (List.mem_of_mem_take hy); omega)).1 o ho).2
theorem rowsTo_length (rows : List Int) (i : Nat) : (rowsTo rows i).length ≤ i := by
  have := redN_len ((rows.take i).map Int.toNat); unfold rowsTo; rw [List.length_map, List.length_take] at this; omega
theorem and_nat {a b : Nat} (ha : a < 64) (hb : b < 64) : Go.bits .and .i64 (a : Int) (b : Int) = ((a &&& b : Nat) : Int) := (and_i64 a b ha hb).1
theorem xor_nat {a b : Nat} (ha : a < 64) (hb : b < 64) : Go.bits .xor .i64 (a : Int) (b : Int) = ((a ^^^ b : Nat) : Int) := (xor_i64 a b ha hb).1
end Go.Proofs.Ytdhkcnhmmiigoaa.Q
