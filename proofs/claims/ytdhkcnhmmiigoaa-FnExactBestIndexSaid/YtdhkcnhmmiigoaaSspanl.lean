/- Spans in plain lists; no conditions beyond those written. -/
import Derived.Test.YtdhkcnhmmiigoaaQx0
import Derived.Test.YtdhkcnhmmiigoaaSxor
import Derived.Test.YtdhkcnhmmiigoaaSsetl
import Derived.Test.YtdhkcnhmmiigoaaSheldindex
namespace Go.Proofs.Ytdhkcnhmmiigoaa.Q
open Go.RowKit Go.Proofs.YtdhkcnhmmiigoaaW.PrintWords Go.Proofs.YtdhkcnhmmiigoaaW.PrintLast Go.Proofs.YtdhkcnhmmiigoaaW.PrintMore
attribute [local go_sem] max2_int min2_int max_two min_two max_three min_three max_four min_four   -- for this text's walks alone
set_option linter.unusedVariables false
set_option linter.unusedSimpArgs false

def spI (rows : List Int) : Nat → List Int
  | 0 => [0]
  | i + 1 => spI rows i ++ (spI rows i).map (fun y => xo y (rd rows (i : Int)))
def stepS (out : List Int) (r : Int) : Nat → List Int
  | 0 => out
  | k + 1 => if xo (rd out (k : Int)) r ∈ stepS out r k then stepS out r k else stepS out r k ++ [xo (rd out (k : Int)) r]
def spS (rows : List Int) : Nat → List Int
  | 0 => [0]
  | i + 1 => stepS (spS rows i) (rd rows (i : Int)) (spS rows i).length
theorem stepS_succ (out : List Int) (r : Int) (k : Nat) : stepS out r (k + 1) = if xo (rd out (k : Int)) r ∈ stepS out r k then stepS out r k else stepS out r k ++ [xo (rd out (k : Int)) r] := rfl
theorem spI_length (rows : List Int) (i : Nat) : (spI rows i).length = 2 ^ i := by
  induction i with
  | zero => rfl
  | succ i ih => unfold spI; rw [List.length_append, List.length_map, ih, Nat.pow_succ]; omega
theorem stepS_pre (out : List Int) (r : Int) (k : Nat) : ∃ t, stepS out r k = out ++ t ∧ t.length ≤ k := by
  induction k with
  | zero => exact ⟨[], by simp [stepS], by simp⟩
  | succ k ih =>
    obtain ⟨t, e, h⟩ := ih
    rw [stepS_succ]
    split
    · exact ⟨t, e, by omega⟩
    · exact ⟨t ++ [xo (rd out (k : Int)) r], by rw [e, List.append_assoc], by rw [List.length_append, List.length_singleton]; omega⟩
theorem stepS_length (out : List Int) (r : Int) (k : Nat) : out.length ≤ (stepS out r k).length ∧ (stepS out r k).length ≤ out.length + k := by
  obtain ⟨t, e, h⟩ := stepS_pre out r k
  rw [e, List.length_append]; omega
theorem stepS_rd (out : List Int) (r : Int) (k j : Nat) (hj : j < out.length) : rd (stepS out r k) (j : Int) = rd out (j : Int) := by
  obtain ⟨t, e, h⟩ := stepS_pre out r k
  rw [e, rd_lt _ j (by rw [List.length_append]; omega), rd_lt out j hj, List.getElem_append_left hj]
theorem spS_length (rows : List Int) (i : Nat) : (spS rows i).length ≤ 2 ^ i := by
  induction i with
  | zero => simp [spS]
  | succ i ih =>
    have := (stepS_length (spS rows i) (rd rows (i : Int)) (spS rows i).length).2
    unfold spS
    rw [Nat.pow_succ]; omega
theorem stepS_mem (out : List Int) (r x : Int) (k : Nat) : x ∈ stepS out r k ↔ x ∈ out ∨ ∃ j : Nat, j < k ∧ x = xo (rd out (j : Int)) r := by
  induction k with
  | zero => simp [stepS]
  | succ k ih =>
    have key : x ∈ stepS out r (k + 1) ↔ x ∈ stepS out r k ∨ x = xo (rd out (k : Int)) r := by
      rw [stepS_succ]
      split
      · rename_i h
        constructor
        · exact fun hx => .inl hx
        · rintro (hx | rfl)
          · exact hx
          · exact h
      · simp
    rw [key, ih]
    constructor
    · rintro ((h | ⟨j, hj, e⟩) | e)
      · exact .inl h
      · exact .inr ⟨j, by omega, e⟩
      · exact .inr ⟨k, by omega, e⟩
    · rintro (h | ⟨j, hj, e⟩)
      · exact .inl (.inl h)
      · by_cases hk : j = k
        · exact .inr (by rw [e, hk])
        · exact .inl (.inr ⟨j, by omega, e⟩)
theorem sp_mem (rows : List Int) (i : Nat) : ∀ x, x ∈ spI rows i ↔ x ∈ spS rows i := by
  induction i with
  | zero => intro x; rfl
  | succ i ih =>
    intro x
    unfold spI spS
    rw [stepS_mem, List.mem_append, ih x, List.mem_map]
    constructor
    · rintro (h | ⟨y, hy, rfl⟩)
      · exact .inl h
      · have hy2 := (ih y).1 hy
        obtain ⟨j, hj, rfl⟩ := List.getElem_of_mem hy2
        exact .inr ⟨j, hj, by rw [rd_lt _ j hj]⟩
    · rintro (h | ⟨j, hj, rfl⟩)
      · exact .inl h
      · refine .inr ⟨rd (spS rows i) (j : Int), (ih _).2 ?_, rfl⟩
        rw [rd_lt _ j hj]; exact List.getElem_mem hj
theorem spI_range (rows : List Int) (hr : ∀ x ∈ rows, 0 ≤ x ∧ x ≤ 63) (i : Nat) (hi : i ≤ rows.length) : ∀ x ∈ spI rows i, 0 ≤ x ∧ x ≤ 63 := by
  induction i with
  | zero => intro x hx; simp [spI] at hx; omega
  | succ i ih =>
    intro x hx
    unfold spI at hx
    rcases List.mem_append.1 hx with h | h
    · exact ih (by omega) x h
    · obtain ⟨y, hy, rfl⟩ := List.mem_map.1 h
      have hrow := hr _ (List.getElem_mem (l := rows) (n := i) (by omega))
      rw [← rd_lt rows i (by omega)] at hrow
      exact (xor_xo (ih (by omega) y hy) hrow).2
theorem setL_congr {a b : List Int} (h : ∀ x, x ∈ a ↔ x ∈ b) : setL a = setL b :=
  setL_eq (setL_facts b).1 (fun x => ((setL_facts b).2 x).trans (h x).symm)
end Go.Proofs.Ytdhkcnhmmiigoaa.Q
