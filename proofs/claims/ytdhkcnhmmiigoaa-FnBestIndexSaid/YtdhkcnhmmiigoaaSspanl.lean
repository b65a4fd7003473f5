/- Parts of the proof, laid together: contracts and lemmas; no conditions beyond those written. -/
import Derived.Test.YtdhkcnhmmiigoaaQx0
import Derived.Test.YtdhkcnhmmiigoaaSupto
import Derived.Test.YtdhkcnhmmiigoaaSsetl
import Derived.Test.YtdhkcnhmmiigoaaSidxf
import Derived.Test.YtdhkcnhmmiigoaaSlu
import Derived.Test.YtdhkcnhmmiigoaaSsetval
namespace Go.Proofs.Ytdhkcnhmmiigoaa.Q
open Go.RowKit Go.Proofs.YtdhkcnhmmiigoaaW.PrintWords Go.Proofs.YtdhkcnhmmiigoaaW.PrintLast Go.Proofs.YtdhkcnhmmiigoaaW.PrintMore
attribute [local go_sem] max2_int min2_int max_two min_two max_three min_three max_four min_four   -- for this text's walks alone
set_option linter.unusedVariables false
set_option linter.unusedSimpArgs false
section
def spI (rows : List Int) : Nat → List Int
  | 0 => [0]
  | i + 1 => spI rows i ++ (spI rows i).map (fun y => xo y (rd rows (i : Int)))
def stepS (out : List Int) (r : Int) : Nat → List Int
  | 0 => out
  | k + 1 => if xo (rd out (k : Int)) r ∈ stepS out r k then stepS out r k else stepS out r k ++ [xo (rd out (k : Int)) r]
def spS (rows : List Int) : Nat → List Int
  | 0 => [0]
  | i + 1 => stepS (spS rows i) (rd rows (i : Int)) (spS rows i).length
theorem stepS_succ (out : List Int) (r : Int) (k : Nat) : stepS out r (k + 1) = if xo (rd out (k : Int)) r ∈ stepS out r k then stepS out r k else stepS out r k ++ [xo (rd out (k : Int)) r] := rfl
theorem spI_length (rows : List Int) (i : Nat) : (spI rows i).length = 2 ^ i := by
  induction i with
  | zero => rfl
  | succ i ih => unfold spI; rw [List.length_append, List.length_map, ih, Nat.pow_succ]; omega
theorem stepS_pre (out : List Int) (r : Int) (k : Nat) : ∃ t, stepS out r k = out ++ t ∧ t.length ≤ k := by
  induction k with
  | zero => exact ⟨[], by simp [stepS], by simp⟩
  | succ k ih =>
    obtain ⟨t, e, h⟩ := ih
    rw [stepS_succ]
    split
    · exact ⟨t, e, by omega⟩
    · exact ⟨t ++ [xo (rd out (k : Int)) r], by rw [e, List.append_assoc], by rw [List.length_append, List.length_singleton]; omega⟩
theorem stepS_length (out : List Int) (r : Int) (k : Nat) : out.length ≤ (stepS out r k).length ∧ (stepS out r k).length ≤ out.length + k := by
  obtain ⟨t, e, h⟩ := stepS_pre out r k
  rw [e, List.length_append]; omega
theorem stepS_rd (out : List Int) (r : Int) (k j : Nat) (hj : j < out.length) : rd (stepS out r k) (j : Int) = rd out (j : Int) := by
  obtain ⟨t, e, h⟩ := stepS_pre out r k
  rw [e, rd_lt _ j (by rw [List.length_append]; omega), rd_lt out j hj, List.getElem_append_left hj]
theorem spS_length (rows : List Int) (i : Nat) : (spS rows i).length ≤ 2 ^ i := by
  induction i with
  | zero => simp [spS]
  | succ i ih =>
    have := (stepS_length (spS rows i) (rd rows (i : Int)) (spS rows i).length).2
    unfold spS
    rw [Nat.pow_succ]; omega
theorem stepS_mem (out : List Int) (r x : Int) (k : Nat) : x ∈ stepS out r k ↔ x ∈ out ∨ ∃ j : Nat, j < k ∧ x = xo (rd out (j : Int)) r := by
  induction k with
  | zero => simp [stepS]
  | succ k ih =>
    have key : x ∈ stepS out r (k + 1) ↔ x ∈ stepS out r k ∨ x = xo (rd out (k : Int)) r := by
      rw [stepS_succ]
      split
      · rename_i h
        constructor
        · exact fun hx => .inl hx
        · rintro (hx | rfl)
          · exact hx
          · exact h
      · simp
    rw [key, ih]
    constructor
    · rintro ((h | ⟨j, hj, e⟩) | e)
      · exact .inl h
      · exact .inr ⟨j, by omega, e⟩
      · exact .inr ⟨k, by omega, e⟩
    · rintro (h | ⟨j, hj, e⟩)
      · exact .inl (.inl h)
      · by_cases hk : j = k
        · exact .inr (by rw [e, hk])
        · exact .inl (.inr ⟨j, by omega, e⟩)
theorem sp_mem (rows : List Int) (i : Nat) : ∀ x, x ∈ spI rows i ↔ x ∈ spS rows i := by
  induction i with
  | zero => intro x; rfl
  | succ i ih =>
    intro x
    unfold spI spS
    rw [stepS_mem, List.mem_append, ih x, List.mem_map]
    constructor
    · rintro (h | ⟨y, hy, rfl⟩)
      · exact .inl h
      · have hy2 := (ih y).1 hy
        obtain ⟨j, hj, rfl⟩ := List.getElem_of_mem hy2
        exact .inr ⟨j, hj, by rw [rd_lt _ j hj]⟩
    · rintro (h | ⟨j, hj, rfl⟩)
      · exact .inl h
      · refine .inr ⟨rd (spS rows i) (j : Int), (ih _).2 ?_, rfl⟩
        rw [rd_lt _ j hj]; exact List.getElem_mem hj
theorem spI_range (rows : List Int) (hr : ∀ x ∈ rows, 0 ≤ x ∧ x ≤ 63) (i : Nat) (hi : i ≤ rows.length) : ∀ x ∈ spI rows i, 0 ≤ x ∧ x ≤ 63 := by
  induction i with
  | zero => intro x hx; simp [spI] at hx; omega
  | succ i ih =>
    intro x hx
    unfold spI at hx
    rcases List.mem_append.1 hx with h | h
    · exact ih (by omega) x h
    · obtain ⟨y, hy, rfl⟩ := List.mem_map.1 h
      have hrow := hr _ (List.getElem_mem (l := rows) (n := i) (by omega))
      rw [← rd_lt rows i (by omega)] at hrow
      exact (xor_xo (ih (by omega) y hy) hrow).2
theorem setL_congr {a b : List Int} (h : ∀ x, x ∈ a ↔ x ∈ b) : setL a = setL b :=
  setL_eq (setL_facts b).1 (fun x => ((setL_facts b).2 x).trans (h x).symm)
end
section
theorem par_xor : ∀ a b : Fin 64, par (((a.val ^^^ b.val : Nat)) : Int) = if par (a.val : Int) = par (b.val : Int) then 0 else 1 := by decide +kernel
def rowBit (rows : List Int) (a : Int) (i : Nat) : Int := par (Go.bits .and .i64 (rd rows (i : Int)) a)
theorem rowBit_xo (rows : List Int) (a b : Int) (i : Nat) (hm : 0 ≤ rd rows (i : Int) ∧ rd rows (i : Int) ≤ 63) (ha : 0 ≤ a ∧ a ≤ 63) (hb : 0 ≤ b ∧ b ≤ 63) : rowBit rows (xo a b) i = if rowBit rows a i = rowBit rows b i then 0 else 1 := by
  unfold rowBit
  obtain ⟨r, hr⟩ : ∃ r, r = rd rows (i : Int) := ⟨_, rfl⟩
  rw [← hr] at hm ⊢
  obtain ⟨m, rfl⟩ := fin_of hm.1 hm.2
  obtain ⟨p, rfl⟩ := fin_of ha.1 ha.2
  obtain ⟨q, rfl⟩ := fin_of hb.1 hb.2
  have hx : p.val ^^^ q.val < 64 := Nat.xor_lt_two_pow (n := 6) p.isLt q.isLt
  have e : xo (p.val : Int) (q.val : Int) = ((p.val ^^^ q.val : Nat) : Int) := rfl
  have e1 := and_i64 m.val p.val m.isLt p.isLt
  have e2 := and_i64 m.val q.val m.isLt q.isLt
  rw [e, (and_i64 m.val _ m.isLt hx).1, e1.1, e2.1, Nat.and_xor_distrib_left]
  exact par_xor ⟨m.val &&& p.val, e1.2⟩ ⟨m.val &&& q.val, e2.2⟩
theorem rowBit_01 (rows : List Int) (a : Int) (i : Nat) (hm : 0 ≤ rd rows (i : Int) ∧ rd rows (i : Int) ≤ 63) (ha : 0 ≤ a ∧ a ≤ 63) : ∃ t : Fin 2, rowBit rows a i = (t.val : Int) := by
  have h := and_range hm.1 hm.2 ha.1 ha.2
  rcases par_01 h.1 h.2 with h | h
  · exact ⟨0, h⟩
  · exact ⟨1, h⟩
def sv (p : Int) (s : Int) (i : Nat) : Int := Go.bits .or .i64 s (shl .i64 p (i : Int))
theorem fold1 (f : Int → Nat → Int) : (List.range' 0 1).foldl f 0 = f 0 0 := rfl
theorem fold2 (f : Int → Nat → Int) : (List.range' 0 2).foldl f 0 = f (f 0 0) 1 := rfl
theorem fold3 (f : Int → Nat → Int) : (List.range' 0 3).foldl f 0 = f (f (f 0 0) 1) 2 := rfl
theorem setVal_sv (rows : List Int) (a : Int) : setVal rows a = (List.range' 0 rows.length).foldl (fun s i => sv (rowBit rows a i) s i) 0 := rfl
theorem bits3 : ∀ p q r s t u : Fin 2, (sv (if (r.val : Int) = (u.val : Int) then 0 else 1) (sv (if (q.val : Int) = (t.val : Int) then 0 else 1) (sv (if (p.val : Int) = (s.val : Int) then 0 else 1) 0 0) 1) 2 = 0) ↔ (sv (r.val : Int) (sv (q.val : Int) (sv (p.val : Int) 0 0) 1) 2 = sv (u.val : Int) (sv (t.val : Int) (sv (s.val : Int) 0 0) 1) 2) := by decide +kernel
theorem bits2 : ∀ p q s t : Fin 2, (sv (if (q.val : Int) = (t.val : Int) then 0 else 1) (sv (if (p.val : Int) = (s.val : Int) then 0 else 1) 0 0) 1 = 0) ↔ (sv (q.val : Int) (sv (p.val : Int) 0 0) 1 = sv (t.val : Int) (sv (s.val : Int) 0 0) 1) := by decide +kernel
theorem bits1 : ∀ p s : Fin 2, (sv (if (p.val : Int) = (s.val : Int) then 0 else 1) 0 0 = 0) ↔ (sv (p.val : Int) 0 0 = sv (s.val : Int) 0 0) := by decide +kernel
attribute [local irreducible] sv setVal rowBit par
theorem set_same (rows : List Int) (a b : Int) (hl : rows.length ≤ 3) (hr : ∀ x ∈ rows, 0 ≤ x ∧ x ≤ 63) (ha : 0 ≤ a ∧ a ≤ 63) (hb : 0 ≤ b ∧ b ≤ 63) : setVal rows (xo a b) = 0 ↔ setVal rows a = setVal rows b := by
  have hm : ∀ i, i < rows.length → 0 ≤ rd rows (i : Int) ∧ rd rows (i : Int) ≤ 63 := fun i hi => by rw [rd_lt rows i hi]; exact hr _ (List.getElem_mem hi)
  rw [setVal_sv, setVal_sv, setVal_sv]
  obtain h | h | h | h : rows.length = 0 ∨ rows.length = 1 ∨ rows.length = 2 ∨ rows.length = 3 := by omega
  · rw [h]; simp
  · rw [h]
    obtain ⟨p, hp⟩ := rowBit_01 rows a 0 (hm 0 (by omega)) ha
    obtain ⟨s, hs⟩ := rowBit_01 rows b 0 (hm 0 (by omega)) hb
    have x0 := rowBit_xo rows a b 0 (hm 0 (by omega)) ha hb
    rw [hp, hs] at x0
    rw [fold1, fold1, fold1, x0, hp, hs]; exact bits1 p s
  · rw [h]
    obtain ⟨p, hp⟩ := rowBit_01 rows a 0 (hm 0 (by omega)) ha
    obtain ⟨s, hs⟩ := rowBit_01 rows b 0 (hm 0 (by omega)) hb
    obtain ⟨q, hq⟩ := rowBit_01 rows a 1 (hm 1 (by omega)) ha
    obtain ⟨t, ht⟩ := rowBit_01 rows b 1 (hm 1 (by omega)) hb
    have x0 := rowBit_xo rows a b 0 (hm 0 (by omega)) ha hb
    have x1 := rowBit_xo rows a b 1 (hm 1 (by omega)) ha hb
    rw [hp, hs] at x0
    rw [hq, ht] at x1
    rw [fold2, fold2, fold2, x0, x1, hp, hs, hq, ht]; exact bits2 p q s t
  · rw [h]
    obtain ⟨p, hp⟩ := rowBit_01 rows a 0 (hm 0 (by omega)) ha
    obtain ⟨s, hs⟩ := rowBit_01 rows b 0 (hm 0 (by omega)) hb
    obtain ⟨q, hq⟩ := rowBit_01 rows a 1 (hm 1 (by omega)) ha
    obtain ⟨t, ht⟩ := rowBit_01 rows b 1 (hm 1 (by omega)) hb
    obtain ⟨r, hr2⟩ := rowBit_01 rows a 2 (hm 2 (by omega)) ha
    obtain ⟨u, hu⟩ := rowBit_01 rows b 2 (hm 2 (by omega)) hb
    have x0 := rowBit_xo rows a b 0 (hm 0 (by omega)) ha hb
    have x1 := rowBit_xo rows a b 1 (hm 1 (by omega)) ha hb
    have x2 := rowBit_xo rows a b 2 (hm 2 (by omega)) ha hb
    rw [hp, hs] at x0
    rw [hq, ht] at x1
    rw [hr2, hu] at x2
    rw [fold3, fold3, fold3, x0, x1, x2, hp, hs, hq, ht, hr2, hu]; exact bits3 p q r s t u
end
end Go.Proofs.Ytdhkcnhmmiigoaa.Q
