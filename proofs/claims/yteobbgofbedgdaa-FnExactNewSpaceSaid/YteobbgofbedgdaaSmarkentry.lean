/- Marks of entries; no conditions beyond those written. -/
import Derived.Test.YteobbgofbedgdaaQx0
import Derived.Test.YteobbgofbedgdaaQx2
import Derived.Test.YteobbgofbedgdaaSbase
namespace Go.Proofs.Yteobbgofbedgdaa.Q
open Go.RowKit Go.Proofs.YteobbgofbedgdaaW.PrintWords Go.Proofs.YteobbgofbedgdaaW.PrintLast Go.Proofs.YteobbgofbedgdaaW.PrintMore
attribute [local go_sem] max2_int min2_int max_two min_two max_three min_three max_four min_four   -- for this text's walks alone
set_option linter.unusedVariables false
set_option linter.unusedSimpArgs false

def entM (x : Int) : S104 := ⟨x, Int.tmod (x + 1) 3 == 0, Int.tmod (x + 2) 3 == 0, Int.tmod (x + 3) 3 == 0⟩
def upsE (m : Int) (n : Nat) : List S104 := (List.range n).map fun (j : Nat) => entM (m + 4 * (j : Int))
theorem upsE_length (m : Int) (n : Nat) : (upsE m n).length = n := by simp [upsE]
theorem upsE_succ (m : Int) (n : Nat) : upsE m (n + 1) = upsE m n ++ [entM (m + 4 * (n : Int))] := by unfold upsE; rw [List.range_succ, List.map_append]; rfl
theorem rdE_set (X : List S104) (i : Nat) (e : S104) (h : i < X.length) : rd_T104 (X.set i e) (i : Int) = e := by
  show (X.set i e).getD ((i : Int)).toNat _ = e
  rw [Int.toNat_natCast, List.getD_eq_getElem?_getD, List.getElem?_set_self h]; rfl
theorem ev_markEntryS (l : List S104) (m : Int) (h : l.length ≤ 1000000000) (h0 : 0 ≤ m) (h1 : m ≤ 1000000000000) : Ev (fun k => laws_markEntryS.f k l m) (m + 4 * (l.length : Int), upsE m l.length) := by
  unfold laws_markEntryS.f
  have S0 : l = upsE m 0 ++ l.drop 0 := by simp [upsE]
  have e0 : m = m + 4 * ((0 : Nat) : Int) := by simp
  have key := Ev.up (fun i k => laws_markEntryS.l0 k (upsE m i ++ l.drop i) (m + 4 * (i : Int)) (i : Int)) l.length (m + 4 * (l.length : Int), upsE m l.length) ?_ ?_
  · refine Ev.congr (fun k => ?_) key
    show _ = laws_markEntryS.l0 k (upsE m 0 ++ l.drop 0) (m + 4 * ((0 : Nat) : Int)) ((0 : Nat) : Int)
    rw [← S0, ← e0]; rfl
  · apply Ev.succ
    simp only [laws_markEntryS.l0]
    refine Ev.ite_neg (by simp [upsE_length]) (Ev.eq (Ev.now _) ?_)
    simp
  · intro i hi ih
    have hX : i < (upsE m i ++ l.drop i).length := by simp [upsE_length]; omega
    have e : (upsE m i ++ l.drop i).set i (entM (m + 4 * (i : Int))) = upsE m (i + 1) ++ l.drop (i + 1) := by
      rw [List.set_append_right (h := by simp [upsE_length]), upsE_length, Nat.sub_self, List.drop_eq_getElem_cons hi, List.set_cons_zero, upsE_succ, List.append_assoc]
      rfl
    rw [← e, show m + 4 * ((i + 1 : Nat) : Int) = m + 4 * (i : Int) + 1 + 1 + 1 + 1 by omega] at ih
    clear e
    obtain ⟨X, hXe⟩ : ∃ X, X = upsE m i ++ l.drop i := ⟨_, rfl⟩
    rw [← hXe] at hX ih
    show Ev (fun k => laws_markEntryS.l0 k (upsE m i ++ l.drop i) (m + 4 * (i : Int)) (i : Int)) _
    rw [← hXe]
    obtain ⟨x, hx⟩ : ∃ x, x = m + 4 * (i : Int) := ⟨_, rfl⟩
    have hxb : 0 ≤ x ∧ x ≤ 100000000000000 := by omega
    have eM : entM x = ⟨x, Int.tmod (x + 1) 3 == 0, Int.tmod (x + 1 + 1) 3 == 0, Int.tmod (x + 1 + 1 + 1) 3 == 0⟩ := by unfold entM; rw [show x + 1 + 1 = x + 2 by omega, show x + 2 + 1 = x + 3 by omega]
    rw [← hx] at ih ⊢
    rw [eM] at ih
    have w1 : wrap64 (x + 1) = x + 1 := wrap64_id (by omega) (by omega)
    have w2 : wrap64 (x + 1 + 1) = x + 1 + 1 := wrap64_id (by omega) (by omega)
    have w3 : wrap64 (x + 1 + 1 + 1) = x + 1 + 1 + 1 := wrap64_id (by omega) (by omega)
    have w4 : wrap64 (x + 1 + 1 + 1 + 1) = x + 1 + 1 + 1 + 1 := wrap64_id (by omega) (by omega)
    apply Ev.succ
    simp only [laws_markEntryS.l0]
    refine Ev.ite_pos (by omega) (Ev.ite_pos (by omega) (Ev.cbind rfl (Ev.cbind rfl (Ev.cbind rfl ?_))))
    rw [w1, w2, w3, w4, wrap64_succ (i := i) (by omega)]
    simp only [Int.toNat_natCast, rdE_set, List.set_set, List.length_set, hX]
    exact ih
theorem ev_heldEntryS (m : Int) (n : Nat) (h : n ≤ 1000000000) (h0 : 0 ≤ m) (h1 : m ≤ 1000000000000) : Ev (fun k => laws_heldEntryS.f k (upsE m n) m) (m + 4 * (n : Int)) := by
  unfold laws_heldEntryS.f
  have key := Ev.up (fun i k => laws_heldEntryS.l0 k (upsE m n) (m + 4 * (i : Int)) (i : Int)) n (m + 4 * (n : Int)) ?_ ?_
  · refine Ev.congr (fun k => ?_) key
    show _ = laws_heldEntryS.l0 k (upsE m n) (m + 4 * ((0 : Nat) : Int)) ((0 : Nat) : Int)
    simp
  · apply Ev.succ
    simp only [laws_heldEntryS.l0]
    exact Ev.ite_neg (by simp [upsE_length]) (Ev.now _)
  · intro i hi ih
    have hrd : rd_T104 (upsE m n) (i : Int) = entM (m + 4 * (i : Int)) := by
      show (upsE m n).getD ((i : Int)).toNat _ = _
      rw [Int.toNat_natCast, List.getD_eq_getElem?_getD, List.getElem?_eq_getElem (by rw [upsE_length]; exact hi)]
      simp [upsE]
    rw [show m + 4 * ((i + 1 : Nat) : Int) = m + 4 * (i : Int) + 1 + 1 + 1 + 1 by omega] at ih
    obtain ⟨x, hx⟩ : ∃ x, x = m + 4 * (i : Int) := ⟨_, rfl⟩
    have hxb : 0 ≤ x ∧ x ≤ 100000000000000 := by omega
    rw [← hx] at ih hrd
    show Ev (fun k => laws_heldEntryS.l0 k (upsE m n) (m + 4 * (i : Int)) (i : Int)) _
    rw [← hx]
    have w1 : wrap64 (x + 1) = x + 1 := wrap64_id (by omega) (by omega)
    have w2 : wrap64 (x + 1 + 1) = x + 1 + 1 := wrap64_id (by omega) (by omega)
    have w3 : wrap64 (x + 1 + 1 + 1) = x + 1 + 1 + 1 := wrap64_id (by omega) (by omega)
    have w4 : wrap64 (x + 1 + 1 + 1 + 1) = x + 1 + 1 + 1 + 1 := wrap64_id (by omega) (by omega)
    apply Ev.succ
    simp only [laws_heldEntryS.l0]
    rw [hrd, w1, w2, w3, w4, wrap64_succ (i := i) (by omega)]
    refine Ev.ite_pos (by rw [upsE_length]; omega) (Ev.ite_pos (by omega) (Ev.ite_pos rfl (Ev.ite_neg (by simp [entM]) (Ev.ite_neg (by simp [entM, show x + 1 + 1 = x + 2 by omega]) (Ev.ite_neg (by simp [entM, show x + 1 + 1 + 1 = x + 3 by omega]) ih)))))
end Go.Proofs.Yteobbgofbedgdaa.Q
