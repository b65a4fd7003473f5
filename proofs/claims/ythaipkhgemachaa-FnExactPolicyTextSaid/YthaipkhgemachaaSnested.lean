/- What the laws' helpers come to at rows of numbers; no conditions beyond those written. -/
import Derived.Test.YthaipkhgemachaaQx0
import Derived.Test.YthaipkhgemachaaQx1
import Derived.Test.YthaipkhgemachaaQx2
import Derived.Test.YthaipkhgemachaaSbase
import Derived.Test.YthaipkhgemachaaSwords
namespace Go.Proofs.Ythaipkhgemachaa.Q
open Go.RowKit Go.Proofs.YthaipkhgemachaaW.PrintWords Go.Proofs.YthaipkhgemachaaW.PrintLast Go.Proofs.YthaipkhgemachaaW.PrintMore
attribute [local go_sem] max2_int min2_int max_two min_two max_three min_three max_four min_four   -- for this text's walks alone
set_option linter.unusedVariables false
set_option linter.unusedSimpArgs false

theorem rdLL (X : List (List Int)) (i : Nat) (h : i < X.length) : rd_L1 X (i : Int) = X[i] := by
  show X.getD i [] = X[i]
  rw [List.getD_eq_getElem?_getD, List.getElem?_eq_getElem h, Option.getD_some]
theorem szInt64S_at (l : List Int) (m : Int) (h0 : 0 ≤ m) (h1 : m ≤ 1048576) (hl : l.length ≤ 9223372036854775807) : laws_szInt64S.f l m = some (if (l.length : Int) ≤ m then m - (l.length : Int) else -1) := by
  unfold laws_szInt64S.f
  rw [wrap64_id (by omega) (by omega)]
  by_cases h : (l.length : Int) ≤ m
  · rw [if_neg (by omega), if_pos h]
  · rw [if_pos (by omega), if_neg h]
theorem ev_sz_rows (X : List (List Int)) (hX : X.length ≤ 1048576) (hin : ∀ y ∈ X, y.length ≤ 9223372036854775807) : ∀ (d i : Nat) (m : Int), i + d = X.length → 0 ≤ m → m ≤ 1048576 →
    ∃ t, Ev (fun k => laws_szInt64SS.l0 k X m (i : Int)) t ∧ t ≤ m ∧ (0 ≤ t → ∀ j (h : j < X.length), i ≤ j → X[j].length ≤ 1048576) := by
  intro d
  induction d with
  | zero =>
    intro i m hi h0 h1
    refine ⟨m, ?_, Int.le_refl _, fun _ j h hj => by omega⟩
    apply Ev.succ
    simp only [laws_szInt64SS.l0]
    exact Ev.ite_neg (by omega) (Ev.now _)
  | succ d ih =>
    intro i m hi h0 h1
    have hlt : i < X.length := by omega
    have hy := hin _ (List.getElem_mem hlt)
    have hs := szInt64S_at X[i] m h0 h1 hy
    by_cases hc : (X[i].length : Int) ≤ m
    · rw [if_pos hc] at hs
      obtain ⟨t, ht, htm, hall⟩ := ih (i + 1) (m - (X[i].length : Int)) (by omega) (by omega) (by omega)
      refine ⟨t, ?_, by omega, fun h j hj hij => ?_⟩
      · apply Ev.succ
        simp only [laws_szInt64SS.l0]
        rw [rdLL X i hlt, wrap64_succ (by omega)]
        exact Ev.ite_pos (by omega) (Ev.ite_pos (by omega) (Ev.cbind hs (Ev.ite_neg (by omega) ht)))
      · by_cases e : j = i
        · subst e; omega
        · exact hall h j hj (by omega)
    · rw [if_neg hc] at hs
      refine ⟨-1, ?_, by omega, fun h => by omega⟩
      apply Ev.succ
      simp only [laws_szInt64SS.l0]
      rw [rdLL X i hlt]
      exact Ev.ite_pos (by omega) (Ev.ite_pos (by omega) (Ev.cbind hs (Ev.ite_pos (by omega) (Ev.now _))))
/-- The guard of a law over rows: where they are too long, nothing is asked. -/
theorem ev_rows_guard {F : Nat → Int → Option Bool} (X : List (List Int)) (hX : X.length ≤ 9223372036854775807) (hin : ∀ y ∈ X, y.length ≤ 9223372036854775807) (h : X.length ≤ 1048576 → (∀ y ∈ X, y.length ≤ 1048576) → ∀ t, Ev (fun k => F k t) true) :
    Ev (fun k => (laws_szInt64SS.f k X 1048576).bind fun t => if t < 0 then some true else F k t) true := by
  unfold laws_szInt64SS.f
  rw [wrap64_id (by omega) (by omega)]
  by_cases hc : X.length ≤ 1048576
  · obtain ⟨t, ht, _, hall⟩ := ev_sz_rows X hc hin X.length 0 (1048576 - (X.length : Int)) (by omega) (by omega) (by omega)
    refine Ev.bind (Ev.ite_neg (by omega) ht) ?_
    by_cases h0 : t < 0
    · exact Ev.ite_pos h0 (Ev.now _)
    · exact Ev.ite_neg h0 (h hc (fun y hy => by obtain ⟨j, hj, rfl⟩ := List.getElem_of_mem hy; exact hall (by omega) j hj (by omega)) t)
  · exact Ev.bind (Ev.ite_pos (by omega) (Ev.now _)) (Ev.ite_pos (by omega) (Ev.now _))
theorem ev_toInt64SS (X : List (List Int)) (hX : X.length ≤ 1048576) (hin : ∀ y ∈ X, y.length ≤ 1048576) : Ev (fun k => laws_toInt64SS.f k X) X := by
  unfold laws_toInt64SS.f
  refine Ev.ite_pos (by omega) (Ev.ite_pos (by omega) ?_)
  rw [Int.toNat_natCast]
  have key := Ev.up (fun i k => laws_toInt64SS.l0 k X (X.take i ++ List.replicate (X.length - i) []) (i : Int)) X.length X ?_ ?_
  · simpa using key
  · apply Ev.succ
    simp only [laws_toInt64SS.l0]
    refine Ev.ite_neg (by omega) (Ev.eq (Ev.now _) ?_)
    simp
  · intro i hi ih
    have hlen : (X.take i ++ List.replicate (X.length - i) ([] : List Int)).length = X.length := by rw [List.length_append, List.length_take, List.length_replicate]; omega
    apply Ev.succ
    simp only [laws_toInt64SS.l0]
    rw [rdLL X i hi, wrap64_succ (by omega)]
    refine Ev.ite_pos (by omega) (Ev.ite_pos (by omega) (Ev.bind (ev_toInt64S X[i] (by have := hin _ (List.getElem_mem hi); omega)) (Ev.ite_pos (by omega) ?_)))
    rw [Int.toNat_natCast]
    have e : (X.take i ++ List.replicate (X.length - i) ([] : List Int)).set i X[i] = X.take (i + 1) ++ List.replicate (X.length - (i + 1)) [] := by
      rw [List.set_append_right _ _ (by rw [List.length_take]; omega), List.length_take, Nat.min_eq_left (by omega), Nat.sub_self, show X.length - i = (X.length - (i + 1)) + 1 by omega, List.replicate_succ, List.set_cons_zero, List.take_succ_eq_append_getElem hi, List.append_assoc]
      rfl
    rw [e]
    exact ih
theorem ev_eqInt64SS_same (X : List (List Int)) (hX : X.length ≤ 1048576) (hin : ∀ y ∈ X, y.length ≤ 1048576) : Ev (fun k => laws_eqInt64SS.f k X X) true := by
  unfold laws_eqInt64SS.f
  refine Ev.ite_pos rfl ?_
  refine Ev.up (fun i k => laws_eqInt64SS.l0 k X X (i : Int)) X.length true ?_ ?_
  · apply Ev.succ
    simp only [laws_eqInt64SS.l0]
    exact Ev.ite_neg (by omega) (Ev.now _)
  · intro i hi ih
    apply Ev.succ
    simp only [laws_eqInt64SS.l0]
    rw [rdLL X i hi, wrap64_succ (by omega)]
    exact Ev.ite_pos (by omega) (Ev.ite_pos (by omega) (Ev.ite_pos (by omega) (Ev.bind (ev_eqInt64S_same X[i] (by have := hin _ (List.getElem_mem hi); omega)) (Ev.ite_pos rfl ih))))
end Go.Proofs.Ythaipkhgemachaa.Q
