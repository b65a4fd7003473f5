/- Ages as digits: what both sides' functions come to at valid orders; no conditions beyond those written. -/
import Derived.Test.YthaipkhgemachaaDoorQx0
import Derived.Test.YthaipkhgemachaaDoorQx1
import Derived.Test.YthaipkhgemachaaDoorSbase
namespace Go.Proofs.YthaipkhgemachaaDoor.Q
open Go.RowKit Go.Proofs.YthaipkhgemachaaDoorW.PrintWords Go.Proofs.YthaipkhgemachaaDoorW.PrintLast Go.Proofs.YthaipkhgemachaaDoorW.PrintMore
attribute [local go_sem] max2_int min2_int max_two min_two max_three min_three max_four min_four   -- for this text's walks alone
set_option linter.unusedVariables false
set_option linter.unusedSimpArgs false

def digTxt (l : List Int) : ByteArray := strOfNums (l.map fun n => 48 + n)
def isDig (l : List Int) : Bool := decide (l.length ≤ 6) && l.all fun n => decide (0 ≤ n) && decide (n ≤ 9)
theorem strOfNums_append (a b : List Int) : strOfNums (a ++ b) = strOfNums a ++ strOfNums b := by
  unfold strOfNums
  rw [List.map_append]
  apply ByteArray.ext
  rw [ByteArray.data_append]
  simp
theorem strOfNums_size (a : List Int) : (strOfNums a).size = a.length := by
  show (a.map fun n => UInt8.ofNat n.toNat).toArray.size = _
  simp
theorem digTxt_size (l : List Int) : (digTxt l).size = l.length := by unfold digTxt; rw [strOfNums_size, List.length_map]
theorem digTxt_take (l : List Int) (i : Nat) (h : i < l.length) : digTxt (l.take (i + 1)) = digTxt (l.take i) ++ strOfNums [48 + rd l (i : Int)] := by
  unfold digTxt
  rw [take_succ_rd l i h, List.map_append, strOfNums_append]; rfl
set_option maxRecDepth 100000 in
theorem l01Dec_small : ∀ n : Fin 10, spec_l01Dec.f 2 (n.val : Int) = some (strOfNums [48 + (n.val : Int)]) := by decide +kernel
theorem mono_le {α : Type} {g : Nat → Option α} (h : ∀ k, LeO (g k) (g (k + 1))) {r : α} {k : Nat} (hk : g k = some r) : Ev g r := by
  refine ⟨k, fun n hn => ?_⟩
  induction n with
  | zero => obtain rfl : k = 0 := by omega
            exact hk
  | succ n ih =>
    by_cases e : k = n + 1
    · subst e; exact hk
    · exact h n _ (ih (by omega))
theorem ev_l01Dec (n : Int) (h : 0 ≤ n ∧ n ≤ 9) : Ev (fun k => spec_l01Dec.f k n) (strOfNums [48 + n]) := by
  obtain ⟨m, hm⟩ : ∃ m : Fin 10, n = (m.val : Int) := ⟨⟨n.toNat, by omega⟩, by show n = (n.toNat : Int); omega⟩
  subst hm
  exact mono_le (fun k => spec_l01Dec.mono _ k) (l01Dec_small m)
theorem ev_l03Digits (l : List Int) (h : isDig l = true) : Ev (fun k => spec_l03Digits.f k l) (digTxt l) := by
  obtain ⟨h1, h2⟩ := Bool.and_eq_true_iff.1 h
  have hl := of_decide_eq_true h1
  unfold spec_l03Digits.f
  show Ev (fun k => spec_l03Digits.l0 k l (digTxt (l.take 0)) ((0 : Nat) : Int)) _
  refine Ev.up (fun i k => spec_l03Digits.l0 k l (digTxt (l.take i)) (i : Int)) l.length _ ?_ ?_
  · apply Ev.succ
    simp only [spec_l03Digits.l0]
    rw [List.take_length]
    exact Ev.ite_neg (by omega) (Ev.now _)
  · intro i hi ih
    have hx := List.all_eq_true.1 h2 (rd l (i : Int)) (by rw [rd_lt l i hi]; exact List.getElem_mem hi)
    obtain ⟨hx1, hx2⟩ := Bool.and_eq_true_iff.1 hx
    have hx1 := of_decide_eq_true hx1
    have hx2 := of_decide_eq_true hx2
    have hz := digTxt_size (l.take i)
    rw [List.length_take] at hz
    rw [digTxt_take l i hi] at ih
    apply Ev.succ
    simp only [spec_l03Digits.l0]
    refine Ev.ite_pos (by omega) (Ev.ite_pos (by omega) (Ev.bind (ev_l01Dec _ ⟨hx1, hx2⟩) (Ev.ite_pos (by rw [strOfNums_size, hz]; show _ + 1 ≤ _; omega) ?_)))
    rw [wrap64_succ (by omega)]
    exact ih
theorem l03Digits_calls (A : Option Addr) (c : Nat) (l : List Int) (w : World) (hr : Kd.C (Kd.int .i64) w A l.length l) (hc : l.length ≤ c) (h : isDig l = true) :
    Calls Tryd.prog 34 #[.slice A l.length c] w fun e w' => e = .returned (.string (digTxt l)) ∧ Below w.heap.size w w' := by
  obtain ⟨k, hk⟩ := ev_l03Digits l h
  exact spec_l03Digits.calls k A c l _ w hr hc (hk k (Nat.le_refl _))
end Go.Proofs.YthaipkhgemachaaDoor.Q
