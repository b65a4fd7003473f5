/- What both readers of a policy's text come to; plain lists. -/
import Derived.Test.YthaipkhgemachaaDoorQx0
import Derived.Test.YthaipkhgemachaaDoorSl03Text
import Derived.Test.YthaipkhgemachaaDoorSsortl
import Derived.Test.YthaipkhgemachaaDoorShelf
namespace Go.Proofs.YthaipkhgemachaaDoor.Q
open Go.RowKit Go.Proofs.YthaipkhgemachaaDoorW.PrintWords Go.Proofs.YthaipkhgemachaaDoorW.PrintLast Go.Proofs.YthaipkhgemachaaDoorW.PrintMore
attribute [local go_sem] max2_int min2_int max_two min_two max_three min_three max_four min_four   -- for this text's walks alone
set_option linter.unusedVariables false
set_option linter.unusedSimpArgs false

theorem rp_ba_ext {a b : ByteArray} (h : a.data.toList = b.data.toList) : a = b := by
  obtain ⟨⟨x⟩⟩ := a
  obtain ⟨⟨y⟩⟩ := b
  have e : x = y := h
  rw [e]
theorem rp_toList (s : ByteArray) : s.toList = s.data.toList := by
  first | exact ByteArray.toList_eq s | exact Go.ByteArray.toList_eq s
def btn (s : ByteArray) (i : Nat) : Int := if h : i < s.size then ((s[i]'h).toNat : Int) else 0
theorem btn_at (s : ByteArray) (i : Nat) (h : i < s.size) : ((s[i]'h).toNat : Int) = btn s i := by unfold btn; rw [dif_pos h]
theorem btn_range (s : ByteArray) (i : Nat) : 0 ≤ btn s i ∧ btn s i ≤ 255 := by
  unfold btn
  split
  · rename_i h
    have := (s[i]'h).toNat_lt
    omega
  · omega
/-- One byte more of the reference's reading: the rows so far and the row begun. -/
def stepP (p : List (List Int) × List Int) (b : UInt8) : List (List Int) × List Int := if 48 ≤ (b.toNat : Int) ∧ (b.toNat : Int) ≤ 57 then (p.1, p.2 ++ [(b.toNat : Int) - 48]) else (p.1 ++ [p.2], [])
def srp (s : ByteArray) (i : Nat) : List (List Int) × List Int := (s.data.toList.take i).foldl stepP ([], [])
theorem take_snoc_ba (s : ByteArray) (i : Nat) (h : i < s.size) : s.data.toList.take (i + 1) = s.data.toList.take i ++ [s[i]'h] := by
  rw [List.take_succ_eq_append_getElem (by rw [Array.length_toList]; exact h)]
  rfl
theorem srp_succ (s : ByteArray) (i : Nat) (h : i < s.size) : srp s (i + 1) = if 48 ≤ btn s i ∧ btn s i ≤ 57 then ((srp s i).1, (srp s i).2 ++ [btn s i - 48]) else ((srp s i).1 ++ [(srp s i).2], []) := by
  unfold srp
  rw [take_snoc_ba s i h, List.foldl_append]
  show stepP _ (s[i]'h) = _
  unfold stepP
  rw [btn_at]
theorem srp_all (s : ByteArray) : srp s s.size = s.data.toList.foldl stepP ([], []) := by
  unfold srp
  rw [List.take_of_length_le (by rw [Array.length_toList]; exact Nat.le_refl _)]
theorem srp_len (s : ByteArray) (i : Nat) (h : i ≤ s.size) : (srp s i).1.length ≤ i ∧ (srp s i).2.length ≤ i ∧ ∀ y ∈ (srp s i).1, y.length ≤ i := by
  induction i with
  | zero => exact ⟨Nat.le_refl _, Nat.le_refl _, fun y hy => by cases hy⟩
  | succ i ih =>
    obtain ⟨h1, h2, h3⟩ := ih (by omega)
    rw [srp_succ s i (by omega)]
    split
    · exact ⟨by show (srp s i).1.length ≤ _; omega, by show ((srp s i).2 ++ _).length ≤ _; rw [List.length_append, List.length_singleton]; omega, fun y hy => by have := h3 y hy; omega⟩
    · refine ⟨by show ((srp s i).1 ++ _).length ≤ _; rw [List.length_append, List.length_singleton]; omega, Nat.zero_le _, fun y hy => ?_⟩
      rcases List.mem_append.1 hy with hy | hy
      · have := h3 y hy; omega
      · rw [List.mem_singleton.1 hy]; omega
/-- A row of digits. -/
def fdg (x : ByteArray) : List Int := x.data.toList.map fun b => (b.toNat : Int) - 48
theorem fdg_len (x : ByteArray) : (fdg x).length = x.size := by unfold fdg; rw [List.length_map, Array.length_toList]; rfl
abbrev irpC (s : ByteArray) : List UInt8 × List UInt8 × Bool := Go.Lib.cut s.data.toList [124]
def irpH (s : ByteArray) : ByteArray := ⟨(irpC s).1.toArray⟩
def irpM (s : ByteArray) : ByteArray := ⟨(irpC s).2.1.toArray⟩
def irpL (s : ByteArray) : List ByteArray := Go.Lib.splitB ⟨#[47]⟩ 0 (Go.Lib.countB (irpH s) ⟨#[47]⟩) (irpH s)
theorem irp_splitB_size (sep : ByteArray) : ∀ (k : Nat) (s : ByteArray), ∀ x ∈ Go.Lib.splitB sep 0 k s, x.size ≤ s.size
  | 0, s, x, hx => by rw [Go.Lib.splitB_zero, List.mem_singleton] at hx; rw [hx]; exact Nat.le_refl _
  | k + 1, s, x, hx => by
    rcases Go.Lib.indexB_cases s sep with hix | ⟨i, hix, _⟩
    · rw [Go.Lib.splitB_miss sep 0 _ s hix, List.mem_singleton] at hx; rw [hx]; exact Nat.le_refl _
    · rw [Go.Lib.splitB_hit sep 0 k s i hix] at hx
      rcases List.mem_cons.1 hx with rfl | hx
      · rw [ByteArray.size_extract]; omega
      · have := irp_splitB_size sep k _ x hx
        rw [ByteArray.size_extract] at this
        omega
theorem irp_sizes (s : ByteArray) : (irpH s).size ≤ s.size ∧ (irpM s).size ≤ s.size := by
  rcases Go.Lib.indexB_cases s ⟨#[124]⟩ with h | ⟨i, h, hi⟩
  · have hc := Go.Lib.cutB_miss s ⟨#[124]⟩ h
    have e1 : irpH s = s := hc.1
    have e2 : irpM s = ByteArray.empty := hc.2.1
    rw [e1, e2]
    exact ⟨Nat.le_refl _, Nat.zero_le _⟩
  · have hc := Go.Lib.cutB_hit s ⟨#[124]⟩ i h
    have e1 : irpH s = s.extract 0 i := hc.1
    have e2 : irpM s = s.extract (i + 1) s.size := hc.2.1
    rw [e1, e2, ByteArray.size_extract, ByteArray.size_extract]
    omega
/-- What the two answer: the rows, the last row, and whether it is a policy's text. -/
def srpF (s : ByteArray) : List (List Int) × List Int × Bool := if s.size ≤ 60 ∧ okPol (srp s s.size).1 (srp s s.size).2 = true ∧ polTxt (srp s s.size).1 (srp s s.size).2 = s then ((srp s s.size).1, (srp s s.size).2, true) else ([], [], false)
def irpF (s : ByteArray) : List (List Int) × List Int × Bool := if (irpC s).2.2 = true ∧ okPol ((irpL s).map fdg) (fdg (irpM s)) = true ∧ polTxt ((irpL s).map fdg) (fdg (irpM s)) = s then ((irpL s).map fdg, fdg (irpM s), true) else ([], [], false)
end Go.Proofs.YthaipkhgemachaaDoor.Q
