/- Cutting a text at a byte, and joining it: what strings.Split and strings.Cut make of lists; no conditions beyond those written. -/
import Derived.Test.YthaipkhgemachaaDoorQx0
import Derived.Lib.SplitLaws
import Derived.Lib.Split
import Derived.Lib.IndexBytes
import Derived.Lib.Join
namespace Go.Proofs.YthaipkhgemachaaDoor.Q
open Go.RowKit Go.Proofs.YthaipkhgemachaaDoorW.PrintWords Go.Proofs.YthaipkhgemachaaDoorW.PrintLast Go.Proofs.YthaipkhgemachaaDoorW.PrintMore
attribute [local go_sem] max2_int min2_int max_two min_two max_three min_three max_four min_four   -- for this text's walks alone
set_option linter.unusedVariables false
set_option linter.unusedSimpArgs false

def spc (c : UInt8) (l : List UInt8) : List (List UInt8) := Go.Lib.splitK [c] 0 (Go.Lib.count l [c]) l
theorem spc_ib_miss (c : UInt8) : ∀ w : List UInt8, ¬ c ∈ w → Go.Lib.indexByte w c = -1
  | [], _ => rfl
  | b :: l, h => by
    have hb : ¬ (b == c) = true := fun e => h (by rw [beq_iff_eq.1 e]; exact List.mem_cons_self)
    have := spc_ib_miss c l (fun hm => h (List.mem_cons_of_mem _ hm))
    unfold Go.Lib.indexByte
    rw [if_neg hb, this]; rfl
theorem spc_ib_hit (c : UInt8) (r : List UInt8) : ∀ w : List UInt8, ¬ c ∈ w → Go.Lib.indexByte (w ++ c :: r) c = w.length
  | [], _ => by
    show Go.Lib.indexByte (c :: r) c = _
    unfold Go.Lib.indexByte
    rw [if_pos (beq_iff_eq.2 rfl)]; rfl
  | b :: l, h => by
    have hb : ¬ (b == c) = true := fun e => h (by rw [beq_iff_eq.1 e]; exact List.mem_cons_self)
    have := spc_ib_hit c r l (fun hm => h (List.mem_cons_of_mem _ hm))
    rw [List.cons_append]
    unfold Go.Lib.indexByte
    rw [if_neg hb, this, if_neg (by intro e; have := beq_iff_eq.1 e; omega), List.length_cons]
    omega
theorem spc_miss (c : UInt8) (w : List UInt8) (h : ¬ c ∈ w) : spc c w = [w] := by
  have hi : Go.Lib.index w [c] = -1 := by rw [Go.Lib.index_one]; exact spc_ib_miss c w h
  unfold spc
  rw [Go.Lib.count_miss hi]
  rfl
theorem spc_hit (c : UInt8) (w r : List UInt8) (h : ¬ c ∈ w) : spc c (w ++ c :: r) = w :: spc c r := by
  have hi : Go.Lib.index (w ++ c :: r) [c] = w.length := by rw [Go.Lib.index_one]; exact spc_ib_hit c r w h
  have hd : (w ++ c :: r).drop (w.length + 1) = r := by simp
  unfold spc
  rw [Go.Lib.count_hit (by simp) hi]
  show Go.Lib.splitK _ _ (1 + Go.Lib.count ((w ++ c :: r).drop (w.length + 1)) [c]) _ = _
  rw [hd, Nat.add_comm]
  show (if _ then _ else _) = _
  rw [if_neg (by rw [hi]; intro e; have := beq_iff_eq.1 e; omega), hi]
  show ((w ++ c :: r).take (w.length + 0)) :: Go.Lib.splitK _ _ _ ((w ++ c :: r).drop (w.length + 1)) = _
  rw [hd, Nat.add_zero, List.take_left]
theorem spc_join (c : UInt8) : ∀ (W : List (List UInt8)), W ≠ [] → (∀ w ∈ W, ¬ c ∈ w) → spc c (Go.Lib.join W [c]) = W
  | [], h, _ => absurd rfl h
  | [a], _, hw => by rw [Go.Lib.join_one]; exact spc_miss c a (hw a (by simp))
  | a :: b :: r, _, hw => by
    have ih := spc_join c (b :: r) (by simp) (fun w hm => hw w (List.mem_cons_of_mem _ hm))
    have e : Go.Lib.join (a :: b :: r) [c] = a ++ c :: Go.Lib.join (b :: r) [c] := by
      simp [Go.Lib.join, List.intercalate]
    rw [e, spc_hit c a _ (hw a (by simp)), ih]
theorem spc_cut (c : UInt8) (w r : List UInt8) (h : ¬ c ∈ w) : Go.Lib.cut (w ++ c :: r) [c] = (w, r, true) := by
  have hi : Go.Lib.index (w ++ c :: r) [c] = w.length := by rw [Go.Lib.index_one]; exact spc_ib_hit c r w h
  unfold Go.Lib.cut
  rw [hi, if_pos (by omega)]
  simp
theorem spc_splitB (c : UInt8) (s : ByteArray) : (Go.Lib.splitB ⟨#[c]⟩ 0 (Go.Lib.countB s ⟨#[c]⟩) s).map (·.data.toList) = spc c s.data.toList := by
  unfold spc
  rw [Go.Lib.splitB_data]
end Go.Proofs.YthaipkhgemachaaDoor.Q
