/- Parts of the proof, laid together: contracts and lemmas; no conditions beyond those written. -/
import Derived.Test.YthaipkhgemachaaGreatDoorQx0
import Derived.Test.YthaipkhgemachaaGreatDoorSbase
import Derived.Test.YthaipkhgemachaaGreatDoorSlawptmem
import Derived.Test.YthaipkhgemachaaGreatDoorSupto
import Derived.Lib.SplitLaws
import Derived.Lib.Split
import Derived.Lib.IndexBytes
import Derived.Lib.Join
namespace Go.Proofs.YthaipkhgemachaaGreatDoor.Q
open Go.RowKit Go.Proofs.YthaipkhgemachaaGreatDoorW.PrintWords Go.Proofs.YthaipkhgemachaaGreatDoorW.PrintLast Go.Proofs.YthaipkhgemachaaGreatDoorW.PrintMore
attribute [local go_sem] max2_int min2_int max_two min_two max_three min_three max_four min_four   -- for this text's walks alone
set_option linter.unusedVariables false
set_option linter.unusedSimpArgs false
section
theorem okOrd_iff (n : Nat) (l : List Int) : okOrd n l = true ↔ (∀ x ∈ l, 0 ≤ x ∧ x < (n : Int)) ∧ l.Nodup ∧ l.length = n := by
  unfold okOrd
  rw [Bool.and_eq_true, decide_eq_true_iff, decide_eq_true_iff]
  have hp := perm_sortL l
  constructor
  · rintro ⟨h1, h2⟩
    rw [h2] at hp
    refine ⟨?_, ?_, h1⟩
    · intro x hx
      have := hp.mem_iff.2 hx
      unfold upto at this
      obtain ⟨j, hj, rfl⟩ := List.mem_map.1 this
      have := List.mem_range.1 hj
      omega
    · refine hp.nodup_iff.1 ?_
      rw [List.nodup_iff_pairwise_ne]
      rw [List.pairwise_iff_getElem]
      intro i j hi hj hij
      rw [upto_getElem, upto_getElem]; omega
  · rintro ⟨h1, h2, h3⟩
    refine ⟨h3, ?_⟩
    have hlen : (sortL l).length = n := by rw [hp.length_eq]; exact h3
    have hnd : (sortL l).Nodup := hp.nodup_iff.2 h2
    have hs : (sortL l).Pairwise (· < ·) := by
      rw [List.pairwise_iff_getElem]
      intro i j hi hj hij
      have a := List.pairwise_iff_getElem.1 (sorted_sortL l) i j hi hj hij
      have b := List.pairwise_iff_getElem.1 (List.nodup_iff_pairwise_ne.1 hnd) i j hi hj hij
      omega
    apply List.ext_getElem
    · rw [hlen, upto_length, h3]
    · intro i hi hj
      rw [upto_getElem]
      have a := rise_at hs i 0 (by omega)
      have b := rise_at hs (n - 1 - i) i (by omega)
      have e1 : 0 + i = i := by omega
      have e2 : i + (n - 1 - i) = n - 1 := by omega
      simp only [e1] at a
      simp only [e2] at b
      have c := h1 _ (hp.mem_iff.1 (List.getElem_mem (l := sortL l) (n := 0) (by omega)))
      have d := h1 _ (hp.mem_iff.1 (List.getElem_mem (l := sortL l) (n := n - 1) (by omega)))
      omega
theorem okOrd_step (n : Nat) (l : List Int) (i : Nat) (hi : i < l.length) (h : okOrd n l = true) : (0 ≤ rd l (i : Int) ∧ rd l (i : Int) < (n : Int)) ∧ ¬ rd l (i : Int) ∈ l.take i := by
  obtain ⟨h1, h2, _⟩ := (okOrd_iff n l).1 h
  rw [rd_lt l i hi]
  refine ⟨h1 _ (List.getElem_mem hi), fun hm => ?_⟩
  obtain ⟨j, hj, e⟩ := List.getElem_of_mem hm
  rw [List.length_take] at hj
  rw [List.getElem_take] at e
  exact List.pairwise_iff_getElem.1 (List.nodup_iff_pairwise_ne.1 h2) j i (by omega) hi (by omega) e
theorem okOrd_all (n : Nat) (l : List Int) (h : ∀ i : Nat, i < l.length → (0 ≤ rd l (i : Int) ∧ rd l (i : Int) < (n : Int)) ∧ ¬ rd l (i : Int) ∈ l.take i) : okOrd n l = decide (l.length = n) := by
  rw [Bool.eq_iff_iff, okOrd_iff, decide_eq_true_iff]
  refine ⟨fun q => q.2.2, fun q => ⟨fun x hx => ?_, ?_, q⟩⟩
  · obtain ⟨i, hi, rfl⟩ := List.getElem_of_mem hx
    rw [← rd_lt l i hi]; exact (h i hi).1
  · rw [List.nodup_iff_pairwise_ne, List.pairwise_iff_getElem]
    intro i j hi hj hij e
    have := (h j hj).2
    rw [rd_lt l j hj, ← e] at this
    exact this (List.mem_take_iff_getElem.2 ⟨i, by omega, rfl⟩)
end
section
def spc (c : UInt8) (l : List UInt8) : List (List UInt8) := Go.Lib.splitK [c] 0 (Go.Lib.count l [c]) l
theorem spc_ib_miss (c : UInt8) : ∀ w : List UInt8, ¬ c ∈ w → Go.Lib.indexByte w c = -1
  | [], _ => rfl
  | b :: l, h => by
    have hb : ¬ (b == c) = true := fun e => h (by rw [beq_iff_eq.1 e]; exact List.mem_cons_self)
    have := spc_ib_miss c l (fun hm => h (List.mem_cons_of_mem _ hm))
    unfold Go.Lib.indexByte
    rw [if_neg hb, this]; rfl
theorem spc_ib_hit (c : UInt8) (r : List UInt8) : ∀ w : List UInt8, ¬ c ∈ w → Go.Lib.indexByte (w ++ c :: r) c = w.length
  | [], _ => by
    show Go.Lib.indexByte (c :: r) c = _
    unfold Go.Lib.indexByte
    rw [if_pos (beq_iff_eq.2 rfl)]; rfl
  | b :: l, h => by
    have hb : ¬ (b == c) = true := fun e => h (by rw [beq_iff_eq.1 e]; exact List.mem_cons_self)
    have := spc_ib_hit c r l (fun hm => h (List.mem_cons_of_mem _ hm))
    rw [List.cons_append]
    unfold Go.Lib.indexByte
    rw [if_neg hb, this, if_neg (by intro e; have := beq_iff_eq.1 e; omega), List.length_cons]
    omega
theorem spc_miss (c : UInt8) (w : List UInt8) (h : ¬ c ∈ w) : spc c w = [w] := by
  have hi : Go.Lib.index w [c] = -1 := by rw [Go.Lib.index_one]; exact spc_ib_miss c w h
  unfold spc
  rw [Go.Lib.count_miss hi]
  rfl
theorem spc_hit (c : UInt8) (w r : List UInt8) (h : ¬ c ∈ w) : spc c (w ++ c :: r) = w :: spc c r := by
  have hi : Go.Lib.index (w ++ c :: r) [c] = w.length := by rw [Go.Lib.index_one]; exact spc_ib_hit c r w h
  have hd : (w ++ c :: r).drop (w.length + 1) = r := by simp
  unfold spc
  rw [Go.Lib.count_hit (by simp) hi]
  show Go.Lib.splitK _ _ (1 + Go.Lib.count ((w ++ c :: r).drop (w.length + 1)) [c]) _ = _
  rw [hd, Nat.add_comm]
  show (if _ then _ else _) = _
  rw [if_neg (by rw [hi]; intro e; have := beq_iff_eq.1 e; omega), hi]
  show ((w ++ c :: r).take (w.length + 0)) :: Go.Lib.splitK _ _ _ ((w ++ c :: r).drop (w.length + 1)) = _
  rw [hd, Nat.add_zero, List.take_left]
theorem spc_join (c : UInt8) : ∀ (W : List (List UInt8)), W ≠ [] → (∀ w ∈ W, ¬ c ∈ w) → spc c (Go.Lib.join W [c]) = W
  | [], h, _ => absurd rfl h
  | [a], _, hw => by rw [Go.Lib.join_one]; exact spc_miss c a (hw a (by simp))
  | a :: b :: r, _, hw => by
    have ih := spc_join c (b :: r) (by simp) (fun w hm => hw w (List.mem_cons_of_mem _ hm))
    have e : Go.Lib.join (a :: b :: r) [c] = a ++ c :: Go.Lib.join (b :: r) [c] := by
      simp [Go.Lib.join, List.intercalate]
    rw [e, spc_hit c a _ (hw a (by simp)), ih]
theorem spc_cut (c : UInt8) (w r : List UInt8) (h : ¬ c ∈ w) : Go.Lib.cut (w ++ c :: r) [c] = (w, r, true) := by
  have hi : Go.Lib.index (w ++ c :: r) [c] = w.length := by rw [Go.Lib.index_one]; exact spc_ib_hit c r w h
  unfold Go.Lib.cut
  rw [hi, if_pos (by omega)]
  simp
theorem spc_splitB (c : UInt8) (s : ByteArray) : (Go.Lib.splitB ⟨#[c]⟩ 0 (Go.Lib.countB s ⟨#[c]⟩) s).map (·.data.toList) = spc c s.data.toList := by
  unfold spc
  rw [Go.Lib.splitB_data]
end
end Go.Proofs.YthaipkhgemachaaGreatDoor.Q
