/- Whether a list holds the numbers below n, each once; no conditions beyond those written. -/
import Derived.Test.YthaipkhgemachaaDoorQx0
import Derived.Test.YthaipkhgemachaaDoorSbase
import Derived.Test.YthaipkhgemachaaDoorSsortl
import Derived.Test.YthaipkhgemachaaDoorSown
import Derived.Test.YthaipkhgemachaaDoorSeqi
namespace Go.Proofs.YthaipkhgemachaaDoor.Q
open Go.RowKit Go.Proofs.YthaipkhgemachaaDoorW.PrintWords Go.Proofs.YthaipkhgemachaaDoorW.PrintLast Go.Proofs.YthaipkhgemachaaDoorW.PrintMore
attribute [local go_sem] max2_int min2_int max_two min_two max_three min_three max_four min_four   -- for this text's walks alone
set_option linter.unusedVariables false
set_option linter.unusedSimpArgs false

theorem okOrd_iff (n : Nat) (l : List Int) : okOrd n l = true ↔ (∀ x ∈ l, 0 ≤ x ∧ x < (n : Int)) ∧ l.Nodup ∧ l.length = n := by
  unfold okOrd
  rw [Bool.and_eq_true, decide_eq_true_iff, decide_eq_true_iff]
  have hp := perm_sortL l
  constructor
  · rintro ⟨h1, h2⟩
    rw [h2] at hp
    refine ⟨?_, ?_, h1⟩
    · intro x hx
      have := hp.mem_iff.2 hx
      unfold upto at this
      obtain ⟨j, hj, rfl⟩ := List.mem_map.1 this
      have := List.mem_range.1 hj
      omega
    · refine hp.nodup_iff.1 ?_
      rw [List.nodup_iff_pairwise_ne]
      rw [List.pairwise_iff_getElem]
      intro i j hi hj hij
      rw [upto_getElem, upto_getElem]; omega
  · rintro ⟨h1, h2, h3⟩
    refine ⟨h3, ?_⟩
    have hlen : (sortL l).length = n := by rw [hp.length_eq]; exact h3
    have hnd : (sortL l).Nodup := hp.nodup_iff.2 h2
    have hs : (sortL l).Pairwise (· < ·) := by
      rw [List.pairwise_iff_getElem]
      intro i j hi hj hij
      have a := List.pairwise_iff_getElem.1 (sorted_sortL l) i j hi hj hij
      have b := List.pairwise_iff_getElem.1 (List.nodup_iff_pairwise_ne.1 hnd) i j hi hj hij
      omega
    apply List.ext_getElem
    · rw [hlen, upto_length, h3]
    · intro i hi hj
      rw [upto_getElem]
      have a := rise_at hs i 0 (by omega)
      have b := rise_at hs (n - 1 - i) i (by omega)
      have e1 : 0 + i = i := by omega
      have e2 : i + (n - 1 - i) = n - 1 := by omega
      simp only [e1] at a
      simp only [e2] at b
      have c := h1 _ (hp.mem_iff.1 (List.getElem_mem (l := sortL l) (n := 0) (by omega)))
      have d := h1 _ (hp.mem_iff.1 (List.getElem_mem (l := sortL l) (n := n - 1) (by omega)))
      omega
theorem okOrd_step (n : Nat) (l : List Int) (i : Nat) (hi : i < l.length) (h : okOrd n l = true) : (0 ≤ rd l (i : Int) ∧ rd l (i : Int) < (n : Int)) ∧ ¬ rd l (i : Int) ∈ l.take i := by
  obtain ⟨h1, h2, _⟩ := (okOrd_iff n l).1 h
  rw [rd_lt l i hi]
  refine ⟨h1 _ (List.getElem_mem hi), fun hm => ?_⟩
  obtain ⟨j, hj, e⟩ := List.getElem_of_mem hm
  rw [List.length_take] at hj
  rw [List.getElem_take] at e
  exact List.pairwise_iff_getElem.1 (List.nodup_iff_pairwise_ne.1 h2) j i (by omega) hi (by omega) e
theorem okOrd_all (n : Nat) (l : List Int) (h : ∀ i : Nat, i < l.length → (0 ≤ rd l (i : Int) ∧ rd l (i : Int) < (n : Int)) ∧ ¬ rd l (i : Int) ∈ l.take i) : okOrd n l = decide (l.length = n) := by
  rw [Bool.eq_iff_iff, okOrd_iff, decide_eq_true_iff]
  refine ⟨fun q => q.2.2, fun q => ⟨fun x hx => ?_, ?_, q⟩⟩
  · obtain ⟨i, hi, rfl⟩ := List.getElem_of_mem hx
    rw [← rd_lt l i hi]; exact (h i hi).1
  · rw [List.nodup_iff_pairwise_ne, List.pairwise_iff_getElem]
    intro i j hi hj hij e
    have := (h j hj).2
    rw [rd_lt l j hj, ← e] at this
    exact this (List.mem_take_iff_getElem.2 ⟨i, by omega, rfl⟩)
end Go.Proofs.YthaipkhgemachaaDoor.Q
