/- The reference's count of accepted intervals is the program's count of hits; no conditions beyond those written. -/
import Derived.Test.YtellojkbfnfacaaQx0
import Derived.Test.YtellojkbfnfacaaHbypass
import Derived.Test.YtellojkbfnfacaaSbase
import Derived.Test.YtellojkbfnfacaaSbypasscomb
import Derived.Test.YtellojkbfnfacaaSintervals
namespace Go.Proofs.Ytellojkbfnfacaa.Q
open Go.RowKit Go.Proofs.YtellojkbfnfacaaW.PrintWords Go.Proofs.YtellojkbfnfacaaW.PrintLast Go.Proofs.YtellojkbfnfacaaW.PrintMore
attribute [local go_sem] max2_int min2_int max_two min_two max_three min_three max_four min_four   -- for this text's walks alone
set_option linter.unusedVariables false
set_option linter.unusedSimpArgs false

theorem countP_add (l : List Int) (h : l.Nodup) (p p' : Int → Bool) (a : Int) (c : Prop) [Decidable c] (ho : ∀ x ∈ l, x ≠ a → p' x = p x) (hc : c → p' a = true ∧ p a = false) (hn : ¬ c → p' a = p a) : l.countP p' = l.countP p + if a ∈ l ∧ c then 1 else 0 := by
  induction l with
  | nil => simp
  | cons b l ih =>
    obtain ⟨h1, h2⟩ := List.nodup_cons.1 h
    have ih := ih h2 (fun x hx hne => ho x (List.mem_cons_of_mem _ hx) hne)
    rw [List.countP_cons, List.countP_cons, ih]
    by_cases e : b = a
    · subst e
      rw [if_neg (show ¬ (b ∈ l ∧ c) from fun q => h1 q.1)]
      by_cases hcc : c
      · obtain ⟨q1, q2⟩ := hc hcc
        rw [if_pos (show b ∈ b :: l ∧ c from ⟨List.mem_cons_self, hcc⟩), q1, q2]; simp
      · rw [hn hcc, if_neg (show ¬ (b ∈ b :: l ∧ c) from fun q => hcc q.2)]; generalize (if p b = true then 1 else 0) = z; omega
    · rw [ho b List.mem_cons_self e]
      have : (a ∈ b :: l ∧ c) ↔ (a ∈ l ∧ c) := by
        constructor
        · rintro ⟨q1, q2⟩
          exact ⟨(List.mem_cons.1 q1).resolve_left (fun q => e q.symm), q2⟩
        · rintro ⟨q1, q2⟩
          exact ⟨List.mem_cons_of_mem _ q1, q2⟩
      by_cases hq : a ∈ l ∧ c
      · rw [if_pos hq, if_pos (this.2 hq)]; generalize (if p b = true then 1 else 0) = z; omega
      · rw [if_neg hq, if_neg (fun q => hq (this.1 q))]; generalize (if p b = true then 1 else 0) = z; omega
theorem last_use (U : List Int) (j : Nat) (hj : j < U.length) : ∀ s : Nat, s ≤ j → (∃ q, q < s ∧ rd U (q : Int) = rd U (j : Int)) → (∀ q, s ≤ q → q < j → rd U (q : Int) ≠ rd U (j : Int)) → ∃ p, p < j ∧ rd U (p : Int) = rd U (j : Int) ∧ nx U (rd U (j : Int)) (p + 1) = j
  | 0, _, ⟨q, h, _⟩, _ => by omega
  | s + 1, hs, ⟨q, h, e⟩, hno => by
    by_cases he : rd U (s : Int) = rd U (j : Int)
    · refine ⟨s, by omega, he, ?_⟩
      rw [nx_skip U (rd U (j : Int)) (j - (s + 1)) (s + 1) (by omega) (fun q h1 h2 => hno q h1 (by omega)), show s + 1 + (j - (s + 1)) = j by omega, nx_step U _ j hj, if_pos rfl]
    · refine last_use U j hj s (by omega) ⟨q, ?_, e⟩ (fun q h1 h2 => ?_)
      · by_cases hq : q = s
        · subst hq; exact absurd e he
        · omega
      · by_cases hq : q = s
        · subst hq; exact he
        · exact hno q (by omega) h2
section
variable (U : List Int) (n : Int) (hn : 1 ≤ n) (hl : U.length ≤ 60)
include hn hl
theorem bypC_succ (j t : Nat) (hj : j < U.length) (ht : t < U.length) : bypC U n (j + 1) t = bypC U n j t + if rd U (j : Int) ∈ bypTo U n (t + 1) ∧ (nx U (rd U (j : Int)) (t + 1) = j ∧ rd U (j : Int) ∈ bypTo U n j) then 1 else 0 := by
  unfold bypC
  refine countP_add _ (byp_facts U n hn hl (t + 1) (by omega)).1 _ _ (rd U (j : Int)) (nx U (rd U (j : Int)) (t + 1) = j ∧ rd U (j : Int) ∈ bypTo U n j) (fun x _ hne => ?_) (fun hc => ?_) (fun hc => ?_)
  · have hx : nx U x (t + 1) ≠ j := by
      intro e
      have := nx_hit U x (U.length - (t + 1)) (t + 1) (by omega) (by omega)
      rw [e] at this
      exact hne this.symm
    congr 1
    exact decide_eq_decide.2 (by omega)
  · rw [hc.1]; simp [hc.2]
  · by_cases e : nx U (rd U (j : Int)) (t + 1) = j
    · rw [e]
      have : ¬ rd U (j : Int) ∈ bypTo U n j := fun q => hc ⟨e, q⟩
      simp [this]
    · congr 1
      exact decide_eq_decide.2 (by omega)
theorem bypC_miss (j t : Nat) (hj : j < U.length) (ht : t < U.length) (h : ¬ rd U (j : Int) ∈ bypTo U n j) : bypC U n (j + 1) t = bypC U n j t := by
  rw [bypC_succ U n hn hl j t hj ht, if_neg (fun q => h q.2.2)]; rfl
theorem bypC_hit (p j t : Nat) (hp : p < j) (hj : j < U.length) (ht : t < U.length) (hpj : nx U (rd U (p : Int)) (p + 1) = j) (h : rd U (j : Int) ∈ bypTo U n j) : bypC U n (j + 1) t = bypC U n j t + if p ≤ t ∧ t < j then 1 else 0 := by
  rw [bypC_succ U n hn hl j t hj ht]
  by_cases hq : p ≤ t ∧ t < j
  · obtain ⟨f1, f2, _⟩ := byp_fits U n hn hl p j hp hj hpj h t hq.1 hq.2
    rw [if_pos hq, if_pos ⟨f1, f2, h⟩]
  · rw [if_neg hq, if_neg]
    rintro ⟨_, e, _⟩
    have hge := nx_ge U (rd U (j : Int)) (t + 1)
    have hrd : rd U (j : Int) = rd U (p : Int) := by
      have := nx_hit U (rd U (p : Int)) (U.length - (p + 1)) (p + 1) (by omega) (by omega)
      rw [hpj] at this; exact this
    exact nx_none U (rd U (j : Int)) (U.length - (t + 1)) (t + 1) (by omega) p (by omega) (by omega) (by omega) hrd.symm
theorem byp_seen (j : Nat) (hj : j < U.length) (h : rd U (j : Int) ∈ bypTo U n j) : ∃ p, p < j ∧ nx U (rd U (p : Int)) (p + 1) = j := by
  have hm := (byp_facts U n hn hl j (by omega)).2.2 _ h
  obtain ⟨q, hq, e⟩ := List.getElem_of_mem hm
  rw [List.length_take] at hq
  rw [List.getElem_take] at e
  obtain ⟨p, h1, h2, h3⟩ := last_use U j hj j (Nat.le_refl _) ⟨q, by omega, by rw [rd_lt U q (by omega)]; exact e⟩ (fun q h1 h2 => by omega)
  exact ⟨p, h1, by rw [h2]; exact h3⟩
end
def bypMix (U : List Int) (n : Int) (j p s : Nat) : List Int := (List.range U.length).map fun t => ((bypC U n j t + (if p ≤ t ∧ t < s then 1 else 0) : Nat) : Int)
def bypRow (U : List Int) (n : Int) (j : Nat) : List Int := (List.range U.length).map fun t => ((bypC U n j t : Nat) : Int)
theorem bypMix_length (U : List Int) (n : Int) (j p s : Nat) : (bypMix U n j p s).length = U.length := by simp [bypMix]
theorem bypRow_length (U : List Int) (n : Int) (j : Nat) : (bypRow U n j).length = U.length := by simp [bypRow]
theorem bypMix_start (U : List Int) (n : Int) (j p : Nat) : bypMix U n j p p = bypRow U n j := by
  unfold bypMix bypRow
  refine List.map_congr_left (fun t _ => ?_)
  rw [if_neg (by omega)]; rfl
theorem rd_bypRow (U : List Int) (n : Int) (j t : Nat) (ht : t < U.length) : rd (bypRow U n j) (t : Int) = (bypC U n j t : Int) := by
  rw [rd_lt _ t (by rw [bypRow_length]; exact ht)]
  simp [bypRow]
theorem rd_bypMix (U : List Int) (n : Int) (j p s : Nat) (ht : s < U.length) : rd (bypMix U n j p s) (s : Int) = (bypC U n j s : Int) := by
  rw [rd_lt _ s (by rw [bypMix_length]; exact ht)]
  simp [bypMix]
theorem bypMix_set (U : List Int) (n : Int) (j p s : Nat) (hp : p ≤ s) (ht : s < U.length) : (bypMix U n j p s).set s ((bypC U n j s : Int) + 1) = bypMix U n j p (s + 1) := by
  apply List.ext_getElem
  · simp [bypMix]
  · intro i h1 h2
    rw [List.getElem_set]
    by_cases e : s = i
    · subst e
      rw [if_pos rfl]
      simp [bypMix, hp]
    · rw [if_neg e]
      simp only [bypMix, List.getElem_map, List.getElem_range]
      by_cases hq : p ≤ i ∧ i < s
      · rw [if_pos hq, if_pos (by omega)]
      · rw [if_neg hq, if_neg (by omega)]
theorem bypC_small (U : List Int) (n : Int) (hn : 1 ≤ n) (hl : U.length ≤ 60) (j t : Nat) (ht : t < U.length) : (bypC U n j t : Int) ≤ n := by
  have h1 := (byp_facts U n hn hl (t + 1) (by omega)).2.1
  have h2 := List.countP_le_length (p := fun x => decide (nx U x (t + 1) < j) && decide (x ∈ bypTo U n (nx U x (t + 1)))) (l := bypTo U n (t + 1))
  unfold bypC; omega
def bypRoom (U : List Int) (n : Int) (j p i : Nat) : Bool := (List.range i).all fun d => decide ((bypC U n j (p + d) : Int) < n)
theorem bypRoom_succ (U : List Int) (n : Int) (j p i : Nat) : bypRoom U n j p (i + 1) = (bypRoom U n j p i && decide ((bypC U n j (p + i) : Int) < n)) := by
  unfold bypRoom; rw [List.range_succ, List.all_append]; simp
theorem ivs_mem2 {l : List Int} {x : List Int} : x ∈ ivs l ↔ ∃ i : Nat, i < l.length ∧ nx l (rd l (i : Int)) (i + 1) < l.length ∧ x = [(i : Int), (nx l (rd l (i : Int)) (i + 1) : Int)] := by
  unfold ivs ivsTo
  rw [List.mem_filterMap]
  constructor
  · rintro ⟨i, hi, hx⟩
    by_cases hlt : nx l (rd l (i : Int)) (i + 1) < l.length
    · rw [if_pos hlt] at hx
      exact ⟨i, List.mem_range.1 hi, hlt, (Option.some.inj hx).symm⟩
    · rw [if_neg hlt] at hx; cases hx
  · rintro ⟨i, hi, hlt, rfl⟩
    exact ⟨i, List.mem_range.2 hi, by rw [if_pos hlt]⟩
theorem ivs_pair (l : List Int) : (ivs l).Pairwise fun x y => rd x 0 < rd y 0 := by
  unfold ivs ivsTo
  rw [List.pairwise_filterMap]
  refine List.pairwise_lt_range.imp ?_
  intro a b hab x hx y hy
  split at hx
  · split at hy
    · obtain rfl := Option.some.inj hx
      obtain rfl := Option.some.inj hy
      show (a : Int) < (b : Int)
      omega
    · cases hy
  · cases hx
end Go.Proofs.Ytellojkbfnfacaa.Q
