/- The best replacement: as many intervals over a use as there is room, and a full use in each interval that is not kept; no conditions beyond those written. -/
import Derived.Test.YtellojkbfnfacaaQx0
import Derived.Test.YtellojkbfnfacaaSbase
import Derived.Test.YtellojkbfnfacaaSbest
import Derived.Test.YtellojkbfnfacaaSbestmiss
import Derived.Test.YtellojkbfnfacaaSduality
import Derived.Test.YtellojkbfnfacaaSslidx
import Derived.Test.YtellojkbfnfacaaSlenalias
import Derived.Test.YtellojkbfnfacaaSidxf
import Derived.Test.YtellojkbfnfacaaSivsimpl
import Derived.Test.YtellojkbfnfacaaSsetldef
import Derived.Test.YtellojkbfnfacaaSsortl
namespace Go.Proofs.Ytellojkbfnfacaa.Q
open Go.RowKit Go.Proofs.YtellojkbfnfacaaW.PrintWords Go.Proofs.YtellojkbfnfacaaW.PrintLast Go.Proofs.YtellojkbfnfacaaW.PrintMore
attribute [local go_sem] max2_int min2_int max_two min_two max_three min_three max_four min_four   -- for this text's walks alone
set_option linter.unusedVariables false
set_option linter.unusedSimpArgs false

theorem bel_len {U : List Int} {n : Int} {t : Nat} {x : Int} (hx : x ∈ bIn U n t) (hne : ¬ x ∈ bIn U n (t + 1)) : ¬ rd U (t : Int) ∈ bIn U n t ∧ n ≤ ((bIn U n t).length : Int) := by
  change ¬ x ∈ bNext U n (bIn U n t) t at hne
  unfold bNext at hne
  split at hne
  · exact absurd hx hne
  · rename_i h1
    split at hne
    · exact absurd (List.mem_append_left _ hx) hne
    · exact ⟨h1, by omega⟩
theorem nx_le_of {U : List Int} {a : Int} {s q : Nat} (h : s ≤ q) (hq : q < U.length) (e : rd U (q : Int) = a) : nx U a s ≤ q := by
  rcases Nat.lt_or_ge q (nx U a s) with h1 | h1
  · exact absurd e (nx_none U a (U.length - s) s (by omega) q h h1 hq)
  · exact h1
theorem last_occ (U : List Int) (b : Int) : ∀ t : Nat, t ≤ U.length → b ∈ U.take t → ∃ k : Nat, k < t ∧ rd U (k : Int) = b ∧ ∀ q : Nat, k < q → q < t → rd U (q : Int) ≠ b
  | 0, _, h => by simp at h
  | t + 1, ht, h => by
    by_cases e : rd U (t : Int) = b
    · exact ⟨t, by omega, e, fun q h1 h2 => by omega⟩
    · rw [take_succ_rd U t (by omega)] at h
      rcases List.mem_append.1 h with h | h
      · obtain ⟨k, h1, h2, h3⟩ := last_occ U b t (by omega) h
        refine ⟨k, by omega, h2, fun q h4 h5 => ?_⟩
        by_cases e2 : q = t
        · subst e2; exact e
        · exact h3 q h4 (by omega)
      · exact absurd (List.mem_singleton.1 h).symm e
section
variable (U : List Int) (n : Int) (hn : 1 ≤ n) (hl : U.length ≤ 60) (hU : ∀ x ∈ U, 0 ≤ x ∧ x ≤ 63)
include hn hl hU
theorem bel_evict (t : Nat) (ht : t < U.length) (x : Int) (hx : x ∈ bIn U n t) (hne : ¬ x ∈ bIn U n (t + 1)) : ((bIn U n t).length : Int) = n ∧ ¬ rd U (t : Int) ∈ bIn U n t ∧ ∀ z ∈ bIn U n t, wt U (t + 1) z ≤ wt U (t + 1) x := by
  obtain ⟨h1, h2, _, _⟩ := bIn_facts U n hn hU t (by omega)
  obtain ⟨g1, g2⟩ := bel_len hx hne
  refine ⟨by omega, g1, fun z hz => ?_⟩
  have hpos : 0 < (setL (bIn U n t)).length := by rw [setL_nodup_length h1]; omega
  have hvm := bVic_mem U (bIn U n t) t hpos
  obtain ⟨q1, q2⟩ := maxBy_wt U (t + 1) (setL (bIn U n t)) hl hpos
  have hxv : x = bVic U (bIn U n t) t := by
    by_cases e : x = bVic U (bIn U n t) t
    · exact e
    · refine absurd ?_ hne
      show x ∈ bNext U n (bIn U n t) t
      unfold bNext
      rw [if_neg g1, if_neg (by omega)]
      exact (set_mem_iff h1 hvm _ _).2 (.inr ⟨hx, e⟩)
  rw [hxv]
  exact q2 z (((setL_facts _).2 z).2 hz)
omit hl in
theorem bel_in (t : Nat) (ht : t < U.length) : rd U (t : Int) ∈ bIn U n (t + 1) := by
  obtain ⟨h1, h2, _, _⟩ := bIn_facts U n hn hU t (by omega)
  show _ ∈ bNext U n (bIn U n t) t
  unfold bNext
  split
  · rename_i h; exact h
  · split
    · simp
    · have hpos : 0 < (setL (bIn U n t)).length := by rw [setL_nodup_length h1]; omega
      exact (set_mem_iff h1 (bVic_mem U (bIn U n t) t hpos) _ _).2 (.inl rfl)
omit hn hl hU in
theorem bel_took (t : Nat) (ht : t ≤ U.length) : ∀ x ∈ bIn U n t, x ∈ U.take t := by
  induction t with
  | zero => intro x hx; cases hx
  | succ t ih =>
    intro x hx
    rw [take_succ_rd U t (by omega)]
    rcases bNext_mem U n _ t x hx with h | h
    · exact List.mem_append_left _ (ih (by omega) x h)
    · exact List.mem_append_right _ (by rw [h]; simp)
omit hn hl hU in
theorem bel_surv (x : Int) : ∀ (d s : Nat), x ∈ bIn U n (s + d) → (∀ q, s ≤ q → q < s + d → rd U (q : Int) ≠ x) → x ∈ bIn U n s
  | 0, s, h, _ => h
  | d + 1, s, h, hq => by
    refine bel_surv x d s ?_ (fun q h1 h2 => hq q h1 (by omega))
    rcases bNext_mem U n _ (s + d) x h with h | h
    · exact h
    · exact absurd h.symm (hq (s + d) (by omega) (by omega))
omit hn hl hU in
theorem bel_first (x : Int) : ∀ (d p : Nat), x ∈ bIn U n p → ¬ x ∈ bIn U n (p + d + 1) → ∃ t, p ≤ t ∧ t ≤ p + d ∧ x ∈ bIn U n t ∧ ¬ x ∈ bIn U n (t + 1)
  | 0, p, h, hne => ⟨p, Nat.le_refl _, Nat.le_refl _, h, hne⟩
  | d + 1, p, h, hne => by
    by_cases e : x ∈ bIn U n (p + 1)
    · obtain ⟨t, h1, h2, h3, h4⟩ := bel_first x d (p + 1) e (by rw [show p + 1 + d + 1 = p + (d + 1) + 1 by omega]; exact hne)
      exact ⟨t, by omega, by omega, h3, h4⟩
    · exact ⟨p, Nat.le_refl _, by omega, h, e⟩
theorem bel_others (j : Nat) (hj : j < U.length) (t : Nat) (ht : t < j) (x : Int) (hx : x ∈ bIn U n t) (hne : ¬ x ∈ bIn U n (t + 1)) (hxj : nx U x (t + 1) ≤ j) (b : Int) (hb : b ∈ bIn U n t) (hbx : b ≠ x) : nx U b (t + 1) < nx U x (t + 1) := by
  have h := (bel_evict U n hn hl hU t (by omega) x hx hne).2.2 b hb
  have hx1 := nx_hit U x (U.length - (t + 1)) (t + 1) (by omega) (by omega)
  unfold wt at h
  rw [if_pos (show nx U x (t + 1) < U.length by omega)] at h
  split at h
  · rename_i hb1
    rcases Nat.lt_or_ge (nx U b (t + 1)) (nx U x (t + 1)) with h2 | h2
    · exact h2
    · have e : nx U b (t + 1) = nx U x (t + 1) := by omega
      have hb2 := nx_hit U b (U.length - (t + 1)) (t + 1) (by omega) hb1
      rw [e, hx1] at hb2
      exact absurd hb2.symm hbx
  · omega
/-- A full memory from which one is replaced that is used by j leads to one whose others are all hits before j. -/
theorem bel_all (j : Nat) (hj : j < U.length) : ∀ (m t : Nat) (x : Int), j - t ≤ m → t < j → x ∈ bIn U n t → ¬ x ∈ bIn U n (t + 1) → nx U x (t + 1) ≤ j →
    ∃ (t1 : Nat) (y : Int), t ≤ t1 ∧ t1 < j ∧ y ∈ bIn U n t1 ∧ ¬ y ∈ bIn U n (t1 + 1) ∧ ∀ b ∈ bIn U n t1, b ≠ y → nx U b (t1 + 1) < j ∧ b ∈ bIn U n (nx U b (t1 + 1))
  | 0, t, x, hm, ht, _, _, _ => by omega
  | m + 1, t, x, hm, ht, hx, hne, hxj => by
    have ho := bel_others U n hn hl hU j hj t ht x hx hne hxj
    by_cases hgood : ∀ b ∈ bIn U n t, b ≠ x → b ∈ bIn U n (nx U b (t + 1))
    · exact ⟨t, x, Nat.le_refl _, ht, hx, hne, fun b hb hbx => ⟨by have := ho b hb hbx; omega, hgood b hb hbx⟩⟩
    · obtain ⟨b, hb⟩ := Classical.not_forall.1 hgood
      obtain ⟨hb1, hb2⟩ := Classical.not_imp.1 hb
      obtain ⟨hbx, hb3⟩ := Classical.not_imp.1 hb2
      have hlt := ho b hb1 hbx
      have hge := nx_ge U b (t + 1)
      obtain ⟨d, hd⟩ : ∃ d, nx U b (t + 1) = t + d + 1 := ⟨nx U b (t + 1) - (t + 1), by omega⟩
      rw [hd] at hb3
      obtain ⟨t2, g1, g2, g3, g4⟩ := bel_first U n b d t hb1 hb3
      have htt : t2 ≠ t := by
        rintro rfl
        have h5 := bel_others U n hn hl hU j hj t2 ht b g3 g4 (by omega) x hx (fun e => hbx e.symm)
        omega
      have hnx : nx U b (t2 + 1) = nx U b (t + 1) := by
        have := nx_skip U b (t2 - t) (t + 1) (by omega) (fun q h1 h2 => nx_none U b (U.length - (t + 1)) (t + 1) (by omega) q h1 (by omega) (by omega))
        rw [this, show t + 1 + (t2 - t) = t2 + 1 by omega]
      obtain ⟨t1, y, f1, f2, f3⟩ := bel_all j hj m t2 b (by omega) (by omega) g3 g4 (by omega)
      exact ⟨t1, y, by omega, f2, f3⟩
/-- Where the interval that begins at a use ends. -/
def eN (U : List Int) (i : Nat) : Nat := nx U (rd U (i : Int)) (i + 1)
/-- The uses at which an interval begins. -/
def iN (U : List Int) : List Nat := (List.range U.length).filter fun i => decide (eN U i < U.length)
def accN (U : List Int) (n : Int) (i : Nat) : Bool := bHit U n (eN U i)
omit hn hl hU in
theorem iN_mem (i : Nat) : i ∈ iN U ↔ i < U.length ∧ eN U i < U.length := by unfold iN; rw [List.mem_filter, List.mem_range]; simp
omit hn hl hU in
theorem iN_facts : ∀ i ∈ iN U, i < eN U i ∧ eN U i < U.length := fun i hi => ⟨by have := nx_ge U (rd U (i : Int)) (i + 1); unfold eN; omega, ((iN_mem U i).1 hi).2⟩
omit hn hl hU in
theorem eN_rd (i : Nat) (hi : i ∈ iN U) : rd U (eN U i : Int) = rd U (i : Int) := by
  obtain ⟨h1, h2⟩ := (iN_mem U i).1 hi
  exact nx_hit U _ (U.length - (i + 1)) (i + 1) (by omega) h2
omit hn hl hU in
theorem eN_free (i q : Nat) (h1 : i < q) (h2 : q < eN U i) (h3 : eN U i ≤ U.length) (hi : i < U.length) : rd U (q : Int) ≠ rd U (i : Int) := nx_none U _ (U.length - (i + 1)) (i + 1) (by omega) q (by omega) h2 (by omega)
omit hn hl hU in
theorem eN_next (i k : Nat) (h : i < k) (hk : k < U.length) (e : rd U (i : Int) = rd U (k : Int)) : eN U i ≤ k := nx_le_of (by omega) hk e.symm
omit hn hl hU in
theorem iN_nodup : (iN U).Nodup := List.nodup_range.filter _
omit hn hl hU in
theorem accN_iff (i : Nat) (hi : i ∈ iN U) : accN U n i = true ↔ rd U (i : Int) ∈ bIn U n (eN U i) := by
  unfold accN bHit
  rw [eN_rd U i hi]; simp
omit hl in
theorem bel_cap (t : Nat) (ht : t < U.length) : ((iN U).countP fun i => accN U n i && crN (eN U) t i) ≤ (n - 1).toNat := by
  rw [List.countP_eq_length_filter]
  have hm := bel_in U n hn hU t ht
  obtain ⟨h1, h2, _, _⟩ := bIn_facts U n hn hU (t + 1) (by omega)
  have hf := filt_len _ h1 _ hm
  have key : (((iN U).filter fun i => accN U n i && crN (eN U) t i).map fun i : Nat => rd U (i : Int)).length ≤ ((bIn U n (t + 1)).filter fun x => !decide (x = rd U (t : Int))).length := by
    refine sub_len _ _ (nodup_map_on ((iN_nodup U).filter _) (fun a ha b hb e => ?_)) (fun x hx => ?_)
    · obtain ⟨ha1, ha2⟩ := List.mem_filter.1 ha
      obtain ⟨hb1, hb2⟩ := List.mem_filter.1 hb
      simp only [Bool.and_eq_true] at ha2 hb2
      have ha3 := crN_iff.1 ha2.2
      have hb3 := crN_iff.1 hb2.2
      rcases Nat.lt_trichotomy a b with h | h | h
      · have := eN_next U a b h ((iN_mem U b).1 hb1).1 e; omega
      · exact h
      · have := eN_next U b a h ((iN_mem U a).1 ha1).1 e.symm; omega
    · obtain ⟨i, hi, rfl⟩ := List.mem_map.1 hx
      obtain ⟨hi1, hi2⟩ := List.mem_filter.1 hi
      simp only [Bool.and_eq_true] at hi2
      obtain ⟨c1, c2⟩ := crN_iff.1 hi2.2
      obtain ⟨q1, q2⟩ := (iN_mem U i).1 hi1
      have hacc := (accN_iff U n i hi1).1 hi2.1
      refine List.mem_filter.2 ⟨?_, ?_⟩
      · refine bel_surv U n _ (eN U i - (t + 1)) (t + 1) (by rw [show t + 1 + (eN U i - (t + 1)) = eN U i by omega]; exact hacc) (fun q h3 h4 => eN_free U i q (by omega) (by omega) (by omega) q1)
      · have := eN_free U i t c1 c2 (by omega) q1
        simp only [Bool.not_eq_true', decide_eq_false_iff_not]
        exact fun e => this e.symm
  rw [List.length_map] at key
  omega
theorem bel_tight (i : Nat) (hi : i ∈ iN U) (hacc : accN U n i = false) : ∃ t, i < t ∧ t < eN U i ∧ (n - 1).toNat ≤ (iN U).countP fun k => (accN U n k && crN (eN U) t k) && decide (eN U k < eN U i) := by
  obtain ⟨hi1, hi2⟩ := (iN_mem U i).1 hi
  have hlt := (iN_facts U i hi).1
  have hno : ¬ rd U (i : Int) ∈ bIn U n (eN U i) := fun h => by have := (accN_iff U n i hi).2 h; rw [hacc] at this; cases this
  have hin := bel_in U n hn hU i hi1
  have hne : eN U i ≠ i + 1 := fun e => hno (by rw [e]; exact hin)
  obtain ⟨d, hd⟩ : ∃ d, eN U i = i + 1 + d + 1 := ⟨eN U i - (i + 2), by omega⟩
  obtain ⟨t, g1, g2, g3, g4⟩ := bel_first U n _ d (i + 1) hin (by rw [← hd]; exact hno)
  have hnx : nx U (rd U (i : Int)) (t + 1) = eN U i := by
    have := nx_skip U (rd U (i : Int)) (t - i) (i + 1) (by omega) (fun q h1 h2 => eN_free U i q (by omega) (by omega) (by omega) hi1)
    unfold eN
    rw [this, show i + 1 + (t - i) = t + 1 by omega]
  obtain ⟨t1, y, f1, f2, f3, f4, f5⟩ := bel_all U n hn hl hU (eN U i) hi2 _ t _ (Nat.le_refl _) (by omega) g3 g4 (by omega)
  obtain ⟨e1, e2, _⟩ := bel_evict U n hn hl hU t1 (by omega) y f3 f4
  obtain ⟨b1, _, _, _⟩ := bIn_facts U n hn hU t1 (by omega)
  refine ⟨t1, by omega, f2, ?_⟩
  rw [List.countP_eq_length_filter]
  have hf := filt_len _ b1 _ f3
  have key : ((bIn U n t1).filter fun x => !decide (x = y)).length ≤ (((iN U).filter fun k => (accN U n k && crN (eN U) t1 k) && decide (eN U k < eN U i)).map fun k : Nat => rd U (k : Int)).length := by
    refine sub_len _ _ (b1.filter _) (fun b hb => ?_)
    obtain ⟨hb1, hb2⟩ := List.mem_filter.1 hb
    have hby : b ≠ y := by simpa using hb2
    obtain ⟨q1, q2⟩ := f5 b hb1 hby
    obtain ⟨k, k1, k2, k3⟩ := last_occ U b t1 (by omega) (bel_took U n t1 (by omega) b hb1)
    have hek : eN U k = nx U b (t1 + 1) := by
      unfold eN
      rw [k2]
      have := nx_skip U b (t1 - k) (k + 1) (by omega) (fun q h1 h2 => ?_)
      · rw [this, show k + 1 + (t1 - k) = t1 + 1 by omega]
      · by_cases e : q = t1
        · rw [e]; rintro rfl; exact e2 hb1
        · exact k3 q (by omega) (by omega)
    have hge := nx_ge U b (t1 + 1)
    have hkm : k ∈ iN U := (iN_mem U k).2 ⟨by omega, by omega⟩
    refine List.mem_map.2 ⟨k, List.mem_filter.2 ⟨hkm, ?_⟩, k2⟩
    have ha : accN U n k = true := (accN_iff U n k hkm).2 (by rw [k2, hek]; exact q2)
    have hc : crN (eN U) t1 k = true := crN_iff.2 ⟨k1, by omega⟩
    rw [ha, hc, hek, decide_eq_true q1]; rfl
  rw [List.length_map] at key
  omega
omit hn hl hU in
theorem hitTo_count : ∀ i, hitTo U n i = (List.range i).countP (bHit U n)
  | 0 => rfl
  | i + 1 => by
    rw [List.range_succ, List.countP_append, List.countP_singleton, ← hitTo_count i]; rfl
omit hn hl hU in
/-- The hits are the intervals that are accepted. -/
theorem hits_acc : hitTo U n U.length = (iN U).countP (accN U n) := by
  rw [hitTo_count, List.countP_eq_length_filter, List.countP_eq_length_filter, show ((iN U).filter (accN U n)).length = (((iN U).filter (accN U n)).map (eN U)).length by rw [List.length_map]]
  refine same_len (List.nodup_range.filter _) (nodup_map_on ((iN_nodup U).filter _) (fun a ha b hb e => ?_)) (fun j => ?_)
  · have ha1 := (List.mem_filter.1 ha).1
    have hb1 := (List.mem_filter.1 hb).1
    have e2 : rd U (a : Int) = rd U (b : Int) := by rw [← eN_rd U a ha1, ← eN_rd U b hb1, e]
    have ha2 := (iN_facts U a ha1).1
    have hb2 := (iN_facts U b hb1).1
    rcases Nat.lt_trichotomy a b with h | h | h
    · have := eN_next U a b h ((iN_mem U b).1 hb1).1 e2; omega
    · exact h
    · have := eN_next U b a h ((iN_mem U a).1 ha1).1 e2.symm; omega
  · rw [List.mem_filter, List.mem_range, List.mem_map]
    constructor
    · rintro ⟨hj, hh⟩
      have hin : rd U (j : Int) ∈ bIn U n j := by unfold bHit at hh; simpa using hh
      obtain ⟨k, k1, k2, k3⟩ := last_occ U _ j (by omega) (bel_took U n j (by omega) _ hin)
      have hek : eN U k = j := by
        unfold eN
        rw [k2]
        have := nx_skip U (rd U (j : Int)) (j - (k + 1)) (k + 1) (by omega) (fun q h1 h2 => k3 q (by omega) (by omega))
        rw [this, show k + 1 + (j - (k + 1)) = j by omega, nx_step U _ j hj, if_pos rfl]
      have hkm : k ∈ iN U := (iN_mem U k).2 ⟨by omega, by omega⟩
      exact ⟨k, List.mem_filter.2 ⟨hkm, by unfold accN; rw [hek]; exact hh⟩, hek⟩
    · rintro ⟨k, hk, rfl⟩
      obtain ⟨h1, h2⟩ := List.mem_filter.1 hk
      exact ⟨((iN_mem U k).1 h1).2, h2⟩
end
end Go.Proofs.Ytellojkbfnfacaa.Q
