/- A memory that need not take what it misses: an interval is a hit exactly if there is room for it; no conditions beyond those written. -/
import Derived.Test.YtellojkbfnfacaaQx0
import Derived.Test.YtellojkbfnfacaaHbypass
import Derived.Test.YtellojkbfnfacaaHvictim
import Derived.Test.YtellojkbfnfacaaSbase
import Derived.Test.YtellojkbfnfacaaSintervals
import Derived.Test.YtellojkbfnfacaaSmaxfunc
import Derived.Test.YtellojkbfnfacaaSsetl
import Derived.Test.YtellojkbfnfacaaSisin
import Derived.Test.YtellojkbfnfacaaSwaits
namespace Go.Proofs.Ytellojkbfnfacaa.Q
open Go.RowKit Go.Proofs.YtellojkbfnfacaaW.PrintWords Go.Proofs.YtellojkbfnfacaaW.PrintLast Go.Proofs.YtellojkbfnfacaaW.PrintMore
attribute [local go_sem] max2_int min2_int max_two min_two max_three min_three max_four min_four   -- for this text's walks alone
set_option linter.unusedVariables false
set_option linter.unusedSimpArgs false

theorem vcmp_wt (U : List Int) (i : Nat) (a m : Int) (hl : U.length ≤ 60) : (0 < vcmp U i a m → wt U i m ≤ wt U i a) ∧ (¬ 0 < vcmp U i a m → wt U i a ≤ wt U i m) := by
  have h1 := wt_range U i a hl
  have h2 := wt_range U i m hl
  have hw : wrap64 (wt U i a - wt U i m) = wt U i a - wt U i m := wrap64_id (by omega) (by omega)
  unfold vcmp
  rw [hw]
  split
  · exact ⟨fun _ => by omega, fun _ => by omega⟩
  · exact ⟨fun _ => by omega, fun _ => by omega⟩
theorem maxTo_wt (U : List Int) (i : Nat) (L : List Int) (hl : U.length ≤ 60) : ∀ t : Nat, t < L.length → ∀ j : Nat, j ≤ t → wt U i (rd L (j : Int)) ≤ wt U i (maxTo (vcmp U i) L t)
  | 0, _, j, hj => by
    obtain rfl : j = 0 := by omega
    exact Int.le_refl _
  | t + 1, h, j, hj => by
    have hv := vcmp_wt U i (rd L ((t + 1 : Nat) : Int)) (maxTo (vcmp U i) L t) hl
    unfold maxTo
    by_cases e : j = t + 1
    · subst e
      split
      · exact Int.le_refl _
      · rename_i hh; exact hv.2 hh
    · have ih := maxTo_wt U i L hl t (by omega) j (by omega)
      split
      · rename_i hh; exact Int.le_trans ih (hv.1 hh)
      · exact ih
theorem maxBy_wt (U : List Int) (i : Nat) (L : List Int) (hl : U.length ≤ 60) (h0 : 0 < L.length) : maxBy (vcmp U i) L ∈ L ∧ ∀ y ∈ L, wt U i y ≤ wt U i (maxBy (vcmp U i) L) := by
  refine ⟨maxTo_mem _ _ _ (by omega), fun y hy => ?_⟩
  obtain ⟨j, hj, rfl⟩ := List.getElem_of_mem hy
  rw [← rd_lt L j hj]
  exact maxTo_wt U i L hl (L.length - 1) (by omega) j (by omega)
theorem filt_len (T : List Int) (h : T.Nodup) (v : Int) (hv : v ∈ T) : (T.filter fun x => !decide (x = v)).length + 1 = T.length := by
  induction T with
  | nil => cases hv
  | cons a T ih =>
    obtain ⟨h1, h2⟩ := List.nodup_cons.1 h
    by_cases e : a = v
    · subst e
      rw [List.filter_cons_of_neg (by simp), List.filter_eq_self.2 (fun x hx => by simp; intro e; exact h1 (e ▸ hx))]; rfl
    · rw [List.filter_cons_of_pos (by simp [e]), List.length_cons, List.length_cons, ih h2 ((List.mem_cons.1 hv).resolve_left (fun q => e q.symm))]
theorem countP_lt {l : List Int} (p : Int → Bool) (a : Int) (h : a ∈ l) (hp : p a = false) : l.countP p < l.length := by
  have h1 := List.countP_le_length (p := p) (l := l)
  rcases Nat.lt_or_ge (l.countP p) l.length with h2 | h2
  · exact h2
  · have := List.countP_eq_length.1 (Nat.le_antisymm h1 h2) a h
    rw [hp] at this; cases this
theorem nx_step (U : List Int) (a : Int) (i : Nat) (hi : i < U.length) : nx U a i = if rd U (i : Int) = a then i else nx U a (i + 1) := by
  unfold nx
  rw [drop_rd U i hi, List.findIdx_cons]
  by_cases h : rd U (i : Int) = a
  · rw [if_pos h]; simp [h]
  · rw [if_neg h, show (rd U (i : Int) == a) = false by simp [h]]
    simp only [cond_false]; omega
theorem nx_ge (U : List Int) (a : Int) (i : Nat) : i ≤ nx U a i := by unfold nx; omega
theorem nx_end (U : List Int) (a : Int) : nx U a U.length = U.length := by unfold nx; simp
/-- No use between. -/
theorem nx_skip (U : List Int) (a : Int) : ∀ (d s : Nat), s + d ≤ U.length → (∀ q, s ≤ q → q < s + d → rd U (q : Int) ≠ a) → nx U a s = nx U a (s + d)
  | 0, s, _, _ => rfl
  | d + 1, s, h, hq => by
    rw [nx_step U a s (by omega), if_neg (hq s (by omega) (by omega)), nx_skip U a d (s + 1) (by omega) (fun q h1 h2 => hq q (by omega) (by omega)), show s + 1 + d = s + (d + 1) by omega]
theorem nx_none (U : List Int) (a : Int) : ∀ (d s : Nat), s + d = U.length → ∀ q, s ≤ q → q < nx U a s → q < U.length → rd U (q : Int) ≠ a
  | 0, s, h, q, h1, h2, h3 => by omega
  | d + 1, s, h, q, h1, h2, h3 => by
    rw [nx_step U a s (by omega)] at h2
    by_cases e : rd U (s : Int) = a
    · rw [if_pos e] at h2; omega
    · rw [if_neg e] at h2
      by_cases e2 : q = s
      · subst e2; exact e
      · exact nx_none U a d (s + 1) (by omega) q (by omega) h2 h3
theorem nx_hit (U : List Int) (a : Int) : ∀ (d s : Nat), s + d = U.length → nx U a s < U.length → rd U (nx U a s : Int) = a
  | 0, s, h, h1 => by
    have := nx_ge U a s
    omega
  | d + 1, s, h, h1 => by
    rw [nx_step U a s (by omega)] at h1 ⊢
    by_cases e : rd U (s : Int) = a
    · rw [if_pos e]; exact e
    · rw [if_neg e] at h1 ⊢
      exact nx_hit U a d (s + 1) (by omega) h1
section
variable (U : List Int) (n : Int) (hn : 1 ≤ n) (hl : U.length ≤ 60)
include hn hl
theorem byp_facts (t : Nat) (ht : t ≤ U.length) : (bypTo U n t).Nodup ∧ ((bypTo U n t).length : Int) ≤ n ∧ ∀ x ∈ bypTo U n t, x ∈ U.take t := by
  induction t with
  | zero => exact ⟨List.nodup_nil, by simp [bypTo]; omega, fun x hx => by cases hx⟩
  | succ t ih =>
    obtain ⟨h1, h2, h3⟩ := ih (by omega)
    have htk := take_succ_rd U t (by omega)
    show (bypStep U n (bypTo U n t) t).Nodup ∧ ((bypStep U n (bypTo U n t) t).length : Int) ≤ n ∧ ∀ x ∈ bypStep U n (bypTo U n t) t, x ∈ U.take (t + 1)
    unfold bypStep
    by_cases hy : rd U (t : Int) ∈ bypTo U n t
    · rw [if_pos hy]
      exact ⟨h1, h2, fun x hx => by rw [htk]; exact List.mem_append_left _ (h3 x hx)⟩
    · rw [if_neg hy]
      have hnd : (bypTo U n t ++ [rd U (t : Int)]).Nodup := by
        rw [List.nodup_append]
        refine ⟨h1, by simp, fun a ha b hb e => hy ?_⟩
        rw [List.mem_singleton] at hb
        rw [← hb, ← e]; exact ha
      have hm : ∀ x ∈ bypTo U n t ++ [rd U (t : Int)], x ∈ U.take (t + 1) := by
        intro x hx
        rw [htk]
        rcases List.mem_append.1 hx with hx | hx
        · exact List.mem_append_left _ (h3 x hx)
        · exact List.mem_append_right _ hx
      by_cases hf : n < (((bypTo U n t).length + 1 : Nat) : Int)
      · rw [if_pos hf]
        have hT0 : 0 < (setL (bypTo U n t ++ [rd U (t : Int)])).length := List.length_pos_of_mem (((setL_facts _).2 (rd U (t : Int))).2 (by simp))
        have hv := ((setL_facts _).2 _).1 (maxBy_wt U (t + 1) _ hl hT0).1
        have hlen := filt_len _ hnd _ hv
        rw [List.length_append, List.length_singleton] at hlen
        exact ⟨hnd.filter _, by omega, fun x hx => hm x (List.mem_filter.1 hx).1⟩
      · rw [if_neg hf]
        exact ⟨hnd, by rw [List.length_append, List.length_singleton]; omega, hm⟩
theorem byp_evict (t : Nat) (ht : t < U.length) (x : Int) (hx : x ∈ bypTo U n t ∨ x = rd U (t : Int)) (hne : ¬ x ∈ bypTo U n (t + 1)) : ((bypTo U n (t + 1)).length : Int) = n ∧ ∀ z ∈ bypTo U n (t + 1), wt U (t + 1) z ≤ wt U (t + 1) x := by
  obtain ⟨h1, h2, h3⟩ := byp_facts U n hn hl t (by omega)
  change ¬ x ∈ bypStep U n (bypTo U n t) t at hne
  show ((bypStep U n (bypTo U n t) t).length : Int) = n ∧ ∀ z ∈ bypStep U n (bypTo U n t) t, _
  unfold bypStep at hne ⊢
  by_cases hy : rd U (t : Int) ∈ bypTo U n t
  · rw [if_pos hy] at hne
    rcases hx with hx | hx
    · exact absurd hx hne
    · exact absurd (hx ▸ hy) hne
  · rw [if_neg hy] at hne ⊢
    have hxT : x ∈ bypTo U n t ++ [rd U (t : Int)] := by
      rcases hx with hx | hx
      · exact List.mem_append_left _ hx
      · exact List.mem_append_right _ (by rw [hx]; simp)
    have hnd : (bypTo U n t ++ [rd U (t : Int)]).Nodup := by
      rw [List.nodup_append]
      refine ⟨h1, by simp, fun a ha b hb e => hy ?_⟩
      rw [List.mem_singleton] at hb
      rw [← hb, ← e]; exact ha
    by_cases hf : n < (((bypTo U n t).length + 1 : Nat) : Int)
    · rw [if_pos hf] at hne ⊢
      have hT0 : 0 < (setL (bypTo U n t ++ [rd U (t : Int)])).length := List.length_pos_of_mem (((setL_facts _).2 (rd U (t : Int))).2 (by simp))
      obtain ⟨hmm, hmx⟩ := maxBy_wt U (t + 1) _ hl hT0
      have hv := ((setL_facts _).2 _).1 hmm
      have hlen := filt_len _ hnd _ hv
      rw [List.length_append, List.length_singleton] at hlen
      have hxv : x = maxBy (vcmp U (t + 1)) (setL (bypTo U n t ++ [rd U (t : Int)])) := by
        by_cases e : x = maxBy (vcmp U (t + 1)) (setL (bypTo U n t ++ [rd U (t : Int)]))
        · exact e
        · exact absurd (List.mem_filter.2 ⟨hxT, by simp [e]⟩) hne
      refine ⟨by omega, fun z hz => ?_⟩
      rw [hxv]
      exact hmx z (((setL_facts _).2 z).2 (List.mem_filter.1 hz).1)
    · rw [if_neg hf] at hne
      exact absurd hxT hne
omit hn hl in
theorem byp_back (t : Nat) (x : Int) (hx : x ∈ bypTo U n (t + 1)) (hne : rd U (t : Int) ≠ x) : x ∈ bypTo U n t := by
  change x ∈ bypStep U n (bypTo U n t) t at hx
  unfold bypStep at hx
  split at hx
  · exact hx
  · have key : x ∈ bypTo U n t ++ [rd U (t : Int)] → x ∈ bypTo U n t := fun h => by
      rcases List.mem_append.1 h with h | h
      · exact h
      · exact absurd (List.mem_singleton.1 h).symm hne
    split at hx
    · exact key (List.mem_filter.1 hx).1
    · exact key hx
omit hn hl in
theorem byp_surv (x : Int) : ∀ (d s : Nat), x ∈ bypTo U n (s + d) → (∀ q, s ≤ q → q < s + d → rd U (q : Int) ≠ x) → x ∈ bypTo U n s
  | 0, s, h, _ => h
  | d + 1, s, h, hq => byp_surv x d s (byp_back U n (s + d) x h (hq _ (by omega) (by omega))) (fun q h1 h2 => hq q h1 (by omega))
omit hn hl in
theorem byp_first (x : Int) : ∀ (d p : Nat), (x ∈ bypTo U n p ∨ x = rd U (p : Int)) → ¬ x ∈ bypTo U n (p + d + 1) → ∃ t, p ≤ t ∧ t ≤ p + d ∧ (x ∈ bypTo U n t ∨ x = rd U (t : Int)) ∧ ¬ x ∈ bypTo U n (t + 1)
  | 0, p, h, hne => ⟨p, Nat.le_refl _, Nat.le_refl _, h, hne⟩
  | d + 1, p, h, hne => by
    by_cases e : x ∈ bypTo U n (p + 1)
    · obtain ⟨t, h1, h2, h3, h4⟩ := byp_first x d (p + 1) (.inl e) (by rw [show p + 1 + d + 1 = p + (d + 1) + 1 by omega]; exact hne)
      exact ⟨t, by omega, by omega, h3, h4⟩
    · exact ⟨p, Nat.le_refl _, by omega, h, e⟩
/-- A full memory all of whose words are used before j leads to one whose words are all hits. -/
theorem byp_all (j : Nat) (hj : j < U.length) : ∀ (m t : Nat), j - t ≤ m → t < j → ((bypTo U n (t + 1)).length : Int) = n → (∀ x ∈ bypTo U n (t + 1), nx U x (t + 1) < j) →
    ∃ t1, t ≤ t1 ∧ t1 < j ∧ ((bypTo U n (t1 + 1)).length : Int) = n ∧ ∀ x ∈ bypTo U n (t1 + 1), nx U x (t1 + 1) < j ∧ x ∈ bypTo U n (nx U x (t1 + 1))
  | 0, t, hm, ht, _, _ => by omega
  | m + 1, t, hm, ht, hlen, hall => by
    by_cases hgood : ∀ x ∈ bypTo U n (t + 1), x ∈ bypTo U n (nx U x (t + 1))
    · exact ⟨t, Nat.le_refl _, ht, hlen, fun x hx => ⟨hall x hx, hgood x hx⟩⟩
    · obtain ⟨x, hx⟩ := Classical.not_forall.1 hgood
      obtain ⟨hx1, hx2⟩ := Classical.not_imp.1 hx
      have he := hall x hx1
      have hge := nx_ge U x (t + 1)
      have hgt : t + 1 ≠ nx U x (t + 1) := fun e => hx2 (e ▸ hx1)
      obtain ⟨d, hd⟩ : ∃ d, nx U x (t + 1) = t + 1 + d + 1 := ⟨nx U x (t + 1) - (t + 2), by omega⟩
      rw [hd] at hx2
      obtain ⟨t2, g1, g2, g3, g4⟩ := byp_first U n x d (t + 1) (.inl hx1) hx2
      have hnx : nx U x (t2 + 1) = nx U x (t + 1) := by
        have := nx_skip U x (t2 - t) (t + 1) (by omega) (fun q h1 h2 => nx_none U x (U.length - (t + 1)) (t + 1) (by omega) q h1 (by omega) (by omega))
        rw [this, show t + 1 + (t2 - t) = t2 + 1 by omega]
      obtain ⟨e1, e2⟩ := byp_evict U n hn hl t2 (by omega) x g3 g4
      have hz : ∀ z ∈ bypTo U n (t2 + 1), nx U z (t2 + 1) < j := by
        intro z hz
        have := e2 z hz
        unfold wt at this
        rw [hnx, if_pos (show nx U x (t + 1) < U.length by omega)] at this
        split at this <;> omega
      obtain ⟨t1, f1, f2, f3⟩ := byp_all j hj m t2 (by omega) (by omega) e1 hz
      exact ⟨t1, by omega, f2, f3⟩
/-- How many accepted intervals lie over t, of those that end before j. -/
def bypC (U : List Int) (n : Int) (j t : Nat) : Nat := (bypTo U n (t + 1)).countP fun x => decide (nx U x (t + 1) < j) && decide (x ∈ bypTo U n (nx U x (t + 1)))
theorem byp_room (p j : Nat) (hp : p < j) (hj : j < U.length) (hpj : nx U (rd U (p : Int)) (p + 1) = j) (hb : ∀ t, p ≤ t → t < j → (bypC U n j t : Int) < n) : rd U (j : Int) ∈ bypTo U n j := by
  have hrd : rd U (j : Int) = rd U (p : Int) := by
    have := nx_hit U (rd U (p : Int)) (U.length - (p + 1)) (p + 1) (by omega) (by omega)
    rw [hpj] at this; exact this
  rw [hrd]
  by_cases hin : rd U (p : Int) ∈ bypTo U n j
  · exact hin
  exfalso
  obtain ⟨t0, g1, g2, g3, g4⟩ := byp_first U n (rd U (p : Int)) (j - p - 1) p (.inr rfl) (by rw [show p + (j - p - 1) + 1 = j by omega]; exact hin)
  obtain ⟨e1, e2⟩ := byp_evict U n hn hl t0 (by omega) _ g3 g4
  have hnx : nx U (rd U (p : Int)) (t0 + 1) = j := by
    have := nx_skip U (rd U (p : Int)) (t0 - p) (p + 1) (by omega) (fun q h1 h2 => nx_none U _ (U.length - (p + 1)) (p + 1) (by omega) q h1 (by omega) (by omega))
    rw [← hpj, this, show p + 1 + (t0 - p) = t0 + 1 by omega]
  have hz : ∀ z ∈ bypTo U n (t0 + 1), nx U z (t0 + 1) < j := by
    intro z hz
    have := e2 z hz
    unfold wt at this
    rw [hnx, if_pos hj] at this
    have hzj : nx U z (t0 + 1) ≠ j := by
      intro e
      have h1 := nx_hit U z (U.length - (t0 + 1)) (t0 + 1) (by omega) (by omega)
      rw [e, hrd] at h1
      exact g4 (h1 ▸ hz)
    split at this <;> omega
  obtain ⟨t1, f1, f2, f3, f4⟩ := byp_all U n hn hl j hj (j - t0) t0 (Nat.le_refl _) (by omega) e1 hz
  have hc := hb t1 (by omega) f2
  have hall : bypC U n j t1 = (bypTo U n (t1 + 1)).length := by
    unfold bypC
    rw [List.countP_eq_length]
    intro x hx
    obtain ⟨q1, q2⟩ := f4 x hx
    simp [q1, q2]
  rw [hall] at hc
  omega
theorem byp_fits (p j : Nat) (hp : p < j) (hj : j < U.length) (hpj : nx U (rd U (p : Int)) (p + 1) = j) (hin : rd U (j : Int) ∈ bypTo U n j) (t : Nat) (h1 : p ≤ t) (h2 : t < j) : rd U (j : Int) ∈ bypTo U n (t + 1) ∧ nx U (rd U (j : Int)) (t + 1) = j ∧ (bypC U n j t : Int) < n := by
  have hrd : rd U (j : Int) = rd U (p : Int) := by
    have := nx_hit U (rd U (p : Int)) (U.length - (p + 1)) (p + 1) (by omega) (by omega)
    rw [hpj] at this; exact this
  have hno : ∀ q, p + 1 ≤ q → q < j → rd U (q : Int) ≠ rd U (p : Int) := fun q a b => nx_none U _ (U.length - (p + 1)) (p + 1) (by omega) q a (by omega) (by omega)
  have hm : rd U (j : Int) ∈ bypTo U n (t + 1) := by
    refine byp_surv U n _ (j - (t + 1)) (t + 1) (by rw [show t + 1 + (j - (t + 1)) = j by omega]; exact hin) (fun q a b => ?_)
    rw [hrd]
    exact hno q (by omega) (by omega)
  have hx : nx U (rd U (j : Int)) (t + 1) = j := by
    have := nx_skip U (rd U (p : Int)) (t - p) (p + 1) (by omega) (fun q a b => hno q a (by omega))
    rw [hrd, show t + 1 = p + 1 + (t - p) by omega, ← this, hpj]
  refine ⟨hm, hx, ?_⟩
  have h3 := (byp_facts U n hn hl (t + 1) (by omega)).2.1
  have h4 : bypC U n j t < (bypTo U n (t + 1)).length := by
    unfold bypC
    refine countP_lt _ _ hm ?_
    simp [hx]
  omega
end
end Go.Proofs.Ytellojkbfnfacaa.Q
