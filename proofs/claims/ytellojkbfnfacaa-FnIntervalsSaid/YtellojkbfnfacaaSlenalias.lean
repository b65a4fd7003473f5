/- Parts of the proof, laid together: contracts and lemmas; no conditions beyond those written. -/
import Derived.Test.YtellojkbfnfacaaQx0
import Derived.Test.YtellojkbfnfacaaQx1
import Derived.Test.YtellojkbfnfacaaHallIn
import Derived.Test.YtellojkbfnfacaaSsortl
import Derived.Test.YtellojkbfnfacaaSsetlimpl
import Derived.Test.YtellojkbfnfacaaSivsimpl
import Derived.Test.YtellojkbfnfacaaSbase
import Derived.Test.YtellojkbfnfacaaSslidx
import Derived.Test.YtellojkbfnfacaaHvictim
import Derived.Test.YtellojkbfnfacaaSsetldef
namespace Go.Proofs.Ytellojkbfnfacaa.Q
open Go.RowKit Go.Proofs.YtellojkbfnfacaaW.PrintWords Go.Proofs.YtellojkbfnfacaaW.PrintLast Go.Proofs.YtellojkbfnfacaaW.PrintMore
attribute [local go_sem] max2_int min2_int max_two min_two max_three min_three max_four min_four   -- for this text's walks alone
set_option linter.unusedVariables false
set_option linter.unusedSimpArgs false
section
def impl_length_int64.f (l0 : List Int) : Option Int := impl_length_int64_39.f l0
theorem impl_length_int64.calls (A0 : Option Addr) (c0 : Nat) (l0 : List Int) (r : Int) (w : World) (hr0 : Kd.C (Kd.int .i64) w A0 l0.length l0) (hc0 : l0.length ≤ c0) (h : impl_length_int64.f l0 = some r) :
    Calls Try.prog 39 #[.slice A0 l0.length c0] w fun e w' => e = .returned (.int .i64 r) ∧ Drawn0 w w' := impl_length_int64_39.calls A0 c0 l0 r w hr0 hc0 h
end
section
theorem impl_ValidUses_f (l : List Int) : impl_ValidUses.f l = some (okUses l) := by
  unfold impl_ValidUses.f impl_allIn.f okUses
  by_cases h : l.length ≤ 60
  · rw [if_pos (by omega)]
    show some (l.all okAddr) = some (l.all okAddr && decide (l.length ≤ 60))
    simp [h]
  · rw [if_neg (by omega)]
    simp [h]
end
section
theorem impl_isOptimal_f (l : List Int) (ways : Int) : impl_isOptimal.f l ways = some (okUses l && isIn 1 6 ways) := by
  unfold impl_isOptimal.f impl_isWays.f
  rw [impl_ValidUses_f, impl_inRange_f]
  cases okUses l <;> rfl
theorem ways_range {ways : Int} (h : isIn 1 6 ways = true) : 1 ≤ ways ∧ ways ≤ 6 := by simpa [isIn] using h
end
section
theorem ev_slices_Contains (l : List Int) (a : Int) (h : l.length ≤ 35184372088832) : Ev (fun k => slices_Contains_int64_int64.f k l a) (decide (a ∈ l)) := by
  unfold slices_Contains_int64_int64.f
  refine Ev.bind (ev_slices_Index l a h) (Ev.eq (Ev.now _) ?_)
  by_cases hm : a ∈ l
  · have := List.findIdx_lt_length_of_exists (p := fun x => x == a) ⟨a, hm, by simp⟩
    rw [if_pos this]
    simp [hm]
  · have : ¬ (l.findIdx (fun x => x == a) < l.length) := by
      intro hlt
      have := List.findIdx_getElem (w := hlt)
      simp only [beq_iff_eq] at this
      exact hm (this ▸ List.getElem_mem hlt)
    rw [if_neg this]
    simp [hm]
end
section
theorem vcmp_wt (U : List Int) (i : Nat) (a m : Int) (hl : U.length ≤ 60) : (0 < vcmp U i a m → wt U i m ≤ wt U i a) ∧ (¬ 0 < vcmp U i a m → wt U i a ≤ wt U i m) := by
  have h1 := wt_range U i a hl
  have h2 := wt_range U i m hl
  have hw : wrap64 (wt U i a - wt U i m) = wt U i a - wt U i m := wrap64_id (by omega) (by omega)
  unfold vcmp
  rw [hw]
  split
  · exact ⟨fun _ => by omega, fun _ => by omega⟩
  · exact ⟨fun _ => by omega, fun _ => by omega⟩
theorem maxTo_wt (U : List Int) (i : Nat) (L : List Int) (hl : U.length ≤ 60) : ∀ t : Nat, t < L.length → ∀ j : Nat, j ≤ t → wt U i (rd L (j : Int)) ≤ wt U i (maxTo (vcmp U i) L t)
  | 0, _, j, hj => by
    obtain rfl : j = 0 := by omega
    exact Int.le_refl _
  | t + 1, h, j, hj => by
    have hv := vcmp_wt U i (rd L ((t + 1 : Nat) : Int)) (maxTo (vcmp U i) L t) hl
    unfold maxTo
    by_cases e : j = t + 1
    · subst e
      split
      · exact Int.le_refl _
      · rename_i hh; exact hv.2 hh
    · have ih := maxTo_wt U i L hl t (by omega) j (by omega)
      split
      · rename_i hh; exact Int.le_trans ih (hv.1 hh)
      · exact ih
theorem maxBy_wt (U : List Int) (i : Nat) (L : List Int) (hl : U.length ≤ 60) (h0 : 0 < L.length) : maxBy (vcmp U i) L ∈ L ∧ ∀ y ∈ L, wt U i y ≤ wt U i (maxBy (vcmp U i) L) := by
  refine ⟨maxTo_mem _ _ _ (by omega), fun y hy => ?_⟩
  obtain ⟨j, hj, rfl⟩ := List.getElem_of_mem hy
  rw [← rd_lt L j hj]
  exact maxTo_wt U i L hl (L.length - 1) (by omega) j (by omega)
theorem filt_len (T : List Int) (h : T.Nodup) (v : Int) (hv : v ∈ T) : (T.filter fun x => !decide (x = v)).length + 1 = T.length := by
  induction T with
  | nil => cases hv
  | cons a T ih =>
    obtain ⟨h1, h2⟩ := List.nodup_cons.1 h
    by_cases e : a = v
    · subst e
      rw [List.filter_cons_of_neg (by simp), List.filter_eq_self.2 (fun x hx => by simp; intro e; exact h1 (e ▸ hx))]; rfl
    · rw [List.filter_cons_of_pos (by simp [e]), List.length_cons, List.length_cons, ih h2 ((List.mem_cons.1 hv).resolve_left (fun q => e q.symm))]
theorem countP_lt {l : List Int} (p : Int → Bool) (a : Int) (h : a ∈ l) (hp : p a = false) : l.countP p < l.length := by
  have h1 := List.countP_le_length (p := p) (l := l)
  rcases Nat.lt_or_ge (l.countP p) l.length with h2 | h2
  · exact h2
  · have := List.countP_eq_length.1 (Nat.le_antisymm h1 h2) a h
    rw [hp] at this; cases this
theorem nx_step (U : List Int) (a : Int) (i : Nat) (hi : i < U.length) : nx U a i = if rd U (i : Int) = a then i else nx U a (i + 1) := by
  unfold nx
  rw [drop_rd U i hi, List.findIdx_cons]
  by_cases h : rd U (i : Int) = a
  · rw [if_pos h]; simp [h]
  · rw [if_neg h, show (rd U (i : Int) == a) = false by simp [h]]
    simp only [cond_false]; omega
theorem nx_ge (U : List Int) (a : Int) (i : Nat) : i ≤ nx U a i := by unfold nx; omega
theorem nx_end (U : List Int) (a : Int) : nx U a U.length = U.length := by unfold nx; simp
/-- No use between. -/
theorem nx_skip (U : List Int) (a : Int) : ∀ (d s : Nat), s + d ≤ U.length → (∀ q, s ≤ q → q < s + d → rd U (q : Int) ≠ a) → nx U a s = nx U a (s + d)
  | 0, s, _, _ => rfl
  | d + 1, s, h, hq => by
    rw [nx_step U a s (by omega), if_neg (hq s (by omega) (by omega)), nx_skip U a d (s + 1) (by omega) (fun q h1 h2 => hq q (by omega) (by omega)), show s + 1 + d = s + (d + 1) by omega]
theorem nx_none (U : List Int) (a : Int) : ∀ (d s : Nat), s + d = U.length → ∀ q, s ≤ q → q < nx U a s → q < U.length → rd U (q : Int) ≠ a
  | 0, s, h, q, h1, h2, h3 => by omega
  | d + 1, s, h, q, h1, h2, h3 => by
    rw [nx_step U a s (by omega)] at h2
    by_cases e : rd U (s : Int) = a
    · rw [if_pos e] at h2; omega
    · rw [if_neg e] at h2
      by_cases e2 : q = s
      · subst e2; exact e
      · exact nx_none U a d (s + 1) (by omega) q (by omega) h2 h3
theorem nx_hit (U : List Int) (a : Int) : ∀ (d s : Nat), s + d = U.length → nx U a s < U.length → rd U (nx U a s : Int) = a
  | 0, s, h, h1 => by
    have := nx_ge U a s
    omega
  | d + 1, s, h, h1 => by
    rw [nx_step U a s (by omega)] at h1 ⊢
    by_cases e : rd U (s : Int) = a
    · rw [if_pos e]; exact e
    · rw [if_neg e] at h1 ⊢
      exact nx_hit U a d (s + 1) (by omega) h1
end
end Go.Proofs.Ytellojkbfnfacaa.Q
