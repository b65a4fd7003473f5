/- The bound of the best cuts is the number of hits; no conditions beyond those written. -/
import Derived.Test.YtellojkbfnfacaaQx0
import Derived.Test.YtellojkbfnfacaaSbelady
import Derived.Test.YtellojkbfnfacaaSbestmiss
import Derived.Test.YtellojkbfnfacaaScuts
import Derived.Test.YtellojkbfnfacaaSsortl
import Derived.Test.YtellojkbfnfacaaSduality
import Derived.Test.YtellojkbfnfacaaSslidx
namespace Go.Proofs.Ytellojkbfnfacaa.Q
open Go.RowKit Go.Proofs.YtellojkbfnfacaaW.PrintWords Go.Proofs.YtellojkbfnfacaaW.PrintLast Go.Proofs.YtellojkbfnfacaaW.PrintMore
attribute [local go_sem] max2_int min2_int max_two min_two max_three min_three max_four min_four   -- for this text's walks alone
set_option linter.unusedVariables false
set_option linter.unusedSimpArgs false

theorem btI_btN (U : List Int) (a b : Nat) : btI (ivs U) ((a : Int) - 1) (b : Int) = btN (iN U) (eN U) a b := by
  unfold btI btN
  rw [ivs_iN, List.countP_map]
  apply countP_eq
  intro i _
  show (decide ((a : Int) - 1 ≤ (i : Int)) && decide ((eN U i : Int) ≤ (b : Int))) = _
  congr 1
  · by_cases h : a ≤ i + 1
    · rw [decide_eq_true h, decide_eq_true (by omega)]
    · rw [decide_eq_false h, decide_eq_false (by omega)]
  · by_cases h : eN U i ≤ b
    · rw [decide_eq_true h, decide_eq_true (by omega)]
    · rw [decide_eq_false h, decide_eq_false (by omega)]
/-- The cuts behind a place are the best ones. -/
def OptC (U : List Int) (c a : Nat) (e : Int × List Int) : Prop := (∃ C : List Nat, e.2 = castN C ∧ C.Pairwise (· < ·) ∧ (∀ t ∈ C, a ≤ t ∧ t < U.length) ∧ e.1 = (gapN (iN U) U.length c (eN U) a C : Int)) ∧ ∀ D : List Nat, D.Pairwise (· < ·) → (∀ t ∈ D, a ≤ t ∧ t < U.length) → e.1 ≤ (gapN (iN U) U.length c (eN U) a D : Int)
theorem cpick_opt (U : List Int) (ways : Int) (hw : 1 ≤ ways) (a : Nat) (ha : a ≤ U.length) (K : Nat → Int × List Int) (hK : ∀ b, a < b → b ≤ U.length → OptC U (ways - 1).toNat b (K b)) :
    ∀ k, a + k ≤ U.length → (∃ C : List Nat, (cpick (ivs U) ways U.length a K k).2 = castN C ∧ C.Pairwise (· < ·) ∧ (∀ t ∈ C, a ≤ t ∧ t < U.length) ∧ (cpick (ivs U) ways U.length a K k).1 = (gapN (iN U) U.length (ways - 1).toNat (eN U) a C : Int)) ∧ (cpick (ivs U) ways U.length a K k).1 ≤ (gapN (iN U) U.length (ways - 1).toNat (eN U) a [] : Int) ∧ ∀ j, j < k → (cpick (ivs U) ways U.length a K k).1 ≤ (btI (ivs U) ((a : Int) - 1) ((a + j : Nat) : Int) : Int) + (ways - 1) + (K (a + j + 1)).1
  | 0, _ => by
    have e : (cpick (ivs U) ways U.length a K 0).1 = (gapN (iN U) U.length (ways - 1).toNat (eN U) a [] : Int) := by
      show ((btI (ivs U) ((a : Int) - 1) (U.length : Int) : Nat) : Int) = _
      rw [btI_btN]; rfl
    exact ⟨⟨[], rfl, List.Pairwise.nil, by simp, e⟩, Int.le_of_eq e, fun j hj => by omega⟩
  | k + 1, hk => by
    obtain ⟨h1, h2, h3⟩ := cpick_opt U ways hw a ha K hK k (by omega)
    obtain ⟨⟨C, c1, c2, c3, c4⟩, c5⟩ := hK (a + k + 1) (by omega) (by omega)
    have hb := @betC_le ((btI (ivs U) ((a : Int) - 1) ((a + k : Nat) : Int) : Int) + (ways - 1) + (K (a + k + 1)).1, ((a + k : Nat) : Int) :: (K (a + k + 1)).2) (cpick (ivs U) ways U.length a K k)
    unfold cpick
    split
    · rename_i hh
      have hle : (btI (ivs U) ((a : Int) - 1) ((a + k : Nat) : Int) : Int) + (ways - 1) + (K (a + k + 1)).1 ≤ (cpick (ivs U) ways U.length a K k).1 := hb.1 hh
      refine ⟨⟨(a + k) :: C, ?_, ?_, ?_, ?_⟩, by show (btI (ivs U) ((a : Int) - 1) ((a + k : Nat) : Int) : Int) + (ways - 1) + (K (a + k + 1)).1 ≤ _; omega, fun j hj => ?_⟩
      · show ((a + k : Nat) : Int) :: (K (a + k + 1)).2 = _
        rw [c1]; rfl
      · exact List.pairwise_cons.2 ⟨fun x hx => by have := c3 x hx; omega, c2⟩
      · intro t ht
        rcases List.mem_cons.1 ht with rfl | ht
        · omega
        · have := c3 t ht; omega
      · show (btI (ivs U) ((a : Int) - 1) ((a + k : Nat) : Int) : Int) + (ways - 1) + (K (a + k + 1)).1 = ((btN (iN U) (eN U) a (a + k) + (ways - 1).toNat + gapN (iN U) U.length (ways - 1).toNat (eN U) (a + k + 1) C : Nat) : Int)
        rw [btI_btN, c4]
        push_cast
        rw [Int.toNat_of_nonneg (by omega)]
      · show (btI (ivs U) ((a : Int) - 1) ((a + k : Nat) : Int) : Int) + (ways - 1) + (K (a + k + 1)).1 ≤ _
        by_cases e : j = k
        · subst e; exact Int.le_refl _
        · have := h3 j (by omega); omega
    · rename_i hh
      have hle : (cpick (ivs U) ways U.length a K k).1 ≤ (btI (ivs U) ((a : Int) - 1) ((a + k : Nat) : Int) : Int) + (ways - 1) + (K (a + k + 1)).1 := hb.2 (by cases h : betC _ _ <;> simp_all)
      refine ⟨h1, h2, fun j hj => ?_⟩
      by_cases e : j = k
      · subst e; exact hle
      · exact h3 j (by omega)
theorem cpick_all (U : List Int) (ways : Int) (hw : 1 ≤ ways) (a : Nat) (ha : a ≤ U.length) (K : Nat → Int × List Int) (hK : ∀ b, a < b → b ≤ U.length → OptC U (ways - 1).toNat b (K b)) : OptC U (ways - 1).toNat a (cpick (ivs U) ways U.length a K (U.length - a)) := by
  obtain ⟨h1, h2, h3⟩ := cpick_opt U ways hw a ha K hK (U.length - a) (by omega)
  refine ⟨h1, fun D hp hr => ?_⟩
  match D, hp, hr with
  | [], _, _ => exact h2
  | t :: D, hp, hr =>
    have ht := hr t (by simp)
    obtain ⟨p1, p2⟩ := List.pairwise_cons.1 hp
    have h4 := h3 (t - a) (by omega)
    rw [show a + (t - a) = t by omega] at h4
    have h5 := (hK (t + 1) (by omega) (by omega)).2 D p2 (fun x hx => ⟨by have := p1 x hx; omega, (hr x (by simp [hx])).2⟩)
    show _ ≤ ((btN (iN U) (eN U) a t + (ways - 1).toNat + gapN (iN U) U.length (ways - 1).toNat (eN U) (t + 1) D : Nat) : Int)
    rw [btI_btN] at h4
    push_cast
    rw [Int.toNat_of_nonneg (by omega)]
    omega
theorem tbC_opt (U : List Int) (ways : Int) (hw : 1 ≤ ways) : ∀ d, d ≤ U.length → ∀ k, k ≤ d → OptC U (ways - 1).toNat (U.length - k) ((tbC (ivs U) ways U.length d).getD k (0, []))
  | 0, _, k, hk => by
    obtain rfl : k = 0 := by omega
    have := cpick_all U ways hw U.length (Nat.le_refl _) (fun _ => (0, [])) (fun b h1 h2 => by omega)
    rw [Nat.sub_self] at this
    exact this
  | d + 1, hd, k, hk => by
    by_cases e : k = d + 1
    · rw [e, tbC_last]
      have := cpick_all U ways hw (U.length - (d + 1)) (by omega) (fun b => (tbC (ivs U) ways U.length d).getD (U.length - b) (0, [])) (fun b h1 h2 => ?_)
      · rw [show U.length - (U.length - (d + 1)) = d + 1 by omega] at this
        exact this
      · have := tbC_opt U ways hw d (by omega) (U.length - b) (by omega)
        rw [show U.length - (U.length - b) = b by omega] at this
        exact this
    · rw [tbC_keep _ _ _ _ _ (by omega)]
      exact tbC_opt U ways hw d (by omega) k (by omega)
/-- The best cuts: their bound is just the number of hits. -/
theorem bestC_hits (U : List Int) (n : Int) (hn : 1 ≤ n) (hn6 : n ≤ 6) (hl : U.length ≤ 60) (hU : ∀ x ∈ U, 0 ≤ x ∧ x ≤ 63) : ∃ C : List Nat, bestC (ivs U) n U.length = castN C ∧ C.Pairwise (· < ·) ∧ (∀ t ∈ C, t < U.length) ∧ bndN (iN U) (n - 1).toNat (eN U) C = hitTo U n U.length := by
  obtain ⟨⟨C, c1, c2, c3, c4⟩, c5⟩ := tbC_opt U n hn U.length (Nat.le_refl _) U.length (Nat.le_refl _)
  rw [Nat.sub_self] at c3 c4 c5
  have hI := iN_facts U
  refine ⟨C, c1, c2, fun t ht => (c3 t ht).2, ?_⟩
  have h1 := cuts_weak U n hn hn6 hl hU C (fun t ht => (c3 t ht).2)
  obtain ⟨D, d1, d2, d3⟩ := cuts_strong U n hn hl hU
  have h2 := c5 D d1 (fun t ht => ⟨Nat.zero_le _, d2 t ht⟩)
  rw [gap_all _ _ _ _ hI D d1, d3] at h2
  rw [gap_all _ _ _ _ hI C c2] at c4
  omega
end Go.Proofs.Ytellojkbfnfacaa.Q
