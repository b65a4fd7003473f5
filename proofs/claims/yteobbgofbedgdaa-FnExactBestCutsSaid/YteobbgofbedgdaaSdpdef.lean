/- The best cuts as both sides find them; no conditions. -/
import Derived.Test.YteobbgofbedgdaaQx0
import Derived.Test.YteobbgofbedgdaaSlessb
namespace Go.Proofs.Yteobbgofbedgdaa.Q
open Go.RowKit Go.Proofs.YteobbgofbedgdaaW.PrintWords Go.Proofs.YteobbgofbedgdaaW.PrintLast Go.Proofs.YteobbgofbedgdaaW.PrintMore
attribute [local go_sem] max2_int min2_int max_two min_two max_three min_three max_four min_four   -- for this text's walks alone
set_option linter.unusedVariables false
set_option linter.unusedSimpArgs false

/-- How many intervals lie between two uses. -/
def btI (iv : List (List Int)) (a b : Int) : Nat := iv.countP fun x => decide (a ≤ rd x 0) && decide (rd x 1 ≤ b)
/-- Whether cuts with their bound are better than others. -/
def betC (c d : Int × List Int) : Bool := if c.1 ≠ d.1 then decide (c.1 < d.1) else if c.2.length ≠ d.2.length then decide (c.2.length < d.2.length) else lessB c.2 d.2
theorem betC_le {c d : Int × List Int} : (betC c d = true → c.1 ≤ d.1) ∧ (betC c d = false → d.1 ≤ c.1) := by
  unfold betC
  by_cases h : c.1 = d.1
  · rw [h]; exact ⟨fun _ => Int.le_refl _, fun _ => Int.le_refl _⟩
  · rw [if_pos h]
    constructor
    · intro h2; have := of_decide_eq_true h2; omega
    · intro h2; have := of_decide_eq_false h2; omega
/-- The best of some first cuts behind a place that is told one higher. -/
def cpick (iv : List (List Int)) (ways : Int) (n a : Nat) (K : Nat → Int × List Int) : Nat → Int × List Int
  | 0 => ((btI iv ((a : Int) - 1) (n : Int) : Int), [])
  | k + 1 => if betC ((btI iv ((a : Int) - 1) ((a + k : Nat) : Int) : Int) + (ways - 1) + (K (a + k + 1)).1, ((a + k : Nat) : Int) :: (K (a + k + 1)).2) (cpick iv ways n a K k) = true
      then ((btI iv ((a : Int) - 1) ((a + k : Nat) : Int) : Int) + (ways - 1) + (K (a + k + 1)).1, ((a + k : Nat) : Int) :: (K (a + k + 1)).2) else cpick iv ways n a K k
/-- The table of the best cuts, from the end. -/
def tbC (iv : List (List Int)) (ways : Int) (n : Nat) : Nat → List (Int × List Int)
  | 0 => [cpick iv ways n n (fun _ => (0, [])) 0]
  | d + 1 => tbC iv ways n d ++ [cpick iv ways n (n - (d + 1)) (fun b => (tbC iv ways n d).getD (n - b) (0, [])) (d + 1)]
def bestC (iv : List (List Int)) (ways : Int) (n : Nat) : List Int := ((tbC iv ways n n).getD n (0, [])).2
theorem tbC_length (iv : List (List Int)) (ways : Int) (n : Nat) : ∀ d, (tbC iv ways n d).length = d + 1
  | 0 => rfl
  | d + 1 => by unfold tbC; rw [List.length_append, tbC_length iv ways n d]; rfl
theorem tbC_last (iv : List (List Int)) (ways : Int) (n d : Nat) : (tbC iv ways n (d + 1)).getD (d + 1) (0, []) = cpick iv ways n (n - (d + 1)) (fun b => (tbC iv ways n d).getD (n - b) (0, [])) (d + 1) := by
  have h := tbC_length iv ways n d
  show (tbC iv ways n d ++ [_]).getD (d + 1) (0, []) = _
  rw [List.getD_eq_getElem?_getD, List.getElem?_append_right (by omega), h, Nat.sub_self]; rfl
theorem tbC_keep (iv : List (List Int)) (ways : Int) (n d k : Nat) (h : k ≤ d) : (tbC iv ways n (d + 1)).getD k (0, []) = (tbC iv ways n d).getD k (0, []) := by
  have h1 := tbC_length iv ways n d
  show (tbC iv ways n d ++ [_]).getD k (0, []) = _
  rw [List.getD_eq_getElem?_getD, List.getElem?_append_left (by omega), ← List.getD_eq_getElem?_getD]
theorem btI_succ (iv : List (List Int)) (a b : Int) (i : Nat) (h : i < iv.length) : btI (iv.take (i + 1)) a b = btI (iv.take i) a b + if a ≤ rd (rd_L1 iv (i : Int)) 0 ∧ rd (rd_L1 iv (i : Int)) 1 ≤ b then 1 else 0 := by
  have e : rd_L1 iv (i : Int) = iv[i] := by
    show iv.getD i [] = iv[i]
    rw [List.getD_eq_getElem?_getD, List.getElem?_eq_getElem h]; rfl
  unfold btI
  rw [List.take_succ_eq_append_getElem h, List.countP_append, List.countP_singleton, e]
  congr 1
  by_cases h1 : a ≤ rd iv[i] 0 <;> by_cases h2 : rd iv[i] 1 ≤ b <;> simp [h1, h2]
theorem btI_le (iv : List (List Int)) (a b : Int) : btI iv a b ≤ iv.length := List.countP_le_length
/-- The table as a function of the place, told one higher. -/
def tabK (iv : List (List Int)) (ways : Int) (n b : Nat) : Int × List Int := (tbC iv ways n n).getD (n - b) (0, [])
theorem cpick_congr (iv : List (List Int)) (ways : Int) (n a : Nat) (K K' : Nat → Int × List Int) : ∀ k, (∀ b, a < b → b ≤ a + k → K b = K' b) → cpick iv ways n a K k = cpick iv ways n a K' k
  | 0, _ => rfl
  | k + 1, h => by
    unfold cpick
    rw [cpick_congr iv ways n a K K' k (fun b h1 h2 => h b h1 (by omega)), h (a + k + 1) (by omega) (by omega)]
theorem tbC_stay (iv : List (List Int)) (ways : Int) (n k : Nat) : ∀ e, (tbC iv ways n (k + e)).getD k (0, []) = (tbC iv ways n k).getD k (0, [])
  | 0 => rfl
  | e + 1 => by rw [show k + (e + 1) = (k + e) + 1 from rfl, tbC_keep iv ways n (k + e) k (by omega), tbC_stay iv ways n k e]
theorem tabK_at (iv : List (List Int)) (ways : Int) (n a : Nat) (ha : a ≤ n) : cpick iv ways n a (tabK iv ways n) (n - a) = tabK iv ways n a := by
  unfold tabK
  have h1 := tbC_stay iv ways n (n - a) a
  rw [show n - a + a = n by omega] at h1
  rw [h1]
  cases hd : n - a with
  | zero =>
    have : a = n := by omega
    subst this
    rfl
  | succ d =>
    rw [tbC_last]
    have e : n - (d + 1) = a := by omega
    rw [e]
    apply cpick_congr
    intro b hb1 hb2
    show tabK iv ways n b = _
    unfold tabK
    have h2 := tbC_stay iv ways n (n - b) b
    rw [show n - b + b = n by omega] at h2
    have h3 := tbC_stay iv ways n (n - b) (d - (n - b))
    rw [show n - b + (d - (n - b)) = d by omega] at h3
    rw [h2, h3]
theorem bestC_tab (iv : List (List Int)) (ways : Int) (n : Nat) : bestC iv ways n = (tabK iv ways n 0).2 := by
  unfold bestC tabK
  rw [Nat.sub_zero]
theorem cpick_small (iv : List (List Int)) (ways : Int) (hw : 1 ≤ ways) (n a : Nat) (K : Nat → Int × List Int) (hK : ∀ b, a < b → b ≤ n → 0 ≤ (K b).1 ∧ (K b).1 ≤ (iv.length : Int) ∧ (K b).2.length ≤ n - b) : ∀ k, a + k ≤ n → 0 ≤ (cpick iv ways n a K k).1 ∧ (cpick iv ways n a K k).1 ≤ (iv.length : Int) ∧ (cpick iv ways n a K k).2.length ≤ n - a
  | 0, _ => by
    have := btI_le iv ((a : Int) - 1) (n : Int)
    exact ⟨by show (0 : Int) ≤ (btI iv ((a : Int) - 1) (n : Int) : Int); omega, by show (btI iv ((a : Int) - 1) (n : Int) : Int) ≤ _; omega, Nat.zero_le _⟩
  | k + 1, hk => by
    obtain ⟨h1, h2, h3⟩ := cpick_small iv ways hw n a K hK k (by omega)
    obtain ⟨g1, g2, g3⟩ := hK (a + k + 1) (by omega) (by omega)
    unfold cpick
    split
    · rename_i hh
      have hle := betC_le.1 hh
      have hle2 : (btI iv ((a : Int) - 1) ((a + k : Nat) : Int) : Int) + (ways - 1) + (K (a + k + 1)).1 ≤ (cpick iv ways n a K k).1 := hle
      refine ⟨?_, ?_, ?_⟩
      · show 0 ≤ (btI iv ((a : Int) - 1) ((a + k : Nat) : Int) : Int) + (ways - 1) + (K (a + k + 1)).1
        omega
      · show (btI iv ((a : Int) - 1) ((a + k : Nat) : Int) : Int) + (ways - 1) + (K (a + k + 1)).1 ≤ _
        omega
      · show (((a + k : Nat) : Int) :: (K (a + k + 1)).2).length ≤ _
        rw [List.length_cons]; omega
    · exact ⟨h1, h2, h3⟩
theorem tabK_small (iv : List (List Int)) (ways : Int) (hw : 1 ≤ ways) (n : Nat) : ∀ d a, a + d = n → 0 ≤ (tabK iv ways n a).1 ∧ (tabK iv ways n a).1 ≤ (iv.length : Int) ∧ (tabK iv ways n a).2.length ≤ n - a := by
  intro d
  induction d using Nat.strongRecOn with
  | ind d ih =>
    intro a ha
    rw [← tabK_at iv ways n a (by omega)]
    exact cpick_small iv ways hw n a (tabK iv ways n) (fun b h1 h2 => ih (n - b) (by omega) b (by omega)) (n - a) (by omega)
end Go.Proofs.Yteobbgofbedgdaa.Q
