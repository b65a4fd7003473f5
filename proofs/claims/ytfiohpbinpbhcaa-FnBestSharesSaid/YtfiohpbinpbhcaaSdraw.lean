/- Parts of the proof, laid together: contracts and lemmas; no conditions beyond those written. -/
import Derived.Test.YtfiohpbinpbhcaaQx0
import Derived.Test.YtfiohpbinpbhcaaQx1
import Derived.Test.YtfiohpbinpbhcaaSbase
namespace Go.Proofs.Ytfiohpbinpbhcaa.Q
open Go.RowKit Go.Proofs.YtfiohpbinpbhcaaW.PrintWords Go.Proofs.YtfiohpbinpbhcaaW.PrintLast Go.Proofs.YtfiohpbinpbhcaaW.PrintMore
attribute [local go_sem] max2_int min2_int max_two min_two max_three min_three max_four min_four   -- for this text's walks alone
set_option linter.unusedVariables false
set_option linter.unusedSimpArgs false
section
theorem and255 (x : Int) : 0 ≤ Go.bits .and .u64 x 255 ∧ Go.bits .and .u64 x 255 ≤ 255 := by
  unfold Go.bits
  have h : (BitVec.ofInt IntKind.u64.bits x &&& BitVec.ofInt IntKind.u64.bits 255).toNat ≤ 255 := by
    rw [BitVec.toNat_and]; exact Nat.le_trans Nat.and_le_right (by decide)
  have key : ∀ n : Nat, n ≤ 255 → 0 ≤ IntKind.u64.wrap (n : Int) ∧ IntKind.u64.wrap (n : Int) ≤ 255 := by
    intro n hn
    rw [IntKind.wrap_u64]; omega
  exact key _ h
def Bytes (l : List Int) : Prop := ∀ y ∈ l, 0 ≤ y ∧ y ≤ 255
theorem Bytes.of {l : List Int} (h : ∀ y ∈ l, (Lit.int .u8 y).wf = true) : Bytes l := by
  intro y hy
  have := h y hy
  simp [Lit.wf] at this
  have e1 : IntKind.u8.min = 0 := by decide
  have e2 : IntKind.u8.max = 255 := by decide
  omega
theorem next_ok (l : List Int) (hb : Bytes l) (a : Nat) (sd : Int) (ha : a ≤ 1000000000000) : ∃ x s, spec_l00Src_next.f l (a : Int) sd = some (x, ((a + 1 : Nat) : Int), s) ∧ 0 ≤ x ∧ x ≤ 255 := by
  unfold spec_l00Src_next.f
  by_cases h : a < l.length
  · have hr := hb _ (List.getElem_mem h)
    rw [if_pos (by omega), if_pos (by omega), wrap64_succ (by omega), if_pos (by omega), rd_lt l a h, wrap64_id (x := l[a]) (by omega) (by omega)]
    exact ⟨_, _, rfl, hr.1, hr.2⟩
  · rw [if_neg (by omega), wrap64_succ (by omega), if_neg (by omega)]
    refine ⟨_, _, rfl, ?_⟩
    have hr := and255 ((IntKind.u64.wrap ((IntKind.u64.wrap (IntKind.u64.wrap (sd * 6364136223846793005))) + 1442695040888963407)) / 1099511627776)
    rw [wrap64_id (by omega) (by omega)]
    exact hr
theorem pick_ok (l : List Int) (hb : Bytes l) (a : Nat) (sd : Int) (n : Nat) (hn : 1 ≤ n) (h2 : n ≤ 200) (ha : a ≤ 1000000000000) :
    ∃ (x a' : Nat) (s : Int), spec_l00Src_pick.f l (a : Int) sd (n : Int) = some ((x : Int), (a' : Int), s) ∧ x < n ∧ a' ≤ a + 1 := by
  unfold spec_l00Src_pick.f
  by_cases h1 : n ≤ 1
  · exact ⟨0, a, sd, by rw [if_pos (by omega)]; rfl, by omega, by omega⟩
  · obtain ⟨x, s, e, h0, h255⟩ := next_ok l hb a sd ha
    rw [if_neg (by omega), e]
    have t0 := Int.tmod_nonneg (n : Int) h0
    have t1 := Int.tmod_lt_of_pos x (show (0 : Int) < (n : Int) by omega)
    refine ⟨(Int.tmod x (n : Int)).toNat, a + 1, s, ?_, by omega, by omega⟩
    rw [Option.bind_some]
    rw [if_neg (by omega), if_neg (by omega), Int.toNat_of_nonneg t0]
end
section
def lessB : List Int → List Int → Bool
  | a :: xs, b :: ys => decide (a < b) || (decide (a = b) && lessB xs ys)
  | _, _ => false
theorem lessB_cons (a b : Int) (xs ys : List Int) : lessB (a :: xs) (b :: ys) = (decide (a < b) || (decide (a = b) && lessB xs ys)) := rfl
theorem lessB_cons_iff (a b : Int) (xs ys : List Int) : lessB (a :: xs) (b :: ys) = true ↔ a < b ∨ (a = b ∧ lessB xs ys = true) := by rw [lessB_cons]; simp
theorem lessB_cons_no (a b : Int) (xs ys : List Int) : lessB (a :: xs) (b :: ys) = false ↔ b < a ∨ (a = b ∧ lessB xs ys = false) := by
  rw [lessB_cons]
  by_cases h : a < b
  · simp [h]; omega
  · by_cases e : a = b
    · simp [e]
    · simp [h, e]; omega
theorem less_antisymm : ∀ a b : List Int, a.length = b.length → lessB a b = false → lessB b a = false → a = b
  | [], [], _, _, _ => rfl
  | [], _ :: _, h, _, _ => by simp at h
  | _ :: _, [], h, _, _ => by simp at h
  | a :: xs, b :: ys, h, h1, h2 => by
    rcases (lessB_cons_no _ _ _ _).1 h1 with h3 | ⟨e, h3⟩ <;> rcases (lessB_cons_no _ _ _ _).1 h2 with h4 | ⟨e2, h4⟩
    · omega
    · omega
    · omega
    · rw [e, less_antisymm xs ys (by simpa using h) h3 h4]
/-- 'b is not less than a' in turn. -/
theorem less_trans : ∀ a b c : List Int, a.length = b.length → b.length = c.length → lessB b a = false → lessB c b = false → lessB c a = false
  | [], b, c, _, _, _, _ => by cases c <;> rfl
  | _ :: _, [], _, h, _, _, _ => by simp at h
  | _ :: _, _ :: _, [], _, _, _, _ => rfl
  | a :: xs, b :: ys, c :: cs, h, k, h1, h2 => by
    rw [lessB_cons_no]
    rcases (lessB_cons_no _ _ _ _).1 h1 with h3 | ⟨e, h3⟩ <;> rcases (lessB_cons_no _ _ _ _).1 h2 with h4 | ⟨e2, h4⟩
    · left; omega
    · left; omega
    · left; omega
    · exact .inr ⟨by omega, less_trans xs ys cs (by simpa using h) (by simpa using k) h3 h4⟩
theorem less_asymm : ∀ a b : List Int, lessB a b = true → lessB b a = false
  | [], [], h => by cases h
  | [], _ :: _, h => by cases h
  | _ :: _, [], h => by cases h
  | a :: xs, b :: ys, h => by
    rw [lessB_cons_no]
    rcases (lessB_cons_iff _ _ _ _).1 h with h | ⟨e, h⟩
    · exact .inl h
    · exact .inr ⟨e.symm, less_asymm xs ys h⟩
theorem less_snoc : ∀ (a b : List Int) (x : Int), a.length = b.length → lessB a b = false → lessB (a ++ [x]) (b ++ [x]) = false
  | [], [], x, _, _ => by simp [lessB]
  | [], _ :: _, _, h, _ => by simp at h
  | _ :: _, [], _, h, _ => by simp at h
  | a :: xs, b :: ys, x, h, h1 => by
    rw [List.cons_append, List.cons_append, lessB_cons_no]
    rcases (lessB_cons_no _ _ _ _).1 h1 with h3 | ⟨e, h3⟩
    · exact .inl h3
    · exact .inr ⟨e, less_snoc xs ys x (by simpa using h) h3⟩
end
end Go.Proofs.Ytfiohpbinpbhcaa.Q
