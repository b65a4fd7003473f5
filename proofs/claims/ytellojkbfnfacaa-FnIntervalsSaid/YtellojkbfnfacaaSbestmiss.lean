/- Parts of the proof, laid together: contracts and lemmas; no conditions beyond those written. -/
import Derived.Test.YtellojkbfnfacaaQx0
import Derived.Test.YtellojkbfnfacaaQx2
import Derived.Test.YtellojkbfnfacaaSbase
import Derived.Test.YtellojkbfnfacaaSbest
import Derived.Test.YtellojkbfnfacaaQx1
namespace Go.Proofs.Ytellojkbfnfacaa.Q
open Go.RowKit Go.Proofs.YtellojkbfnfacaaW.PrintWords Go.Proofs.YtellojkbfnfacaaW.PrintLast Go.Proofs.YtellojkbfnfacaaW.PrintMore
attribute [local go_sem] max2_int min2_int max_two min_two max_three min_three max_four min_four   -- for this text's walks alone
set_option linter.unusedVariables false
set_option linter.unusedSimpArgs false
section
def hitTo (U : List Int) (n : Int) : Nat → Nat
  | 0 => 0
  | i + 1 => hitTo U n i + if bHit U n i = true then 1 else 0
theorem hitTo_le (U : List Int) (n : Int) (i : Nat) : hitTo U n i ≤ i := by
  induction i with
  | zero => simp [hitTo]
  | succ i ih => unfold hitTo; split <;> omega
def leastMiss (U : List Int) (n : Int) : Int := (U.length : Int) - (hitTo U n U.length : Int)
section
variable (U : List Int) (n : Int) (hn : 1 ≤ n) (hn6 : n ≤ 6) (hU : ∀ x ∈ U, 0 ≤ x ∧ x ≤ 63) (hl : U.length ≤ 60)
include hn hn6 hU hl
theorem ev_bestMisses : Ev (fun k => impl_bestMisses.f k U n) (leastMiss U n) := by
  unfold impl_bestMisses.f
  refine Ev.bind (ev_bestRun U n hn hn6 hU hl) (Ev.cbind rfl ?_)
  show Ev (fun k => impl_bestMisses.l0 k (U.length : Int) (bHits U n U.length) ((bHits U n U.length).length : Int) 0) _
  rw [bHits_length]
  have key := Ev.up (fun i k => impl_bestMisses.l0 k ((U.length : Int) - (hitTo U n i : Int)) (bHits U n U.length) (U.length : Int) (i : Int)) U.length (leastMiss U n) ?_ ?_
  · simpa [hitTo] using key
  · apply Ev.succ
    simp only [impl_bestMisses.l0]
    exact Ev.ite_neg (by omega) (Ev.now _)
  · intro i hi ih
    have h0 := hitTo_le U n i
    apply Ev.succ
    simp only [impl_bestMisses.l0]
    refine Ev.ite_pos (by omega) (Ev.ite_pos (by omega) (Ev.ite_pos (by rw [bHits_length]; omega) ?_))
    rw [wrap64_succ (by omega), rd_bHits U n U.length i hi]
    unfold hitTo at ih
    by_cases hb : bHit U n i = true
    · rw [if_pos hb] at ih ⊢
      rw [wrap64_id (by omega) (by omega), show (U.length : Int) - (hitTo U n i : Int) - 1 = (U.length : Int) - ((hitTo U n i + 1 : Nat) : Int) by omega]
      exact ih
    · rw [if_neg hb] at ih ⊢
      rw [wrap64_id (by omega) (by omega), show (U.length : Int) - (hitTo U n i : Int) - 0 = (U.length : Int) - ((hitTo U n i + 0 : Nat) : Int) by omega]
      exact ih
end
end
section
theorem and255 (x : Int) : 0 ≤ Go.bits .and .u64 x 255 ∧ Go.bits .and .u64 x 255 ≤ 255 := by
  unfold Go.bits
  have h : (BitVec.ofInt IntKind.u64.bits x &&& BitVec.ofInt IntKind.u64.bits 255).toNat ≤ 255 := by
    rw [BitVec.toNat_and]; exact Nat.le_trans Nat.and_le_right (by decide)
  have key : ∀ n : Nat, n ≤ 255 → 0 ≤ IntKind.u64.wrap (n : Int) ∧ IntKind.u64.wrap (n : Int) ≤ 255 := by
    intro n hn
    rw [IntKind.wrap_u64]; omega
  exact key _ h
def Bytes (l : List Int) : Prop := ∀ y ∈ l, 0 ≤ y ∧ y ≤ 255
theorem Bytes.of {l : List Int} (h : ∀ y ∈ l, (Lit.int .u8 y).wf = true) : Bytes l := by
  intro y hy
  have := h y hy
  simp [Lit.wf] at this
  have e1 : IntKind.u8.min = 0 := by decide
  have e2 : IntKind.u8.max = 255 := by decide
  omega
theorem next_ok (l : List Int) (hb : Bytes l) (a : Nat) (sd : Int) (ha : a ≤ 1000000000000) : ∃ x s, spec_l00Src_next.f l (a : Int) sd = some (x, ((a + 1 : Nat) : Int), s) ∧ 0 ≤ x ∧ x ≤ 255 := by
  unfold spec_l00Src_next.f
  by_cases h : a < l.length
  · have hr := hb _ (List.getElem_mem h)
    rw [if_pos (by omega), if_pos (by omega), wrap64_succ (by omega), if_pos (by omega), rd_lt l a h, wrap64_id (x := l[a]) (by omega) (by omega)]
    exact ⟨_, _, rfl, hr.1, hr.2⟩
  · rw [if_neg (by omega), wrap64_succ (by omega), if_neg (by omega)]
    refine ⟨_, _, rfl, ?_⟩
    have hr := and255 ((IntKind.u64.wrap ((IntKind.u64.wrap (IntKind.u64.wrap (sd * 6364136223846793005))) + 1442695040888963407)) / 1099511627776)
    rw [wrap64_id (by omega) (by omega)]
    exact hr
theorem pick_ok (l : List Int) (hb : Bytes l) (a : Nat) (sd : Int) (n : Nat) (hn : 1 ≤ n) (h2 : n ≤ 200) (ha : a ≤ 1000000000000) :
    ∃ (x a' : Nat) (s : Int), spec_l00Src_pick.f l (a : Int) sd (n : Int) = some ((x : Int), (a' : Int), s) ∧ x < n ∧ a' ≤ a + 1 := by
  unfold spec_l00Src_pick.f
  by_cases h1 : n ≤ 1
  · exact ⟨0, a, sd, by rw [if_pos (by omega)]; rfl, by omega, by omega⟩
  · obtain ⟨x, s, e, h0, h255⟩ := next_ok l hb a sd ha
    rw [if_neg (by omega), e]
    have t0 := Int.tmod_nonneg (n : Int) h0
    have t1 := Int.tmod_lt_of_pos x (show (0 : Int) < (n : Int) by omega)
    refine ⟨(Int.tmod x (n : Int)).toNat, a + 1, s, ?_, by omega, by omega⟩
    rw [Option.bind_some]
    rw [if_neg (by omega), if_neg (by omega), Int.toNat_of_nonneg t0]
end
section
theorem ev_B10_l0 (l : List Int) (hb : Bytes l) (few : Nat) (hf1 : 1 ≤ few) (hf2 : few ≤ 100) : ∀ (d : Nat) (out : List Int) (a : Nat) (sd : Int), d ≤ 29 → out.length + d ≤ 60 → a + d ≤ 1000 →
    ∃ u, Ev (fun k => spec_B10Uses.l0 k out (few : Int) (d : Int) l (a : Int) sd) u ∧ u.length = out.length + d ∧ ∀ x ∈ u, x ∈ out ∨ (0 ≤ x ∧ x < (few : Int)) := by
  intro d
  induction d with
  | zero =>
    intro out a sd _ _ _
    refine ⟨out, ?_, by simp, fun x hx => .inl hx⟩
    apply Ev.succ
    simp only [spec_B10Uses.l0]
    exact Ev.ite_neg (by omega) (Ev.now _)
  | succ d ih =>
    intro out a sd h1 h2 h3
    obtain ⟨x, a', s, e, hx, ha'⟩ := pick_ok l hb a sd few hf1 (by omega) (by omega)
    obtain ⟨u, hu, hl, hm⟩ := ih (out ++ [(x : Int)]) a' s (by omega) (by rw [List.length_append, List.length_singleton]; omega) (by omega)
    refine ⟨u, ?_, by rw [hl, List.length_append, List.length_singleton]; omega, fun y hy => ?_⟩
    · apply Ev.succ
      simp only [spec_B10Uses.l0]
      refine Ev.ite_pos (by omega) (Ev.cbind e (Ev.ite_pos (by omega) ?_))
      rw [wrap64_id (by omega) (by omega), show ((d + 1 : Nat) : Int) - 1 = (d : Int) by omega]
      exact hu
    · rcases hm y hy with h | h
      · rcases List.mem_append.1 h with h | h
        · exact .inl h
        · rw [List.mem_singleton.1 h]; exact .inr ⟨by omega, by omega⟩
      · exact .inr h
theorem ev_B10Uses (l : List Int) (hb : Bytes l) : ∃ u, Ev (fun k => spec_B10Uses.f k l) u ∧ u.length ≤ 29 ∧ ∀ x ∈ u, 0 ≤ x ∧ x ≤ 63 := by
  unfold spec_B10Uses.f spec_l00From.f
  obtain ⟨x, a', s, e, hx, ha'⟩ := pick_ok l hb 0 0 7 (by omega) (by omega) (by omega)
  obtain ⟨y, b', t, e2, hy, hb'⟩ := pick_ok l hb a' s 30 (by omega) (by omega) (by omega)
  obtain ⟨u, hu, hl, hm⟩ := ev_B10_l0 l hb (2 + x) (by omega) (by omega) y [] b' t (by omega) (by simp; omega) (by omega)
  refine ⟨u, Ev.cbind rfl (Ev.cbind e (Ev.cbind e2 ?_)), by rw [hl]; simp; omega, fun z hz => ?_⟩
  · rw [wrap64_id (by omega) (by omega), show (2 : Int) + (x : Int) = ((2 + x : Nat) : Int) by omega]
    exact hu
  · rcases hm z hz with h | h
    · simp at h
    · omega
theorem b10At_06 (l : List Int) (hb : Bytes l) : ∃ x : Nat, laws_b10At.f l 0 6 = some (x : Int) ∧ x < 6 := by
  unfold laws_b10At.f
  rw [if_neg (by omega)]
  by_cases h : 0 < l.length
  · have hr := hb _ (List.getElem_mem h)
    have e : rd l 0 = l[0] := rd_lt l 0 h
    rw [if_pos (by omega), if_pos (by omega), if_neg (by omega), e, wrap64_id (x := l[0]) (by omega) (by omega)]
    have t0 := Int.tmod_nonneg (6 : Int) hr.1
    have t1 := Int.tmod_lt_of_pos l[0] (show (0 : Int) < 6 by omega)
    exact ⟨(Int.tmod l[0] 6).toNat, by rw [Int.toNat_of_nonneg t0], by omega⟩
  · rw [if_neg (by omega), if_neg (by omega)]
    exact ⟨5, by decide +kernel, by omega⟩
theorem b10At_any (l : List Int) (hb : Bytes l) (a : Nat) (ha : a ≤ 1000) (m : Int) (hm : 2 ≤ m) : ∃ x : Nat, laws_b10At.f l (a : Int) m = some (x : Int) ∧ (x : Int) < m := by
  unfold laws_b10At.f
  rw [if_neg (by omega)]
  by_cases h : a < l.length
  · have hr := hb _ (List.getElem_mem h)
    have e : rd l (a : Int) = l[a] := rd_lt l a h
    rw [if_pos (by omega), if_pos (by omega), if_neg (by omega), e, wrap64_id (x := l[a]) (by omega) (by omega)]
    have t0 := Int.tmod_nonneg m hr.1
    have t1 := Int.tmod_lt_of_pos l[a] (show 0 < m by omega)
    exact ⟨(Int.tmod l[a] m).toNat, by rw [Int.toNat_of_nonneg t0], by omega⟩
  · rw [if_neg (by omega), if_neg (by omega), wrap64_id (x := (a : Int) * 37) (by omega) (by omega), wrap64_id (x := (a : Int) * 37 + 11) (by omega) (by omega)]
    have t0 := Int.tmod_nonneg m (show 0 ≤ (a : Int) * 37 + 11 by omega)
    have t1 := Int.tmod_lt_of_pos ((a : Int) * 37 + 11) (show 0 < m by omega)
    exact ⟨(Int.tmod ((a : Int) * 37 + 11) m).toNat, by rw [Int.toNat_of_nonneg t0], by omega⟩
end
end Go.Proofs.Ytellojkbfnfacaa.Q
