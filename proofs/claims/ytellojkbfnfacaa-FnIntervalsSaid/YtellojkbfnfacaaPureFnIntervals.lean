/- The plain law of FnIntervals: what it computes answers true; no conditions. -/
import Derived.Test.YtellojkbfnfacaaQx0
import Derived.Test.YtellojkbfnfacaaHbestCuts
import Derived.Test.YtellojkbfnfacaaHhitBound
import Derived.Test.YtellojkbfnfacaaQx1
import Derived.Test.YtellojkbfnfacaaQx2
import Derived.Test.YtellojkbfnfacaaQx3
import Derived.Test.YtellojkbfnfacaaSbestmiss
import Derived.Test.YtellojkbfnfacaaSbase
import Derived.Test.YtellojkbfnfacaaSbelady
import Derived.Test.YtellojkbfnfacaaSbest
import Derived.Test.YtellojkbfnfacaaScuts
import Derived.Test.YtellojkbfnfacaaSdp
import Derived.Test.YtellojkbfnfacaaSduality
import Derived.Test.YtellojkbfnfacaaSslidx
import Derived.Test.YtellojkbfnfacaaSivsimpl
import Derived.Test.YtellojkbfnfacaaSsetlimpl
import Derived.Test.YtellojkbfnfacaaSkept
import Derived.Test.YtellojkbfnfacaaSkeptiv
import Derived.Test.YtellojkbfnfacaaSlenalias
namespace Go.Proofs.Ytellojkbfnfacaa.Q
open Go.RowKit Go.Proofs.YtellojkbfnfacaaW.PrintWords Go.Proofs.YtellojkbfnfacaaW.PrintLast Go.Proofs.YtellojkbfnfacaaW.PrintMore
attribute [local go_sem] max2_int min2_int max_two min_two max_three min_three max_four min_four   -- for this text's walks alone
set_option linter.unusedVariables false
set_option linter.unusedSimpArgs false

def laws_FnIntervals.PureQ : Prop := ∀ (l0 : List Int) (l1 : List Int), l0.length ≤ 9223372036854775807 → (∀ y ∈ l0, (Lit.int .u8 y).wf = true) → l1.length ≤ 9223372036854775807 → (∀ y ∈ l1, (Lit.int .u8 y).wf = true) → ∃ k, laws_FnIntervals.f k l0 l1 = some true
end Go.Proofs.Ytellojkbfnfacaa.Q
namespace Go.Proofs.Ytellojkbfnfacaa.Pure
open Go.RowKit Go.Proofs.Ytellojkbfnfacaa.Q Go.Proofs.YtellojkbfnfacaaW.PrintWords
section
variable (U : List Int) (n : Int) (hn : 1 ≤ n) (hn6 : n ≤ 6) (hl : U.length ≤ 60) (hU : ∀ x ∈ U, 0 ≤ x ∧ x ≤ 63)
include hn hn6 hl hU
theorem hitBound_ok (D : List Nat) (hD : D.Pairwise (· < ·)) (hlt : ∀ t ∈ D, t < U.length) : impl_HitBound.f U n (castN D) = some ((bndN (iN U) (n - 1).toNat (eN U) D : Int), true) := by
  have ho : (okUses U && isIn 1 6 n) = true := by
    rw [(okUses_iff U).2 ⟨hU, hl⟩, Bool.true_and]
    unfold isIn
    rw [decide_eq_true (by omega), decide_eq_true (by omega)]; rfl
  have hr : rises (castN D) 0 ((U.length : Int) - 1) = true := rises_of _ _ _ (castN_inc hD) (fun x hx => by
    obtain ⟨t, ht, rfl⟩ := List.mem_map.1 hx
    have := hlt t ht
    omega)
  unfold impl_HitBound.f
  rw [ho, hr, hbTo_bnd U n D hn hn6 hl (by have := small_len hD hlt; omega)]
  rfl
theorem ev_ints_l1 (l : List Int) (hb : Bytes l) : ∀ (d i : Nat) (D : List Nat), i + d = U.length → D.Pairwise (· < ·) → (∀ t ∈ D, t < i) → Ev (fun k => laws_FnIntervals.l1 k l U n (hitTo U n U.length : Int) (castN D) (i : Int)) true
  | 0, i, D, hi, hD, hlt => by
    have hlt2 : ∀ t ∈ D, t < U.length := fun t ht => by have := hlt t ht; omega
    have hw := cuts_weak U n hn hn6 hl hU D hlt2
    apply Ev.succ
    simp only [laws_FnIntervals.l1]
    refine Ev.ite_neg (by omega) (Ev.cbind (hitBound_ok U n hn hn6 hl hU D hD hlt2) (Ev.ite_pos rfl (Ev.eq (Ev.now _) ?_)))
    exact decide_eq_true (by dsimp only; omega)
  | d + 1, i, D, hi, hD, hlt => by
    obtain ⟨x, ex, hx⟩ := b10At_any l hb (i + 9) (by omega) 4 (by omega)
    have hs := small_len hD hlt
    have e9 : wrap64 ((i : Int) + 9) = ((i + 9 : Nat) : Int) := by rw [wrap64_id (by omega) (by omega)]; omega
    have hcl : (castN D).length = D.length := by unfold castN; rw [List.length_map]
    apply Ev.succ
    simp only [laws_FnIntervals.l1]
    rw [e9, wrap64_succ (i := i) (by omega)]
    refine Ev.ite_pos (by omega) (Ev.cbind ex ?_)
    by_cases h0 : (x : Int) = 0
    · refine Ev.ite_pos h0 (Ev.ite_pos (by omega) ?_)
      have hc : castN D ++ [(i : Int)] = castN (D ++ [i]) := by unfold castN; rw [List.map_append]; rfl
      rw [hc]
      refine ev_ints_l1 l hb d (i + 1) (D ++ [i]) (by omega) ?_ ?_
      · rw [List.pairwise_append]
        exact ⟨hD, List.pairwise_singleton _ _, fun a ha b hb => by rw [List.mem_singleton.1 hb]; exact hlt a ha⟩
      · intro t ht
        rcases List.mem_append.1 ht with h | h
        · have := hlt t h; omega
        · rw [List.mem_singleton.1 h]; omega
    · refine Ev.ite_neg h0 ?_
      exact ev_ints_l1 l hb d (i + 1) D (by omega) hD (fun t ht => by have := hlt t ht; omega)
theorem ev_ints_j2 (l : List Int) (hb : Bytes l) : Ev (fun k => laws_FnIntervals.j2 k l U n (hitTo U n U.length : Int) false) true := by
  apply Ev.succ
  simp only [laws_FnIntervals.j2]
  exact Ev.ite_neg (by simp) (ev_ints_l1 U n hn hn6 hl hU l hb U.length 0 [] (by omega) List.Pairwise.nil (fun t ht => by cases ht))
theorem ev_ints_l0 (l : List Int) (hb : Bytes l) : ∀ (d i : Nat) (s : List Int), i + d = (ivs U).length → s.length ≤ i → Ev (fun k => laws_FnIntervals.l0 k l U n (ivs U) (hitTo U n U.length : Int) s (i : Int)) true
  | 0, i, s, hi, hs => by
    have hiv : (ivs U).length ≤ U.length := ivsTo_length U U.length
    have ek := ev_impl_IsKept U n s (by omega) (by omega)
    apply Ev.succ
    simp only [laws_FnIntervals.l0]
    refine Ev.ite_neg (by omega) (Ev.bind ek ?_)
    cases hk : isKept U n s with
    | false => exact Ev.ite_neg (by simp) (ev_ints_j2 U n hn hn6 hl hU l hb)
    | true =>
      refine Ev.ite_pos rfl ?_
      obtain ⟨C, _, h2, h3⟩ := cuts_strong U n hn hl hU
      have hw := kept_weak U n hn hn6 hl s hk C h2
      rw [h3] at hw
      rw [decide_eq_false (p := (s.length : Int) > (hitTo U n U.length : Int)) (by omega)]
      exact ev_ints_j2 U n hn hn6 hl hU l hb
  | d + 1, i, s, hi, hs => by
    have hiv : (ivs U).length ≤ U.length := ivsTo_length U U.length
    obtain ⟨x, ex, hx⟩ := b10At_any l hb (i + 1) (by omega) 3 (by omega)
    have h2 : (rd_L2 (ivs U) (i : Int)).length = 2 := ivs_two (l := U) (n := (i : Int)) (by omega) (by omega)
    apply Ev.succ
    simp only [laws_FnIntervals.l0]
    rw [wrap64_succ (i := i) (by omega)]
    refine Ev.ite_pos (by omega) (Ev.ite_pos (by omega) (Ev.ite_pos (by omega) (Ev.cbind ex ?_)))
    by_cases h0 : (x : Int) > 0
    · refine Ev.ite_pos h0 (Ev.ite_pos (by omega) ?_)
      exact ev_ints_l0 l hb d (i + 1) (s ++ [(i : Int)]) (by omega) (by rw [List.length_append, List.length_singleton]; omega)
    · refine Ev.ite_neg h0 ?_
      exact ev_ints_l0 l hb d (i + 1) s (by omega) (by omega)
end
theorem FnIntervals : laws_FnIntervals.PureQ := by
  intro l0 l1 h0 b0 h1 b1
  have B0 := Bytes.of b0
  have B1 := Bytes.of b1
  refine Ev.rounds (g := fun k => laws_FnIntervals.f k l0 l1) ?_
  unfold laws_FnIntervals.f
  cases hlong : laws_b10Long.f l0 l1 with
  | none =>
    unfold laws_b10Long.f at hlong
    by_cases h : (l0.length : Int) > 1048576 <;> simp [h] at hlong
  | some b =>
    cases b with
    | true => exact Ev.cbind rfl (Ev.ite_pos rfl (Ev.now _))
    | false =>
      obtain ⟨u, eu, hul, hu⟩ := ev_B10Uses l0 B0
      obtain ⟨x, ex, hx⟩ : ∃ x : Nat, laws_b10At.f l1 0 4 = some (x : Int) ∧ (x : Int) < 4 := b10At_any l1 B1 0 (by omega) 4 (by omega)
      have hw : wrap64 (1 + (x : Int)) = 1 + (x : Int) := wrap64_id (by omega) (by omega)
      refine Ev.cbind rfl (Ev.ite_neg (by simp) (Ev.bind eu (Ev.cbind ex ?_)))
      rw [hw]
      obtain ⟨n, hne⟩ : ∃ n, n = 1 + (x : Int) := ⟨_, rfl⟩
      have hn : 1 ≤ n := by omega
      have hn6 : n ≤ 6 := by omega
      have hl : u.length ≤ 60 := by omega
      rw [← hne]
      clear hne hw ex hx
      have hok : okUses u = true := (okUses_iff u).2 ⟨hu, by omega⟩
      have ho : (okUses u && isIn 1 6 n) = true := by
        rw [hok, Bool.true_and]
        unfold isIn
        rw [decide_eq_true (by omega), decide_eq_true (by omega)]; rfl
      have hopt : impl_isOptimal.f u n = some true := by rw [impl_isOptimal_f, ho]
      have ek : Ev (fun k => impl_KeptIntervals.f k u n) (keptTo u n (ivs u).length, true) := by
        unfold impl_KeptIntervals.f
        exact Ev.cbind hopt (Ev.ite_pos rfl (Ev.bind (ev_bestRun u n hn hn6 hu hl) (Ev.bind (ev_intervalsOf u (by omega)) (ev_impl_kept u n hl))))
      have ei : Ev (fun k => impl_IntervalsOf.f k u) (ivs u, true) := by
        unfold impl_IntervalsOf.f
        refine Ev.cbind (impl_ValidUses_f u) ?_
        rw [hok]
        exact Ev.ite_pos rfl (Ev.bind (ev_intervalsOf u (by omega)) (Ev.now _))
      have em : Ev (fun k => impl_BestMisses.f k u n) (leastMiss u n, true) := by
        unfold impl_BestMisses.f
        exact Ev.cbind hopt (Ev.ite_pos rfl (Ev.bind (ev_bestMisses u n hn hn6 hu hl) (Ev.now _)))
      obtain ⟨C, hC1, hC2, hC3, hC4⟩ := bestC_hits u n hn hn6 hl hu
      have ec : impl_BestCuts.f u n = some (castN C, true) := by
        unfold impl_BestCuts.f
        rw [ho, hC1]; rfl
      have eh := hitBound_ok u n hn hn6 hl hu C hC2 hC3
      rw [hC4] at eh
      obtain ⟨hk1, hk2⟩ := kept_hits u n hn hn6 hl hu
      have hle := hitTo_le u n u.length
      have hq : wrap64 ((u.length : Int) - leastMiss u n) = (hitTo u n u.length : Int) := by
        unfold leastMiss
        rw [wrap64_id (by omega) (by omega)]; omega
      have es := ev_impl_IsKept u n (keptTo u n (ivs u).length) (by omega) (by omega)
      rw [hk2] at es
      refine Ev.bind ek (Ev.bind ei (Ev.bind em (Ev.cbind ec (Ev.cbind eh ?_))))
      dsimp only
      rw [hq]
      refine Ev.ite_pos rfl (Ev.ite_pos rfl (Ev.ite_pos rfl (Ev.ite_pos rfl (Ev.ite_pos rfl (Ev.ite_pos (by omega) (Ev.ite_pos rfl (Ev.bind es ?_)))))))
      apply Ev.succ
      simp only [laws_FnIntervals.j0]
      exact Ev.ite_neg (by simp) (ev_ints_l0 u n hn hn6 hl hu l1 B1 (ivs u).length 0 [] (by omega) (Nat.zero_le _))
end Go.Proofs.Ytellojkbfnfacaa.Pure
