/- Parts of the proof, laid together: contracts and lemmas; no conditions beyond those written. -/
import Derived.Test.YtdhkcnhmmiigoaaQx0
import Derived.Test.YtdhkcnhmmiigoaaQx4
import Derived.Test.YtdhkcnhmmiigoaaSamong
import Derived.Test.YtdhkcnhmmiigoaaSbase
import Derived.Test.YtdhkcnhmmiigoaaSdraw
import Derived.Test.YtdhkcnhmmiigoaaQx1
import Derived.Test.YtdhkcnhmmiigoaaSokrows
import Derived.Test.YtdhkcnhmmiigoaaHmissKinds
import Derived.Test.YtdhkcnhmmiigoaaQx3
import Derived.Test.YtdhkcnhmmiigoaaScrv
import Derived.Test.YtdhkcnhmmiigoaaSplaced
import Derived.Test.YtdhkcnhmmiigoaaSascend
import Derived.Test.YtdhkcnhmmiigoaaSr8index
import Derived.Test.YtdhkcnhmmiigoaaSsetl
import Derived.Test.YtdhkcnhmmiigoaaSsortl
namespace Go.Proofs.Ytdhkcnhmmiigoaa.Q
open Go.RowKit Go.Proofs.YtdhkcnhmmiigoaaW.PrintWords Go.Proofs.YtdhkcnhmmiigoaaW.PrintLast Go.Proofs.YtdhkcnhmmiigoaaW.PrintMore
attribute [local go_sem] max2_int min2_int max_two min_two max_three min_three max_four min_four   -- for this text's walks alone
set_option linter.unusedVariables false
set_option linter.unusedSimpArgs false
section
def distAt (l : List Int) (i : Nat) : Int := if again l i = true then ((between l i).length : Int) else -1
def distsTo (l : List Int) (n : Nat) : List Int := (List.range n).map (distAt l)
def dists (l : List Int) : List Int := distsTo l l.length
theorem distsTo_succ (l : List Int) (n : Nat) : distsTo l (n + 1) = distsTo l n ++ [distAt l n] := by unfold distsTo; rw [List.range_succ, List.map_append]; rfl
theorem distsTo_length (l : List Int) (n : Nat) : (distsTo l n).length = n := by simp [distsTo]
theorem distAt_range (l : List Int) (i : Nat) : -1 ≤ distAt l i ∧ distAt l i ≤ (i : Int) := by
  unfold distAt
  have := between_length l i
  split <;> omega
theorem dists_mem {l : List Int} {d : Int} (h : d ∈ dists l) : -1 ≤ d ∧ d ≤ (l.length : Int) := by
  unfold dists distsTo at h
  obtain ⟨i, hi, rfl⟩ := List.mem_map.1 h
  have := distAt_range l i
  have := List.mem_range.1 hi
  omega
theorem ev_distancesOf (l : List Int) (h : l.length ≤ 1000000000) : Ev (fun k => impl_distancesOf.f k l) (dists l) := by
  unfold impl_distancesOf.f
  refine Ev.up (fun i k => impl_distancesOf.l0 k l (distsTo l i) l (l.length : Int) (i : Int)) l.length (dists l) ?_ ?_
  · apply Ev.succ
    simp only [impl_distancesOf.l0]
    exact Ev.ite_neg (by omega) (Ev.now _)
  · intro i hi ih
    apply Ev.succ
    simp only [impl_distancesOf.l0]
    have hr := lu_range l (rd l (i : Int)) i
    have hlen := distsTo_length l i
    rw [distsTo_succ] at ih
    unfold distAt again at ih
    refine Ev.ite_pos (by omega) (Ev.ite_pos (by omega) (Ev.ite_pos (by omega) (Ev.ite_pos (by omega) ?_)))
    rw [Int.toNat_natCast]
    refine Ev.bind (ev_lastUse_take l _ i (by omega) (by omega)) ?_
    rw [wrap64_succ (by omega)]
    by_cases h0 : 0 ≤ lu l (rd l (i : Int)) i
    · rw [if_pos (by simpa using h0)] at ih
      rw [wrap64_id (by omega) (by omega)]
      refine Ev.ite_pos (by omega) (Ev.ite_pos (by omega) (Ev.ite_pos (by omega) (Ev.cbind (impl_setOf_f _ ?_) (Ev.cbind (a := ((between l i).length : Int)) rfl (Ev.ite_pos (by omega) ih)))))
      rw [List.length_drop, List.length_take]; omega
    · rw [if_neg (by simpa using h0)] at ih
      exact Ev.ite_neg (by omega) (Ev.ite_pos (by omega) ih)
end
section
theorem near_l0 (l : List Int) (hb : Bytes l) (base step : Int) (h0 : 0 ≤ base ∧ base ≤ 3) (h1 : 1 ≤ step ∧ step ≤ 16) (d : Nat) : ∀ (out : List Int) (a : Nat) (sd : Int), (∀ x ∈ out, 0 ≤ x ∧ x ≤ 63) → out.length + d ≤ 13 → a + d ≤ 1000000 →
    ∃ r, Ev (fun k => spec_R8Near.l0 k base step out (d : Int) l (a : Int) sd) r ∧ (∀ x ∈ r, 0 ≤ x ∧ x ≤ 63) ∧ r.length ≤ 13 := by
  induction d with
  | zero =>
    intro out a sd ho hl ha
    refine ⟨out, Ev.succ ?_, ho, by omega⟩
    simp only [spec_R8Near.l0]
    exact Ev.ite_neg (by omega) (Ev.now _)
  | succ d ih =>
    intro out a sd ho hl ha
    obtain ⟨x, a1, s1, e1, hx, ha1⟩ := pick_ok l hb a sd 5 (by omega) (by omega) (by omega)
    have hd : wrap64 (((d + 1 : Nat) : Int) - 1) = (d : Int) := by rw [wrap64_id (by omega) (by omega)]; omega
    have hm : 0 ≤ step * (x : Int) ∧ step * (x : Int) ≤ 64 := by
      refine ⟨Int.mul_nonneg (by omega) (by omega), ?_⟩
      have : step * (x : Int) ≤ 16 * 4 := Int.mul_le_mul h1.2 (by omega) (by omega) (by omega)
      omega
    have hw : wrap64 (base + wrap64 (step * (x : Int))) = base + step * (x : Int) := by rw [wrap64_id (x := step * (x : Int)) (by omega) (by omega), wrap64_id (by omega) (by omega)]
    have t0 := Int.tmod_nonneg (64 : Int) (show 0 ≤ base + step * (x : Int) by omega)
    have t1 := Int.tmod_lt_of_pos (base + step * (x : Int)) (show (0 : Int) < 64 by omega)
    obtain ⟨r, e, q1, q2⟩ := ih (out ++ [Int.tmod (base + step * (x : Int)) 64]) a1 s1 (fun z hz => by
      rcases List.mem_append.1 hz with hz | hz
      · exact ho z hz
      · rw [List.mem_singleton.1 hz]; omega) (by rw [List.length_append, List.length_singleton]; omega) (by omega)
    refine ⟨r, Ev.succ ?_, q1, q2⟩
    simp only [spec_R8Near.l0]
    refine Ev.ite_pos (by omega) (Ev.cbind e1 (Ev.ite_pos (by omega) ?_))
    rw [hd, hw]
    exact e
theorem ev_R8Near (l : List Int) (hb : Bytes l) : ∃ r, Ev (fun k => spec_R8Near.f k l) r ∧ okUses r = true ∧ r.length ≤ 13 := by
  unfold spec_R8Near.f
  obtain ⟨x, a1, s1, e1, hx, h1⟩ := pick_ok l hb 0 0 4 (by omega) (by omega) (by omega)
  obtain ⟨y, a2, s2, e2, hy, h2⟩ := among_ok l hb a1 s1 [1, 2, 4, 8, 9, 16] (by simp) (by simp) (by omega)
  obtain ⟨n, a3, s3, e3, hn, h3⟩ := pick_ok l hb a2 s2 14 (by omega) (by omega) (by omega)
  obtain ⟨r, e, q1, q2⟩ := near_l0 l hb (x : Int) y (by omega) (by simp at hy; omega) n [] a3 s3 (by simp) (by simp; omega) (by omega)
  exact ⟨r, Ev.cbind (a := (l, 0, 0)) rfl (Ev.cbind e1 (Ev.cbind e2 (Ev.cbind e3 e))), (okUses_iff r).2 ⟨q1, by omega⟩, q2⟩
end
section
theorem ev_DifferencesOf_ok (U : List Int) (hu : okUses U = true) : Ev (fun k => impl_DifferencesOf.f k U) (dif U U.length, true) := by
  obtain ⟨hm, hml⟩ := (okUses_iff U).1 hu
  unfold impl_DifferencesOf.f
  refine Ev.cbind (impl_ValidUses_f U) ?_
  rw [hu]
  exact Ev.ite_pos rfl (Ev.bind (ev_impl_diffs U (by omega) hm) (Ev.now _))
theorem ev_LruCurve_ok (U : List Int) (p : Nat) (hp : p ≤ 4) (hu : okUses U = true) : Ev (fun k => impl_LruCurve.f k U (p : Int)) (crv (dists U) (p + 1), true) := by
  obtain ⟨hm, hml⟩ := (okUses_iff U).1 hu
  have hd : (dists U).length = U.length := by unfold dists; rw [distsTo_length]
  have hi : impl_isMost.f (p : Int) = some true := by
    unfold impl_isMost.f impl_inRange.f
    rw [if_pos (by omega)]
    simp; omega
  unfold impl_LruCurve.f
  refine Ev.cbind (impl_ValidUses_f U) ?_
  rw [hu]
  refine Ev.ite_pos rfl (Ev.cbind hi (Ev.succ ?_))
  simp only [impl_LruCurve.j0]
  exact Ev.ite_neg (by simp) (Ev.bind (ev_distancesOf U (by omega)) (Ev.bind (ev_impl_curve _ p (by omega) (by omega)) (Ev.now _)))
theorem okUses_take {U : List Int} (h : okUses U = true) (i : Nat) : okUses (U.take i) = true := by
  obtain ⟨h1, h2⟩ := (okUses_iff U).1 h
  exact (okUses_iff _).2 ⟨fun x hx => h1 x (List.mem_of_mem_take hx), by rw [List.length_take]; omega⟩
theorem sum3_step (x y z : Int) : wsumOf [x, y, z] = wrap64 (wrap64 (wrap64 (0 + x) + y) + z) := by
  unfold wsumOf
  rw [List.foldl_cons, List.foldl_cons, List.foldl_cons, List.foldl_nil]
theorem sum3_id (x y z : Int) (h1 : 0 ≤ x ∧ x ≤ 1000) (h2 : 0 ≤ x + y ∧ x + y ≤ 1000) (h3 : 0 ≤ x + y + z ∧ x + y + z ≤ 1000) : wsumOf [x, y, z] = x + y + z := by
  have e1 : wrap64 (0 + x) = x := by rw [Int.zero_add]; exact wrap64_id (by omega) (by omega)
  have e2 : wrap64 (x + y) = x + y := wrap64_id (by omega) (by omega)
  have e3 : wrap64 (x + y + z) = x + y + z := wrap64_id (by omega) (by omega)
  rw [sum3_step, e1, e2, e3]
theorem sum3 (a b c : Nat) (ha : a ≤ 60) (hb : b ≤ 60) (hc : c ≤ 60) : wsumOf [(a : Int), wrap64 ((b : Int) - (a : Int)), wrap64 ((c : Int) - (b : Int))] = (c : Int) := by
  have e1 : wrap64 ((b : Int) - (a : Int)) = (b : Int) - (a : Int) := wrap64_id (by omega) (by omega)
  have e2 : wrap64 ((c : Int) - (b : Int)) = (c : Int) - (b : Int) := wrap64_id (by omega) (by omega)
  rw [e1, e2, sum3_id _ _ _ (by omega) (by omega) (by omega)]
  omega
theorem aloneN_le (R : List Int) (p : Int) (U : List Int) : aloneN R p U ≤ U.length := by unfold aloneN; exact misN_le _ _ U U.length
theorem kinds_sum (R : List Int) (p : Int) (U : List Int) (hl : U.length ≤ 60) : wsumOf (kindsOf R p U) = (misN R p U U.length : Int) := by
  have h1 := misN_le R p U U.length
  have h2 := aloneN_le R p U
  have h3 := setL_length_le U
  unfold kindsOf
  exact sum3 _ _ _ (by omega) (by omega) (by omega)
theorem kinds_second (R : List Int) (p : Int) (U : List Int) (hl : U.length ≤ 60) : 0 ≤ rd (kindsOf R p U) 1 := by
  have h2 := aloneN_le R p U
  have h3 : aloneN R p U = againN [] (p * 2 ^ rankN R) U U.length + coldN U U.length := by unfold aloneN; exact misN_split [] (p * 2 ^ rankN R) U U.length (Nat.le_refl _)
  have h4 := coldN_set U U.length (Nat.le_refl _)
  rw [List.take_length] at h4
  have key : ∀ a b c : Int, rd [a, b, c] 1 = b := fun a b c => rfl
  unfold kindsOf
  rw [key, wrap64_id (by omega) (by omega)]
  omega
theorem kinds_first (R : List Int) (p : Int) (U : List Int) : rd (kindsOf R p U) 0 = ((setL U).length : Int) := by
  have key : ∀ a b c : Int, rd [a, b, c] 0 = a := fun a b c => rfl
  unfold kindsOf
  rw [key]
theorem kinds_length (R : List Int) (p : Int) (U : List Int) : (kindsOf R p U).length = 3 := by
  have key : ∀ a b c : Int, [a, b, c].length = 3 := fun a b c => rfl
  unfold kindsOf
  rw [key]
theorem MissKinds_ok (R : List Int) (p : Int) (U : List Int) (hR : okRows R = true) (hp : 1 ≤ p ∧ p ≤ 4) (hU : okUses U = true) : impl_MissKinds.f R p U = some (kindsOf R p U, true) := by
  unfold impl_MissKinds.f
  have : isIn 1 4 p = true := by simp [isIn]; omega
  rw [hR, this, hU]; rfl
theorem AddressesOf_ok (U : List Int) (hU : okUses U = true) : impl_AddressesOf.f U = some (setL U, true) := by
  obtain ⟨_, hl⟩ := (okUses_iff U).1 hU
  unfold impl_AddressesOf.f
  rw [impl_ValidUses_f, hU]
  simp only [Option.bind_some, if_true]
  rw [impl_setOf_f U (by omega)]; rfl
end
end Go.Proofs.Ytdhkcnhmmiigoaa.Q
