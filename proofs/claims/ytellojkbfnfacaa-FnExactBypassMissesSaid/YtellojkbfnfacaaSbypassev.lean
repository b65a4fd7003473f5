/- The reference's run over the intervals; no conditions beyond those written. -/
import Derived.Test.YtellojkbfnfacaaQx0
import Derived.Test.YtellojkbfnfacaaHbypass
import Derived.Test.YtellojkbfnfacaaQx1
import Derived.Test.YtellojkbfnfacaaSbase
import Derived.Test.YtellojkbfnfacaaSbypasscomb
import Derived.Test.YtellojkbfnfacaaSbypassspec
import Derived.Test.YtellojkbfnfacaaSoptimal
import Derived.Test.YtellojkbfnfacaaSintervals
import Derived.Test.YtellojkbfnfacaaSisin
import Derived.Test.YtellojkbfnfacaaSokuses
namespace Go.Proofs.Ytellojkbfnfacaa.Q
open Go.RowKit Go.Proofs.YtellojkbfnfacaaW.PrintWords Go.Proofs.YtellojkbfnfacaaW.PrintLast Go.Proofs.YtellojkbfnfacaaW.PrintMore
attribute [local go_sem] max2_int min2_int max_two min_two max_three min_three max_four min_four   -- for this text's walks alone
set_option linter.unusedVariables false
set_option linter.unusedSimpArgs false

theorem bypMix_end (U : List Int) (n : Int) (hn : 1 ≤ n) (hl : U.length ≤ 60) (p j : Nat) (hp : p < j) (hj : j < U.length) (hpj : nx U (rd U (p : Int)) (p + 1) = j) (h : rd U (j : Int) ∈ bypTo U n j) : bypMix U n j p j = bypRow U n (j + 1) := by
  unfold bypMix bypRow
  refine List.map_congr_left (fun t ht => ?_)
  rw [bypC_hit U n hn hl p j t hp hj (List.mem_range.1 ht) hpj h]
theorem bypRow_miss (U : List Int) (n : Int) (hn : 1 ≤ n) (hl : U.length ≤ 60) (j : Nat) (hj : j < U.length) (h : ¬ rd U (j : Int) ∈ bypTo U n j) : bypRow U n (j + 1) = bypRow U n j := by
  unfold bypRow
  refine List.map_congr_left (fun t ht => ?_)
  rw [bypC_miss U n hn hl j t hj (List.mem_range.1 ht) h]
theorem bypRow_zero (U : List Int) (n : Int) : bypRow U n 0 = List.replicate U.length 0 := by
  apply List.ext_getElem
  · simp [bypRow]
  · intro i h1 h2
    rw [List.getElem_replicate]
    have : bypC U n 0 i = 0 := by
      unfold bypC
      rw [List.countP_eq_zero]
      intro x _
      simp
    simp [bypRow, this]
section
variable (U : List Int) (n : Int) (hn : 1 ≤ n) (hn6 : n ≤ 6) (hl : U.length ≤ 60)
include hn hn6 hl
theorem ev_byp3 (L : List (List Int)) (x8 : Int) (hx8 : -1000 ≤ x8 ∧ x8 ≤ 1000) (p j kk : Nat) (hk : kk ≤ 1000) (hp : p < j) (hj : j < U.length) (hpj : nx U (rd U (p : Int)) (p + 1) = j) (h : rd U (j : Int) ∈ bypTo U n j) (r : Int × Bool)
    (hr : Ev (fun k => spec_BypassMisses.l1 k U n L (bypRow U n (j + 1)) (x8 - 1) (j : Int) ((kk + 1 : Nat) : Int)) r) : Ev (fun k => spec_BypassMisses.l3 k U n L (bypRow U n j) x8 (j : Int) (kk : Int) (p : Int)) r := by
  have key := Ev.up (fun i k => spec_BypassMisses.l3 k U n L (bypMix U n j p (p + i)) x8 (j : Int) (kk : Int) ((p + i : Nat) : Int)) (j - p) r ?_ ?_
  · refine Ev.congr (fun k => ?_) key
    show _ = spec_BypassMisses.l3 k U n L (bypMix U n j p p) x8 (j : Int) (kk : Int) (p : Int)
    rw [bypMix_start]
  · apply Ev.succ
    simp only [spec_BypassMisses.l3]
    refine Ev.ite_neg (by omega) ?_
    rw [show p + (j - p) = j by omega, bypMix_end U n hn hl p j hp hj hpj h, wrap64_id (by omega) (by omega), wrap64_succ (by omega)]
    exact hr
  · intro i hi ih
    apply Ev.succ
    simp only [spec_BypassMisses.l3]
    have hs := bypC_small U n hn hl j (p + i) (by omega)
    refine Ev.ite_pos (by omega) (Ev.ite_pos (by omega) (Ev.ite_pos (by rw [bypMix_length]; omega) ?_))
    rw [Int.toNat_natCast, rd_bypMix U n j p (p + i) (by omega), wrap64_id (by omega) (by omega), bypMix_set U n j p (p + i) (by omega) (by omega), wrap64_succ (by omega)]
    exact ih
omit hn hn6 in
theorem ev_byp2 (L : List (List Int)) (x8 : Int) (p j kk : Nat) (hk : kk < L.length) (hL : rd_L1 L (kk : Int) = [(p : Int), (j : Int)]) (hkk : kk ≤ 1000) (hp : p < j) (hj : j < U.length) (r : Int × Bool)
    (h3 : bypRoom U n j p (j - p) = true → Ev (fun k => spec_BypassMisses.l3 k U n L (bypRow U n j) x8 (j : Int) (kk : Int) (p : Int)) r)
    (h1 : bypRoom U n j p (j - p) = false → Ev (fun k => spec_BypassMisses.l1 k U n L (bypRow U n j) x8 (j : Int) ((kk + 1 : Nat) : Int)) r) : Ev (fun k => spec_BypassMisses.l2 k U n L (bypRow U n j) x8 (j : Int) (kk : Int) true (p : Int)) r := by
  refine Ev.up (fun i k => spec_BypassMisses.l2 k U n L (bypRow U n j) x8 (j : Int) (kk : Int) (bypRoom U n j p i) ((p + i : Nat) : Int)) (j - p) r ?_ ?_
  · apply Ev.succ
    simp only [spec_BypassMisses.l2]
    refine Ev.ite_neg (by omega) ?_
    by_cases hq : bypRoom U n j p (j - p) = true
    · refine Ev.ite_pos hq (Ev.ite_pos (by omega) (Ev.ite_pos (by omega) ?_))
      rw [hL]
      exact Ev.ite_pos (by simp) (h3 hq)
    · refine Ev.ite_neg hq ?_
      rw [wrap64_succ (by omega)]
      exact h1 (Bool.eq_false_iff.2 hq)
  · intro i hi ih
    apply Ev.succ
    simp only [spec_BypassMisses.l2]
    refine Ev.ite_pos (by omega) ?_
    rw [bypRoom_succ] at ih
    by_cases hq : bypRoom U n j p i = true
    · refine Ev.ite_pos hq (Ev.ite_pos (by omega) (Ev.ite_pos (by rw [bypRow_length]; omega) ?_))
      rw [rd_bypRow U n j (p + i) (by omega), wrap64_succ (by omega)]
      rw [hq, Bool.true_and] at ih
      exact ih
    · refine Ev.ite_neg hq ?_
      rw [wrap64_succ (by omega)]
      rw [Bool.eq_false_iff.2 hq, Bool.false_and] at ih
      exact ih
omit hn6 in
theorem byp_room_iff (p j : Nat) (hp : p < j) (hj : j < U.length) (hpj : nx U (rd U (p : Int)) (p + 1) = j) : bypRoom U n j p (j - p) = decide (rd U (j : Int) ∈ bypTo U n j) := by
  rw [Bool.eq_iff_iff, decide_eq_true_iff]
  unfold bypRoom
  rw [List.all_eq_true]
  constructor
  · intro h
    refine byp_room U n hn hl p j hp hj hpj (fun t h1 h2 => ?_)
    have := of_decide_eq_true (h (t - p) (List.mem_range.2 (by omega)))
    rw [show p + (t - p) = t by omega] at this
    exact this
  · intro h d hd
    have hd := List.mem_range.1 hd
    exact decide_eq_true (byp_fits U n hn hl p j hp hj hpj h (p + d) (by omega) (by omega)).2.2
def bypX (U : List Int) (n : Int) (j : Nat) : Int := (U.length : Int) - ((j : Int) - (bypMiss U n j : Int))
def bypSt (U : List Int) (n : Int) (j : Nat) (b : Bool) : List Int × Int := if b = true then (bypRow U n (j + 1), bypX U n (j + 1)) else (bypRow U n j, bypX U n j)
def bypSeen (L : List (List Int)) (j kk : Nat) : Bool := (L.take kk).any fun x => decide (rd x 1 = (j : Int))
theorem ev_byp1 (j : Nat) (hj : j < U.length) (r : Int × Bool) (hr : Ev (fun k => spec_BypassMisses.l0 k U n (ivs U) (bypRow U n (j + 1)) (bypX U n (j + 1)) ((j + 1 : Nat) : Int)) r) : Ev (fun k => spec_BypassMisses.l1 k U n (ivs U) (bypRow U n j) (bypX U n j) (j : Int) 0) r := by
  have hlen : (ivs U).length ≤ U.length := ivsTo_length U U.length
  have hml := bypMiss_le U n j
  have hX : bypX U n (j + 1) = if rd U (j : Int) ∈ bypTo U n j then bypX U n j - 1 else bypX U n j := by
    unfold bypX
    rw [show bypMiss U n (j + 1) = bypMiss U n j + (if rd U (j : Int) ∈ bypTo U n j then 0 else 1) from rfl]
    split <;> omega
  refine Ev.up (fun kk k => spec_BypassMisses.l1 k U n (ivs U) (bypSt U n j (bypSeen (ivs U) j kk)).1 (bypSt U n j (bypSeen (ivs U) j kk)).2 (j : Int) (kk : Int)) (ivs U).length r ?_ ?_
  · apply Ev.succ
    simp only [spec_BypassMisses.l1]
    refine Ev.ite_neg (by omega) ?_
    rw [wrap64_succ (by omega)]
    by_cases hs : bypSeen (ivs U) j (ivs U).length = true
    · rw [hs]; exact hr
    · have hmiss : ¬ rd U (j : Int) ∈ bypTo U n j := by
        intro h
        obtain ⟨p, h1, h2⟩ := byp_seen U n hn hl j hj h
        apply hs
        unfold bypSeen
        rw [List.take_length, List.any_eq_true]
        exact ⟨_, ivs_mem2.2 ⟨p, by omega, by omega, rfl⟩, by rw [h2]; exact decide_eq_true rfl⟩
      rw [Bool.eq_false_iff.2 hs]
      rw [hX, if_neg hmiss, bypRow_miss U n hn hl j hj hmiss] at hr
      exact hr
  · intro kk hkk ih
    have hrd : rd_L1 (ivs U) (kk : Int) = (ivs U)[kk] := by
      show (ivs U).getD kk _ = _
      rw [List.getD_eq_getElem?_getD, List.getElem?_eq_getElem hkk, Option.getD_some]
    obtain ⟨p, g1, g2, g3⟩ := ivs_mem2.1 (List.getElem_mem hkk)
    have hnext : bypSeen (ivs U) j (kk + 1) = (bypSeen (ivs U) j kk || decide (rd (ivs U)[kk] 1 = (j : Int))) := by
      unfold bypSeen
      rw [List.take_succ_eq_append_getElem hkk, List.any_append]; simp
    have h1v : rd (ivs U)[kk] 1 = (nx U (rd U (p : Int)) (p + 1) : Int) := by rw [g3]; rfl
    apply Ev.succ
    simp only [spec_BypassMisses.l1]
    rw [hrd]
    refine Ev.ite_pos (by omega) (Ev.ite_pos (by omega) (Ev.ite_pos (by rw [g3]; simp) ?_))
    by_cases he : rd (ivs U)[kk] 1 = (j : Int)
    · have hpj : nx U (rd U (p : Int)) (p + 1) = j := by omega
      have hpl := nx_ge U (rd U (p : Int)) (p + 1)
      have hns : bypSeen (ivs U) j kk = false := by
        rw [Bool.eq_false_iff]
        intro hs
        unfold bypSeen at hs
        obtain ⟨x, hx, hxe⟩ := List.any_eq_true.1 hs
        obtain ⟨i, hi, hie⟩ := List.getElem_of_mem hx
        rw [List.length_take] at hi
        rw [List.getElem_take] at hie
        have hlt := List.pairwise_iff_getElem.1 (ivs_pair U) i kk (by omega) hkk (by omega)
        obtain ⟨q, f1, f2, f3⟩ := ivs_mem2.1 (List.getElem_mem (l := ivs U) (n := i) (by omega))
        rw [hie] at hlt f3
        have hxe := of_decide_eq_true hxe
        rw [f3] at hxe hlt
        rw [g3] at hlt
        have hqj : nx U (rd U (q : Int)) (q + 1) = j := by
          have : ((nx U (rd U (q : Int)) (q + 1) : Nat) : Int) = (j : Int) := hxe
          omega
        have hqp : q < p := by
          have : (q : Int) < (p : Int) := hlt
          omega
        have e1 := nx_hit U (rd U (q : Int)) (U.length - (q + 1)) (q + 1) (by omega) (by omega)
        have e2 := nx_hit U (rd U (p : Int)) (U.length - (p + 1)) (p + 1) (by omega) (by omega)
        rw [hqj] at e1
        rw [hpj] at e2
        exact nx_none U (rd U (q : Int)) (U.length - (q + 1)) (q + 1) (by omega) p (by omega) (by omega) (by omega) (e2.symm.trans e1)
      refine Ev.ite_pos he (Ev.ite_pos (by rw [g3]; simp) ?_)
      rw [hns]
      rw [hnext, hns, decide_eq_true he] at ih
      have hg3 : rd_L1 (ivs U) (kk : Int) = [(p : Int), (j : Int)] := by rw [hrd, g3, hpj]
      have h0v : rd (ivs U)[kk] 0 = (p : Int) := by rw [g3]; rfl
      rw [h0v]
      have hiff := byp_room_iff U n hn hl p j (by omega) hj hpj
      refine ev_byp2 U n hl (ivs U) (bypX U n j) p j kk hkk hg3 (by omega) (by omega) hj r (fun hq => ?_) (fun hq => ?_)
      · rw [hiff] at hq
        have hit := of_decide_eq_true hq
        refine ev_byp3 U n hn hn6 hl (ivs U) (bypX U n j) (by unfold bypX; omega) p j kk (by omega) (by omega) hj hpj hit r ?_
        have e3 : bypSt U n j (false || true) = (bypRow U n (j + 1), bypX U n j - 1) := by
          show (bypRow U n (j + 1), bypX U n (j + 1)) = _
          rw [hX, if_pos hit]
        rw [e3] at ih
        exact ih
      · rw [hiff] at hq
        have hmiss := of_decide_eq_false hq
        have e3 : bypSt U n j (false || true) = (bypRow U n j, bypX U n j) := by
          show (bypRow U n (j + 1), bypX U n (j + 1)) = _
          rw [hX, if_neg hmiss, bypRow_miss U n hn hl j hj hmiss]
        rw [e3] at ih
        exact ih
    · refine Ev.ite_neg he ?_
      rw [hnext, decide_eq_false he, Bool.or_false] at ih
      rw [wrap64_succ (by omega)]
      exact ih
theorem ev_byp0 : Ev (fun k => spec_BypassMisses.l0 k U n (ivs U) (List.replicate U.length 0) (U.length : Int) 0) ((bypMiss U n U.length : Nat), true) := by
  have key := Ev.up (fun j k => spec_BypassMisses.l0 k U n (ivs U) (bypRow U n j) (bypX U n j) (j : Int)) U.length (((bypMiss U n U.length : Nat) : Int), true) ?_ ?_
  · refine Ev.congr (fun k => ?_) key
    show _ = spec_BypassMisses.l0 k U n (ivs U) (bypRow U n 0) (bypX U n 0) 0
    rw [bypRow_zero, show bypX U n 0 = (U.length : Int) by unfold bypX; simp [bypMiss]]
  · apply Ev.succ
    simp only [spec_BypassMisses.l0]
    refine Ev.ite_neg (by omega) (Ev.eq (Ev.now _) ?_)
    unfold bypX
    congr 1
    omega
  · intro j hj ih
    apply Ev.succ
    simp only [spec_BypassMisses.l0]
    refine Ev.ite_pos (by omega) ?_
    exact ev_byp1 U n hn hn6 hl j hj _ ih
end
theorem ev_spec_BypassMisses (U : List Int) (n : Int) (h : U.length ≤ 1048576) : Ev (fun k => spec_BypassMisses.f k U n) (if (okUses U && isIn 1 6 n) = true then (((bypMiss U n U.length : Nat) : Int), true) else (0, false)) := by
  unfold spec_BypassMisses.f
  refine Ev.bind (ev_l05Fine U n (by omega)) ?_
  by_cases hf : (okUses U && isIn 1 6 n) = true
  · rw [if_pos hf]
    obtain ⟨h1, h2⟩ := Bool.and_eq_true_iff.1 hf
    have hl := ((okUses_iff U).1 h1).2
    have hn : 1 ≤ n ∧ n ≤ 6 := by unfold isIn at h2; simp at h2; omega
    refine Ev.ite_pos hf (Ev.bind (ev_l05Intervals U hl) (Ev.ite_pos (by omega) ?_))
    rw [Int.toNat_natCast]
    exact Ev.ite_pos (by omega) (ev_byp0 U n hn.1 hn.2 hl)
  · rw [if_neg hf]
    exact Ev.ite_neg hf (Ev.now _)
end Go.Proofs.Ytellojkbfnfacaa.Q
