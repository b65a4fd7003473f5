/- spec.MissKinds answers the kinds of misses; no conditions. -/
import Derived.Test.YtdhkcnhmmiigoaaQx0
import Derived.Test.YtdhkcnhmmiigoaaQx6
import Derived.Test.YtdhkcnhmmiigoaaQx7
import Derived.Test.YtdhkcnhmmiigoaaSvalidindex
import Derived.Test.YtdhkcnhmmiigoaaSmisses
import Derived.Test.YtdhkcnhmmiigoaaSxor
import Derived.Test.YtdhkcnhmmiigoaaSaddr
import Derived.Test.YtdhkcnhmmiigoaaSmisses6
namespace Go.Proofs.Ytdhkcnhmmiigoaa.Q
open Go.RowKit Go.Proofs.YtdhkcnhmmiigoaaW.PrintWords Go.Proofs.YtdhkcnhmmiigoaaW.PrintLast Go.Proofs.YtdhkcnhmmiigoaaW.PrintMore
attribute [local go_sem] max2_int min2_int max_two min_two max_three min_three max_four min_four   -- for this text's walks alone
set_option linter.unusedVariables false
set_option linter.unusedSimpArgs false

def spec_MissKinds.f (l0_0 : List Int) (a1 : Int) (l2 : List Int) : Option (List Int × Bool) := if (okRows l0_0 && (isIn 1 4 a1 && okUses l2)) = true then some (kindsOf l0_0 a1 l2, true) else some ([], false)
theorem C_empty (w : World) (A : Option Addr) : Kd.C (Kd.int .i64) w A 0 [] := ⟨rfl, by omega, fun h => absurd h (by omega)⟩
set_option maxHeartbeats 8000000 in
set_option maxRecDepth 100000 in
theorem spec_MissKinds.calls (A0_0 : Option Addr) (c0_0 : Nat) (l0_0 : List Int) (a1 : Int) (A2 : Option Addr) (c2 : Nat) (l2 : List Int) (r1 : List Int) (r2 : Bool) (w : World) (hr0_0 : Kd.C (Kd.int .i64) w A0_0 l0_0.length l0_0) (hc0_0 : l0_0.length ≤ c0_0) (hr2 : Kd.C (Kd.int .i64) w A2 l2.length l2) (hc2 : l2.length ≤ c2) (h : spec_MissKinds.f l0_0 a1 l2 = some (r1, r2)) :
    Calls Try.prog 46 #[.agg #[.slice A0_0 l0_0.length c0_0], .int .i64 a1, .slice A2 l2.length c2] w fun e w' => ∃ v0_ : Value, e = .returned (.tuple #[v0_, .bool r2]) ∧ Kd.R (Kd.int .i64) 2 w' w.heap.size (fun _ => True) v0_ r1 ∧ Below w.heap.size w w' := by
  unfold spec_MissKinds.f at h
  have hu := Try.underlying26
  have hb : Below w.heap.size w (w.alloc (.cells #[.slice A0_0 l0_0.length c0_0] 26)) := below_alloc (Below.refl _ _) _
  have hbx : (w.alloc (.cells #[.slice A0_0 l0_0.length c0_0] 26)).cell? ⟨w.heap.size, 0, none⟩ = some (.slice A0_0 l0_0.length c0_0) := by simp
  have HBX := Aside0.mk (show ∀ W, Below (w.alloc (.cells #[.slice A0_0 l0_0.length c0_0] 26)).heap.size (w.alloc (.cells #[.slice A0_0 l0_0.length c0_0] 26)) W → W.cell? ⟨w.heap.size, 0, none⟩ = some (.slice A0_0 l0_0.length c0_0) from fun W h => (h.cell (World.block_lt_of_cell? _ _ hbx)).trans hbx)
  have HIS := Aside0.mk (spec_l06Is.calls w.heap.size A0_0 c0_0 l0_0 _ hbx (Kd.C_below hr0_0 hb))
  obtain ⟨KU, hKU⟩ := ev_l02Uses l2 hr2.2.1
  have HKU := Aside0.mk (hKU KU (Nat.le_refl _))
  have HB0 := Aside0.mk hb
  have HR0 := Aside0.mk (Kd.C_below hr0_0 hb)
  have HC0 := Aside0.mk hc0_0
  have HR2 := Aside0.mk (Kd.C_below hr2 hb)
  have HC2 := Aside0.mk hc2
  have HSZ : Aside0 (w.heap.size ≤ (w.alloc (.cells #[.slice A0_0 l0_0.length c0_0] 26)).heap.size) := ⟨by simp⟩
  have HPLC := Aside0.mk (spec_l06Places_f a1)
  obtain ⟨w1, hw1⟩ : ∃ w1, w1 = w.alloc (.cells #[.slice A0_0 l0_0.length c0_0] 26) := ⟨_, rfl⟩
  rw [← hw1] at HBX HIS HB0 HR0 HR2 HSZ
  clear hb hbx hr0_0 hc0_0 hr2 hc2 hKU
  have bad : ∀ {b0 b1 b2 : Bool}, okRows l0_0 = b0 → isIn 1 4 a1 = b1 → okUses l2 = b2 → (b0 && (b1 && b2)) = false → r1 = [] ∧ r2 = false := by
    rintro b0 b1 b2 rfl rfl rfl e
    rw [e, if_neg (by simp)] at h
    obtain ⟨h1, h2⟩ := Prod.mk.inj (Option.some.inj h)
    exact ⟨h1.symm, h2.symm⟩
  cases hg0 : okRows l0_0 with
  | false =>
    obtain ⟨rfl, rfl⟩ := bad hg0 rfl rfl (by simp)
    rw [hg0] at HIS
    clear h bad hg0
    go_enter Try.func46, Try.ntmps46
    rw [hw1] at HIS
    go_wp2_with (go_at_call 60; with_reducible refine HIS.out.mono ?_; rintro e w2 ⟨rfl, ⟨nd, hw2⟩⟩; rw [← hw1] at hw2; have HB2 := Aside0.mk (HB0.out.trans ((below_at hw2.symm (Below.refl w1.heap.size w1)).mono HSZ.out)); clear hw2)
    go_ret2
    exact ⟨.slice none 0 0, rfl, Kd.R_nil _ _ _ _ _, HB2.out⟩
  | true =>
  rw [hg0] at HIS
  cases hg1 : isIn 1 4 a1 with
  | false =>
    obtain ⟨rfl, rfl⟩ := bad hg0 hg1 rfl (by simp)
    rw [hg1] at HPLC
    clear h bad hg0 hg1
    go_enter Try.func46, Try.ntmps46
    rw [hw1] at HIS
    go_wp2_with (first | (go_at_call 60; with_reducible refine HIS.out.mono ?_; rintro e w2 ⟨rfl, ⟨nd, hw2⟩⟩; rw [← hw1] at hw2; have HB := Aside0.mk (below_at hw2.symm (Below.refl w1.heap.size w1)); clear hw2) | (go_at_call 69; with_reducible refine (spec_l06Places.calls a1 false _ HPLC.out).mono ?_; rintro e w3 ⟨rfl, ⟨nd3, hw3⟩⟩; have HB3 := Aside0.mk (HB0.out.trans ((below_at hw3.symm HB.out).mono HSZ.out)); clear hw3))
    go_ret2
    exact ⟨.slice none 0 0, rfl, Kd.R_nil _ _ _ _ _, HB3.out⟩
  | true =>
  rw [hg1] at HPLC
  cases hg2 : okUses l2 with
  | false =>
    obtain ⟨rfl, rfl⟩ := bad hg0 hg1 hg2 (by simp)
    rw [hg2] at HKU
    clear h bad hg0 hg1 hg2
    go_enter Try.func46, Try.ntmps46
    rw [hw1] at HIS
    go_wp2_with (first | (go_at_call 60; with_reducible refine HIS.out.mono ?_; rintro e w2 ⟨rfl, ⟨nd, hw2⟩⟩; rw [← hw1] at hw2; have HB := Aside0.mk (below_at hw2.symm (Below.refl w1.heap.size w1)); clear hw2) | (go_at_call 69; with_reducible refine (spec_l06Places.calls a1 true _ HPLC.out).mono ?_; rintro e w3 ⟨rfl, ⟨nd3, hw3⟩⟩; have HBn := Aside0.mk (below_at hw3.symm HB.out); clear HB; have HB := HBn; clear HBn hw3) | (go_at_call 62; with_reducible refine (spec_l02Uses.calls KU A2 c2 l2 false _ (Kd.C_below HR2.out HB.out) HC2.out HKU.out).mono ?_; rintro e w4 ⟨rfl, ⟨nd4, hw4⟩⟩; have HB4 := Aside0.mk (HB0.out.trans ((below_at hw4.symm HB.out).mono HSZ.out)); clear hw4))
    go_ret2
    exact ⟨.slice none 0 0, rfl, Kd.R_nil _ _ _ _ _, HB4.out⟩
  | true =>
    rw [hg2] at HKU
    rw [hg0, hg1, hg2, if_pos (show (true && (true && true)) = true from rfl)] at h
    obtain ⟨rfl, rfl⟩ := Prod.mk.inj (Option.some.inj h)
    obtain ⟨hrows, hlen⟩ := (okRows_iff l0_0).1 hg0
    obtain ⟨hU, hul⟩ := (okUses_iff l2).1 hg2
    have hpr : 1 ≤ a1 ∧ a1 ≤ 4 := by simpa [isIn] using hg1
    have hrk := rankN_le l0_0 hlen
    have hshl := shl_rank' (p := a1) (by omega) hpr.2 hrk
    obtain ⟨KS, hKS⟩ := ev_l02Set l2 (by omega)
    obtain ⟨KR, hKR⟩ := ev_l06Rank l0_0 hlen hrows
    obtain ⟨K1, hK1⟩ := ev_l06Misses [] (a1 * 2 ^ rankN l0_0) l2 hul (by simp) (by simp) hU
    obtain ⟨K2, hK2⟩ := ev_l06Misses l0_0 a1 l2 hul hlen hrows hU
    have HSO := Aside0.mk (fun (W : World) (hb : Below w1.heap.size w1 W) => spec_l02Set.calls KS A2 c2 l2 (setL l2) W (Kd.C_below HR2.out hb) HC2.out (hKS KS (Nat.le_refl _)))
    have HRD := Aside0.mk (fun (W : World) (hb : Below w1.heap.size w1 W) => spec_l06Rank.calls KR A0_0 c0_0 l0_0 (rankN l0_0 : Int) W (Kd.C_below HR0.out hb) HC0.out (hKR KR (Nat.le_refl _)))
    have HM1 := Aside0.mk (fun (W : World) (A : Option Addr) (hb : Below w1.heap.size w1 W) => (show Calls Try.prog 70 #[.slice A 0 0, .int .i64 (a1 * 2 ^ rankN l0_0), .slice A2 l2.length c2] W _ from spec_l06Misses.calls K1 A 0 [] (a1 * 2 ^ rankN l0_0) A2 c2 l2 (aloneN l0_0 a1 l2 : Int) W (C_empty _ _) (Nat.le_refl _) (Kd.C_below HR2.out hb) HC2.out (hK1 K1 (Nat.le_refl _))))
    have HM2 := Aside0.mk (fun (W : World) (hb : Below w1.heap.size w1 W) => spec_l06Misses.calls K2 A0_0 c0_0 l0_0 a1 A2 c2 l2 (misN l0_0 a1 l2 l2.length : Int) W (Kd.C_below HR0.out hb) HC0.out (Kd.C_below HR2.out hb) HC2.out (hK2 K2 (Nat.le_refl _)))
    have HKD : Aside0 (kindsOf l0_0 a1 l2 = [((setL l2).length : Int), wrap64 ((aloneN l0_0 a1 l2 : Int) - ((setL l2).length : Int)), wrap64 ((misN l0_0 a1 l2 l2.length : Int) - (aloneN l0_0 a1 l2 : Int))]) := ⟨rfl⟩
    clear h bad hg0 hg1 hg2 hrows hlen hU hul hpr hKS hKR hK1 hK2
    obtain ⟨rk, hrke⟩ : ∃ rk, rk = rankN l0_0 := ⟨_, rfl⟩
    rw [← hrke] at HM1 HRD hshl hrk
    clear hrke
    go_enter Try.func46, Try.ntmps46
    rw [hw1] at HIS
    go_wp2_with (first | (go_at_call 60; with_reducible refine HIS.out.mono ?_; rintro e w2 ⟨rfl, ⟨nd, hw2⟩⟩; rw [← hw1] at hw2; have HB := Aside0.mk (below_at hw2.symm (Below.refl w1.heap.size w1)); clear hw2) | (go_at_call 69; with_reducible refine (spec_l06Places.calls a1 true _ HPLC.out).mono ?_; rintro e w3 ⟨rfl, ⟨nd3, hw3⟩⟩; have HBn := Aside0.mk (below_at hw3.symm HB.out); clear HB; have HB := HBn; clear HBn hw3) | (go_at_call 62; with_reducible refine (spec_l02Uses.calls KU A2 c2 l2 true _ (Kd.C_below HR2.out HB.out) HC2.out HKU.out).mono ?_; rintro e w4 ⟨rfl, ⟨nd4, hw4⟩⟩; have HBn := Aside0.mk (below_at hw4.symm HB.out); clear HB; have HB := HBn; clear HBn hw4) | (go_at_call 82; with_reducible refine (HSO.out _ HB.out).mono ?_; rintro e w5 ⟨v5, rfl, hv5, hb5⟩; obtain ⟨A5, c5, rfl, hc5, hC5⟩ := Kd.R_reads hv5; have HBn := Aside0.mk (below_step HB.out hb5); clear HB; have HB := HBn; have hcell5 := HBX.out _ HB.out; have hcell5b : (w5.alloc (.cells #[] 2)).cell? ⟨w.heap.size, 0, none⟩ = some (.slice A0_0 l0_0.length c0_0) := HBX.out _ (below_alloc HB.out _); clear HBn hv5 hb5 hC5 hc5) | (go_at_call 61; with_reducible refine (HRD.out _ (below_alloc HB.out _)).mono ?_; rintro e w6 ⟨rfl, hb6⟩; have HBn := Aside0.mk (below_step (below_alloc HB.out _) hb6); clear HB; have HB := HBn; clear HBn hb6) | (go_at_call 70; (first | (with_reducible refine (HM1.out _ _ HB.out).mono ?_) | (with_reducible refine (HM2.out _ HB.out).mono ?_)); rintro e w7 ⟨rfl, hb7⟩; have HBn := Aside0.mk (below_step HB.out hb7); clear HB; have HB := HBn; have hcell7 := HBX.out _ HB.out; clear HBn hb7))
    go_ret2
    have hbw : Below w.heap.size w w7 := HB0.out.trans (HB.out.mono HSZ.out)
    have ho := own_lit w7 w.heap.size 2 .i64 [((setL l2).length : Int), wrap64 ((aloneN l0_0 a1 l2 : Int) - ((setL l2).length : Int)), wrap64 ((misN l0_0 a1 l2 l2.length : Int) - (aloneN l0_0 a1 l2 : Int))] hbw.size (by simp)
    refine ⟨_, rfl, ?_, hbw.alloc hbw.size _⟩
    rw [HKD.out]
    exact R_of_own ho
end Go.Proofs.Ytdhkcnhmmiigoaa.Q
