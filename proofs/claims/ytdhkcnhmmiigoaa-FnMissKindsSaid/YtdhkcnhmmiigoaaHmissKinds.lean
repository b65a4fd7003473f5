/- impl.MissKinds answers the kinds of misses; no conditions. -/
import Derived.Test.YtdhkcnhmmiigoaaQx0
import Derived.Test.YtdhkcnhmmiigoaaHreduced
import Derived.Test.YtdhkcnhmmiigoaaHsetOf
import Derived.Test.YtdhkcnhmmiigoaaHsetmisses
import Derived.Test.YtdhkcnhmmiigoaaQx1
import Derived.Test.YtdhkcnhmmiigoaaQx2
import Derived.Test.YtdhkcnhmmiigoaaSokrows
import Derived.Test.YtdhkcnhmmiigoaaSascend
import Derived.Test.YtdhkcnhmmiigoaaSdraw
import Derived.Test.YtdhkcnhmmiigoaaSsortl
import Derived.Test.YtdhkcnhmmiigoaaSplaced
import Derived.Test.YtdhkcnhmmiigoaaSred
namespace Go.Proofs.Ytdhkcnhmmiigoaa.Q
open Go.RowKit Go.Proofs.YtdhkcnhmmiigoaaW.PrintWords Go.Proofs.YtdhkcnhmmiigoaaW.PrintLast Go.Proofs.YtdhkcnhmmiigoaaW.PrintMore
attribute [local go_sem] max2_int min2_int max_two min_two max_three min_three max_four min_four   -- for this text's walks alone
set_option linter.unusedVariables false
set_option linter.unusedSimpArgs false

attribute [local go_sem] run_rowsField
def impl_MissKinds.f (l0_0 : List Int) (a1 : Int) (l2 : List Int) : Option (List Int × Bool) := if (okRows l0_0 && (isIn 1 4 a1 && okUses l2)) = true then some (kindsOf l0_0 a1 l2, true) else some ([], false)
set_option maxHeartbeats 8000000 in
set_option maxRecDepth 100000 in
theorem impl_MissKinds.calls (A0_0 : Option Addr) (c0_0 : Nat) (l0_0 : List Int) (a1 : Int) (A2 : Option Addr) (c2 : Nat) (l2 : List Int) (r1 : List Int) (r2 : Bool) (w : World) (hr0_0 : Kd.C (Kd.int .i64) w A0_0 l0_0.length l0_0) (hc0_0 : l0_0.length ≤ c0_0) (hr2 : Kd.C (Kd.int .i64) w A2 l2.length l2) (hc2 : l2.length ≤ c2) (h : impl_MissKinds.f l0_0 a1 l2 = some (r1, r2)) :
    Calls Try.prog 40 #[.agg #[.slice A0_0 l0_0.length c0_0], .int .i64 a1, .slice A2 l2.length c2] w fun e w' => ∃ v0_ : Value, e = .returned (.tuple #[v0_, .bool r2]) ∧ Kd.R (Kd.int .i64) 2 w' w.heap.size (fun _ => True) v0_ r1 ∧ Below w.heap.size w w' := by
  unfold impl_MissKinds.f at h
  have hu := Try.underlying26
  have hb : Below w.heap.size w (w.alloc (.cells #[.slice A0_0 l0_0.length c0_0] 26)) := below_alloc (Below.refl _ _) _
  have hbx : (w.alloc (.cells #[.slice A0_0 l0_0.length c0_0] 26)).cell? ⟨w.heap.size, 0, none⟩ = some (.slice A0_0 l0_0.length c0_0) := by simp
  have HBX := Aside0.mk (show ∀ W, Below (w.alloc (.cells #[.slice A0_0 l0_0.length c0_0] 26)).heap.size (w.alloc (.cells #[.slice A0_0 l0_0.length c0_0] 26)) W → W.cell? ⟨w.heap.size, 0, none⟩ = some (.slice A0_0 l0_0.length c0_0) from fun W h => (h.cell (World.block_lt_of_cell? _ _ hbx)).trans hbx)
  have HPL := Aside0.mk (impl_isPlaced.calls A0_0 c0_0 l0_0 a1 A2 c2 l2 (okRows l0_0 && (isIn 1 4 a1 && okUses l2)) _ (Kd.C_below hr0_0 hb) hc0_0 (Kd.C_below hr2 hb) hc2 (impl_isPlaced_f l0_0 a1 l2))
  have HB0 := Aside0.mk hb
  have HR0 := Aside0.mk (Kd.C_below hr0_0 hb)
  have HC0 := Aside0.mk hc0_0
  have HR2 := Aside0.mk (Kd.C_below hr2 hb)
  have HC2 := Aside0.mk hc2
  have HSZ : Aside0 (w.heap.size ≤ (w.alloc (.cells #[.slice A0_0 l0_0.length c0_0] 26)).heap.size) := ⟨by simp⟩
  obtain ⟨w1, hw1⟩ : ∃ w1, w1 = w.alloc (.cells #[.slice A0_0 l0_0.length c0_0] 26) := ⟨_, rfl⟩
  rw [← hw1] at HBX HPL HB0 HR0 HR2 HSZ
  clear hb hbx hr0_0 hc0_0 hr2 hc2
  cases hg : okRows l0_0 && (isIn 1 4 a1 && okUses l2) with
  | false =>
    rw [hg] at HPL
    rw [hg, if_neg (by simp)] at h
    obtain ⟨rfl, rfl⟩ := Prod.mk.inj (Option.some.inj h)
    clear h hg
    go_enter Try.func40, Try.ntmps40
    have hcell : w1.cell? ⟨w.heap.size, 0, none⟩ = some (.slice A0_0 l0_0.length c0_0) := HBX.out _ (Below.refl _ _)
    rw [hw1] at hcell HPL
    go_wp2_with (go_at_call 55; with_reducible refine HPL.out.mono ?_; rintro e w2 ⟨rfl, hb2⟩; rw [← hw1] at hb2; have HB2 := Aside0.mk (HB0.out.trans (hb2.mono HSZ.out)); clear hb2)
    go_ret2
    exact ⟨.slice none 0 0, rfl, Kd.R_nil _ _ _ _ _, HB2.out⟩
  | true =>
    rw [hg] at HPL
    rw [hg, if_pos rfl] at h
    obtain ⟨rfl, rfl⟩ := Prod.mk.inj (Option.some.inj h)
    obtain ⟨h1, h2⟩ := Bool.and_eq_true_iff.1 hg
    obtain ⟨hp, h3⟩ := Bool.and_eq_true_iff.1 h2
    obtain ⟨hrows, hlen⟩ := (okRows_iff l0_0).1 h1
    obtain ⟨hU, hul⟩ := (okUses_iff l2).1 h3
    have hpr : 1 ≤ a1 ∧ a1 ≤ 4 := by simpa [isIn] using hp
    have hrk := rankN_le l0_0 hlen
    have hshl := shl_rank' (p := a1) (by omega) hpr.2 hrk
    have hlen0 : (desc (redN (l0_0.map Int.toNat))).length = rankN l0_0 := desc_length _
    have HSO := Aside0.mk (fun (W : World) (hb : Below w1.heap.size w1 W) => impl_setOf.calls A2 c2 l2 (setL l2) W (Kd.C_below HR2.out hb) HC2.out (impl_setOf_f l2 (by omega)))
    have HRD := Aside0.mk (fun (W : World) (hb : Below w1.heap.size w1 W) => impl_Index_reduced.calls A0_0 c0_0 l0_0 (desc (redN (l0_0.map Int.toNat))) W (Kd.C_below HR0.out hb) HC0.out (by unfold impl_Index_reduced.f; rw [h1, if_pos rfl]))
    have HM1 := Aside0.mk (fun (W : World) (hb : Below w1.heap.size w1 W) => (show Calls Try.prog 58 #[.agg #[.slice none 0 0], .int .i64 (a1 * 2 ^ rankN l0_0), .slice A2 l2.length c2] W _ from impl_Index_setMisses.calls none 0 [] (a1 * 2 ^ rankN l0_0) A2 c2 l2 (aloneN l0_0 a1 l2 : Int) W (Kd.C_nil _ _) (Nat.le_refl _) (Kd.C_below HR2.out hb) HC2.out (by unfold impl_Index_setMisses.f; rw [okRows_nil, h3, if_pos rfl, if_pos rfl]; rfl)))
    have HM2 := Aside0.mk (fun (W : World) (hb : Below w1.heap.size w1 W) => impl_Index_setMisses.calls A0_0 c0_0 l0_0 a1 A2 c2 l2 (misN l0_0 a1 l2 l2.length : Int) W (Kd.C_below HR0.out hb) HC0.out (Kd.C_below HR2.out hb) HC2.out (by unfold impl_Index_setMisses.f; rw [h1, h3, if_pos rfl, if_pos rfl]))
    have HKD : Aside0 (kindsOf l0_0 a1 l2 = [((setL l2).length : Int), wrap64 ((aloneN l0_0 a1 l2 : Int) - ((setL l2).length : Int)), wrap64 ((misN l0_0 a1 l2 l2.length : Int) - (aloneN l0_0 a1 l2 : Int))]) := ⟨rfl⟩
    have HRK := Aside0.mk hrk
    clear h hg h1 h2 h3 hp hrows hlen hU hul hpr
    obtain ⟨D, hD⟩ : ∃ D, D = desc (redN (l0_0.map Int.toNat)) := ⟨_, rfl⟩
    obtain ⟨rk, hrke⟩ : ∃ rk, rk = rankN l0_0 := ⟨_, rfl⟩
    rw [← hD] at HRD hlen0
    rw [← hrke] at HM1 HRK hshl hlen0 hrk
    rw [← hshl, ← hlen0] at HM1
    have hD0 : 0 ≤ (D.length : Int) := by omega
    have hD3 : (D.length : Int) ≤ 3 := by omega
    clear hshl
    have hcell : w1.cell? ⟨w.heap.size, 0, none⟩ = some (.slice A0_0 l0_0.length c0_0) := HBX.out _ (Below.refl _ _)
    clear hD hrke hlen0
    go_enter Try.func40, Try.ntmps40
    rw [hw1] at hcell HPL
    go_wp2_with (first | (go_at_call 55; with_reducible refine HPL.out.mono ?_; rintro e w2 ⟨rfl, hb2⟩; rw [← hw1] at hb2; have HB := Aside0.mk hb2; clear hb2) | (go_at_call 73; with_reducible refine (HSO.out _ HB.out).mono ?_; rintro e w3 ⟨v3, rfl, hv3, hb3⟩; obtain ⟨A3, c3, rfl, hc3, hC3⟩ := Kd.R_reads hv3; have HC3 := Aside0.mk hC3; have HCC3 := Aside0.mk hc3; have HBn := Aside0.mk (below_step HB.out hb3); clear HB; have HB := HBn; clear HBn hv3 hb3 hC3 hc3) | (go_at_call 52; with_reducible refine (impl_length_int64.calls A3 c3 (setL l2) ((setL l2).length : Int) _ HC3.out HCC3.out rfl).mono ?_; rintro e w4 ⟨rfl, ⟨nd4, hw4⟩⟩; have HBn := Aside0.mk (below_at hw4.symm HB.out); clear HB; have HB := HBn; have hcell4 := HBX.out _ HB.out; clear HBn hw4) | (go_at_call 52; with_reducible refine (impl_length_int64.calls A5 c5 D (D.length : Int) _ HC5.out HCC5.out rfl).mono ?_; rintro e w4 ⟨rfl, ⟨nd4, hw4⟩⟩; have HBn := Aside0.mk (below_at hw4.symm HB.out); clear HB; have HB := HBn; have hcell4 := HBX.out _ HB.out; clear HBn hw4) | (go_at_call 53; with_reducible refine (HRD.out _ HB.out).mono ?_; rintro e w5 ⟨v5, rfl, hv5, hb5⟩; obtain ⟨A5, c5, ev5, hc5, hC5⟩ := Kd.R_reads hv5; subst ev5; have HC5 := Aside0.mk hC5; have HCC5 := Aside0.mk hc5; have HBn := Aside0.mk (below_step HB.out hb5); clear HB; have HB := HBn; clear HBn hv5 hb5 hC5 hc5) | (go_at_call 58; (first | (with_reducible refine (HM1.out _ HB.out).mono ?_) | (with_reducible refine (HM2.out _ HB.out).mono ?_)); rintro e w6 ⟨rfl, hb6⟩; have HBn := Aside0.mk (below_step HB.out hb6); clear HB; have HB := HBn; have hcell6 := HBX.out _ HB.out; clear HBn hb6))
    go_ret2
    have hbw : Below w.heap.size w w6 := HB0.out.trans (HB.out.mono HSZ.out)
    have ho := own_lit w6 w.heap.size 2 .i64 [((setL l2).length : Int), wrap64 ((aloneN l0_0 a1 l2 : Int) - ((setL l2).length : Int)), wrap64 ((misN l0_0 a1 l2 l2.length : Int) - (aloneN l0_0 a1 l2 : Int))] hbw.size (by simp)
    refine ⟨_, rfl, ?_, hbw.alloc hbw.size _⟩
    rw [HKD.out]
    exact R_of_own ho
end Go.Proofs.Ytdhkcnhmmiigoaa.Q
