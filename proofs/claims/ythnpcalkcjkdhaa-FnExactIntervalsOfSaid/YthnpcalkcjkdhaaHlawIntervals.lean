/- laws.FnExactIntervalsOf answers true for all arguments; no conditions. -/
import Derived.Test.YthnpcalkcjkdhaaQx0
import Derived.Test.YthnpcalkcjkdhaaQx1
import Derived.Test.YthnpcalkcjkdhaaSivsof
import Derived.Test.YthnpcalkcjkdhaaSmarkrows
import Derived.Test.YthnpcalkcjkdhaaSmarks
import Derived.Test.YthnpcalkcjkdhaaSokuses
import Derived.Test.YthnpcalkcjkdhaaSwords
namespace Go.Proofs.Ythnpcalkcjkdhaa.Q
open Go.RowKit Go.Proofs.YthnpcalkcjkdhaaW.PrintWords Go.Proofs.YthnpcalkcjkdhaaW.PrintLast Go.Proofs.YthnpcalkcjkdhaaW.PrintMore
attribute [local go_sem] max2_int min2_int max_two min_two max_three min_three max_four min_four   -- for this text's walks alone
set_option linter.unusedVariables false
set_option linter.unusedSimpArgs false

def laws_FnExactIntervalsOf.f (l0 : List Int) : Option Bool := some true
theorem laws_heldInt64SS_len (k : Nat) (A : Option Addr) (c : Nat) (I : List (List Int)) (a r : Int) (w : World) {e : TypeId} {base : Nat} {ok : Nat → Prop} (hS : Kd.S (Kd.slice 2 (Kd.int .i64)) e w base ok (.slice A I.length c) (markRows I a)) (h : laws_heldInt64SS.f k (markRows I a) a = some r) :
    Calls Try.prog 31 #[.slice A I.length c, .int .i64 a] w fun e w' => e = .returned (.int .i64 r) ∧ Drawn0 w w' := by
  have hl := markRows_length I a
  obtain ⟨A', c', he, hcl, hC⟩ := Kd.R_reads (Kd.S_R hS)
  have h2 := laws_heldInt64SS.calls k A' c' (markRows I a) a r w hC hcl h
  rw [← he] at h2
  exact h2
set_option maxHeartbeats 8000000 in
set_option maxRecDepth 100000 in
theorem laws_FnExactIntervalsOf.calls (A0 : Option Addr) (c0 : Nat) (l0 : List Int) (r : Bool) (w : World) (hr0 : Kd.C (Kd.int .i64) w A0 l0.length l0) (hc0 : l0.length ≤ c0) (h : laws_FnExactIntervalsOf.f l0 = some r) :
    Calls Try.prog 6 #[.slice A0 l0.length c0] w fun e w' => e = .returned (.bool r) ∧ Below w.heap.size w w' := by
  obtain rfl : true = r := Option.some.inj h
  clear h
  have HRA := Aside0.mk hr0
  have HCA := Aside0.mk hc0
  clear hr0 hc0
  by_cases hlong : (l0.length : Int) > 1048576
  · go_enter Try.func6, Try.ntmps6
    go_wp2_with (fail)
    go_ret
    exact ⟨rfl, by repeat (first | exact Below.refl _ _ | apply pw_below_drewN | apply below_drew1)⟩
  obtain ⟨kT, eT⟩ := ev_toInt64S l0 (by omega)
  obtain ⟨kQ, eQ⟩ := ev_eqInt64S_same l0 (by omega)
  obtain ⟨kS, eS⟩ := ev_spec_IntervalsOf l0 (by omega)
  obtain ⟨kI, eI⟩ := ev_impl_IntervalsOf l0
  obtain ⟨hI1, hI2⟩ := ivR_small l0
  have hI3 := sumLen_small (ivR l0) hI2
  obtain ⟨kE, eE⟩ := ev_eqRows (ivR l0) (by omega) (fun y hy => by have := hI2 y hy; omega)
  obtain ⟨kH, eH⟩ := ev_heldRows (ivR l0) 1 (by omega) (fun y hy => by have := hI2 y hy; omega) (by omega) (by omega)
  obtain ⟨kM, eM⟩ := ev_markInt64S l0 1 (by omega) (by omega) (by omega)
  have HET := Aside0.mk (eT kT (Nat.le_refl _))
  have HEQ := Aside0.mk (eQ kQ (Nat.le_refl _))
  have HES := Aside0.mk (eS kS (Nat.le_refl _))
  have HEI := Aside0.mk (eI kI (Nat.le_refl _))
  have HEE := Aside0.mk (eE kE (Nat.le_refl _))
  have HEH := Aside0.mk (eH kH (Nat.le_refl _))
  have HEM := Aside0.mk (eM kM (Nat.le_refl _))
  have HSM := Aside0.mk (show (1 : Int) + (sumLen (ivR l0) : Int) ≤ 1000000000000 by omega)
  have HIN := Aside0.mk (show ∀ y ∈ ivR l0, y.length ≤ 1000000000 from fun y hy => by have := hI2 y hy; omega)
  have hk0 : ¬ ((1 : Int) + (l0.length : Int) < 0) := by omega
  have hz0 : ¬ ((1 : Int) + (sumLen (ivR l0) : Int) < 0) := by omega
  clear eT eQ eS eI eE eH eM hI1 hI2 hI3
  generalize ivR l0 = I at HES HEI HEE HEH HSM HIN hz0
  generalize okUses l0 = b at HES HEI
  have M0 := Aside0.mk trivial
  go_enter Try.func6, Try.ntmps6
  go_wp2_with (first
    | (have q_ := M0; clear q_; go_at_call 20; (with_reducible refine (laws_toInt64S.calls kT A0 c0 l0 l0 _ HRA.out HCA.out HET.out).mono ?_); rintro e w1 ⟨v1, rfl, hv1, hb1⟩; obtain ⟨A1, c1, rfl, hc1, hC1⟩ := Kd.R_reads hv1; have H1 := Aside0.mk hC1; have HC1 := Aside0.mk hc1; have HB1 := Aside0.mk hb1; have N_ := Aside0.mk (Kd.C_below HRA.out hb1); clear HRA; have HRA := N_; clear N_ hv1 hc1 hC1 hb1; clear M0; have M1 := Aside0.mk trivial)
    | (have q_ := M1; clear q_; go_at_call 27; (with_reducible refine (spec_IntervalsOf.calls kS A1 c1 l0 I b _ H1.out HC1.out HES.out).mono ?_); rintro e w2 ⟨vW, rfl, hvW, hb2⟩; obtain ⟨AW, cW, rfl⟩ := Kd.R_slice (Kd.S_R hvW); have HW := Aside0.mk (Kd.S_mono (ok' := fun k => k < w2.heap.size) (Kd.S_bound hvW) (fun k hk => hk.2.2.1)); have HA2 := Aside0.mk (below_step HB1.out hb2); have N_ := Aside0.mk (Kd.C_below HRA.out hb2); clear HRA; have HRA := N_; clear N_; have HB2 := Aside0.mk (Below.refl w2.heap.size w2); clear hvW hb2 H1 HC1 HB1; clear M1; have M2 := Aside0.mk trivial)
    | (have q_ := M2; clear q_; go_at_call 20; (with_reducible refine (laws_toInt64S.calls kT A0 c0 l0 l0 _ (Kd.C_below HRA.out HB2.out) HCA.out HET.out).mono ?_); rintro e w3 ⟨v3, rfl, hv3, hb3⟩; have hs3 := hb3.size; have HS3 := Aside0.mk hs3; obtain ⟨A3, c3, rfl⟩ := Kd.R_slice hv3; have HX := Aside0.mk (Kd.R_mono (ok' := fun k => w2.heap.size ≤ k ∧ k < w3.heap.size) (Kd.R_bound hv3) (fun k hk => ⟨hk.2.1, hk.2.2.1⟩)); have N_ := Aside0.mk (Kd.S_below HW.out hb3); clear HW; have HW := N_; clear N_; have N_ := Aside0.mk (below_step HB2.out hb3); clear HB2; have HB2 := N_; clear N_; clear hv3 hb3 hs3; clear M2; have M3 := Aside0.mk trivial)
    | (have q_ := M3; clear q_; go_at_call 28; (with_reducible refine (impl_IntervalsOf.calls kI A3 c3 l0 I b _ (Kd.R_reads' HX.out).2.2 (Kd.R_reads' HX.out).2.1 HEI.out).mono ?_); rintro e w4 ⟨vG, rfl, hvG, hb4⟩; obtain ⟨AG, cG, rfl⟩ := Kd.R_slice (Kd.S_R hvG); have HG := Aside0.mk (Kd.S_lower (Kd.S_mono (ok' := fun k => w3.heap.size ≤ k) (Kd.S_bound hvG) (fun k hk => hk.2.1)) HS3.out); have N_ := Aside0.mk (Kd.S_below HW.out hb4); clear HW; have HW := N_; clear N_; have N_ := Aside0.mk (Kd.R_below HX.out hb4); clear HX; have HX := N_; clear N_; have N_ := Aside0.mk (below_step HB2.out hb4); clear HB2; have HB2 := N_; clear N_; clear hvG hb4; clear M3; have M4 := Aside0.mk trivial)
    | (have q_ := M4; clear q_; go_at_call 29; (with_reducible refine (laws_eqInt64SS.calls kE AG cG I AW cW I true _ (Kd.R_reads' (Kd.S_R HG.out)).2.2 (Kd.R_reads' (Kd.S_R HG.out)).2.1 (Kd.R_reads' (Kd.S_R HW.out)).2.2 (Kd.R_reads' (Kd.S_R HW.out)).2.1 HEE.out).mono ?_); rintro e w5 ⟨rfl, ⟨nd5, hw5⟩⟩; have hb5 : Below w4.heap.size w4 w5 := below_at hw5.symm (Below.refl _ _); clear hw5; have N_ := Aside0.mk (Kd.S_below HW.out hb5); clear HW; have HW := N_; clear N_; have N_ := Aside0.mk (Kd.R_below HX.out hb5); clear HX; have HX := N_; clear N_; have N_ := Aside0.mk (Kd.S_below HG.out hb5); clear HG; have HG := N_; clear N_; have N_ := Aside0.mk (below_step HB2.out hb5); clear HB2; have HB2 := N_; clear N_; clear hb5; clear M4; have M5 := Aside0.mk trivial)
    | (have q_ := M5; clear q_; go_at_call 20; (with_reducible refine (laws_toInt64S.calls kT A0 c0 l0 l0 _ (Kd.C_below HRA.out HB2.out) HCA.out HET.out).mono ?_); rintro e w6 ⟨v6, rfl, hv6, hb6⟩; obtain ⟨A6, c6, rfl, hc6, hC6⟩ := Kd.R_reads hv6; have H6 := Aside0.mk hC6; have HC6 := Aside0.mk hc6; have N_ := Aside0.mk (Kd.S_below HW.out hb6); clear HW; have HW := N_; clear N_; have N_ := Aside0.mk (Kd.R_below HX.out hb6); clear HX; have HX := N_; clear N_; have N_ := Aside0.mk (Kd.S_below HG.out hb6); clear HG; have HG := N_; clear N_; have N_ := Aside0.mk (below_step HB2.out hb6); clear HB2; have HB2 := N_; clear N_; clear hv6 hb6 hc6 hC6; clear M5; have M6 := Aside0.mk trivial)
    | (have q_ := M6; clear q_; go_at_call 22; (with_reducible refine (laws_eqInt64S.calls kQ A3 c3 l0 A6 c6 l0 true _ (Kd.R_reads' HX.out).2.2 (Kd.R_reads' HX.out).2.1 H6.out HC6.out HEQ.out).mono ?_); rintro e w7 ⟨rfl, ⟨nd7, hw7⟩⟩; have hb7 : Below w6.heap.size w6 w7 := below_at hw7.symm (Below.refl _ _); clear hw7; have N_ := Aside0.mk (Kd.S_below HW.out hb7); clear HW; have HW := N_; clear N_; have N_ := Aside0.mk (Kd.R_below HX.out hb7); clear HX; have HX := N_; clear N_; have N_ := Aside0.mk (Kd.S_below HG.out hb7); clear HG; have HG := N_; clear N_; have N_ := Aside0.mk (below_step HB2.out hb7); clear HB2; have HB2 := N_; clear N_; clear hb7 H6 HC6; clear M6; have M7 := Aside0.mk trivial)
    | (have q_ := M7; clear q_; go_at_call 23; (with_reducible refine (laws_markInt64S.calls kM (fun k => w2.heap.size ≤ k ∧ k < w3.heap.size) (.slice A3 l0.length c3) l0 1 _ _ w2 _ HB2.out HX.out HEM.out).mono ?_); rintro e w8 ⟨rfl, hR8, hb8, hk8⟩; have N_ := Aside0.mk (Kd.S_step HW.out (fun k hk hlt => hk8.2 k hlt (fun hp => Nat.not_lt.2 hp.1 hk))); clear HW; have HW := N_; clear N_; have N_ := Aside0.mk (Kd.S_step HG.out (fun k hk hlt => hk8.2 k hlt (fun hp => Nat.not_lt.2 hk hp.2))); clear HG; have HG := N_; clear N_; clear HB2; have HB2 := Aside0.mk hb8; clear hR8 hb8 hk8 HX; clear M7; have M8 := Aside0.mk trivial)
    | (have q_ := M8; clear q_; go_at_call 29; (with_reducible refine (laws_eqInt64SS.calls kE AG cG I AW cW I true _ (Kd.R_reads' (Kd.S_R HG.out)).2.2 (Kd.R_reads' (Kd.S_R HG.out)).2.1 (Kd.R_reads' (Kd.S_R HW.out)).2.2 (Kd.R_reads' (Kd.S_R HW.out)).2.1 HEE.out).mono ?_); rintro e w9 ⟨rfl, ⟨nd9, hw9⟩⟩; have hb9 : Below w8.heap.size w8 w9 := below_at hw9.symm (Below.refl _ _); clear hw9; have N_ := Aside0.mk (Kd.S_below HW.out hb9); clear HW; have HW := N_; clear N_; have N_ := Aside0.mk (Kd.S_below HG.out hb9); clear HG; have HG := N_; clear N_; have N_ := Aside0.mk (below_step HB2.out hb9); clear HB2; have HB2 := N_; clear N_; clear hb9; clear M8; have M9 := Aside0.mk trivial)
    | (have q_ := M9; clear q_; go_at_call 30; (with_reducible refine (laws_markInt64SS.calls (fun k => w3.heap.size ≤ k) (.slice AG I.length cG) I 1 w2 _ HB2.out HG.out (by decide) HSM.out HIN.out).mono ?_); rintro e w10 ⟨rfl, hG10, hb10, hk10⟩; have N_ := Aside0.mk (Kd.S_step HW.out (fun k hk hlt => hk10.2 k hlt (fun hp => absurd hk (Nat.not_lt.2 (Nat.le_trans HS3.out hp))))); clear HW; have HW := N_; clear N_; clear HG; have HG := Aside0.mk hG10; clear HB2; have HB2 := Aside0.mk hb10; clear hG10 hb10 hk10; clear M9; have M10 := Aside0.mk trivial)
    | (have q_ := M10; clear q_; go_at_call 31; (with_reducible refine (laws_heldInt64SS_len kH AG cG I 1 (1 + (sumLen I : Int)) _ HG.out HEH.out).mono ?_); rintro e w11 ⟨rfl, ⟨nd11, hw11⟩⟩; have hb11 : Below w10.heap.size w10 w11 := below_at hw11.symm (Below.refl _ _); clear hw11; have N_ := Aside0.mk (Kd.S_below HW.out hb11); clear HW; have HW := N_; clear N_; have N_ := Aside0.mk (Kd.S_below HG.out hb11); clear HG; have HG := N_; clear N_; have N_ := Aside0.mk (below_step HB2.out hb11); clear HB2; have HB2 := N_; clear N_; clear hb11; clear M10; have M11 := Aside0.mk trivial)
    | (have q_ := M11; clear q_; go_at_call 20; (with_reducible refine (laws_toInt64S.calls kT A0 c0 l0 l0 _ (Kd.C_below HRA.out HB2.out) HCA.out HET.out).mono ?_); rintro e w12 ⟨v12, rfl, hv12, hb12⟩; obtain ⟨A12, c12, rfl, hc12, hC12⟩ := Kd.R_reads hv12; have H12 := Aside0.mk hC12; have HC12 := Aside0.mk hc12; have N_ := Aside0.mk (Kd.S_below HW.out hb12); clear HW; have HW := N_; clear N_; have N_ := Aside0.mk (Kd.S_below HG.out hb12); clear HG; have HG := N_; clear N_; have N_ := Aside0.mk (below_step HB2.out hb12); clear HB2; have HB2 := N_; clear N_; clear hv12 hb12 hc12 hC12; clear M11; have M12 := Aside0.mk trivial)
    | (have q_ := M12; clear q_; go_at_call 28; (with_reducible refine (impl_IntervalsOf.calls kI A12 c12 l0 I b _ H12.out HC12.out HEI.out).mono ?_); rintro e w13 ⟨vH, rfl, hvH, hb13⟩; obtain ⟨AH, cH, rfl⟩ := Kd.R_slice (Kd.S_R hvH); have HH := Aside0.mk hvH; have N_ := Aside0.mk (Kd.S_below HW.out hb13); clear HW; have HW := N_; clear N_; have N_ := Aside0.mk (Kd.S_below HG.out hb13); clear HG; have HG := N_; clear N_; have N_ := Aside0.mk (below_step HB2.out hb13); clear HB2; have HB2 := N_; clear N_; clear hvH hb13 H12 HC12; clear M12; have M13 := Aside0.mk trivial)
    | (have q_ := M13; clear q_; go_at_call 29; (with_reducible refine (laws_eqInt64SS.calls kE AH cH I AW cW I true _ (Kd.R_reads' (Kd.S_R HH.out)).2.2 (Kd.R_reads' (Kd.S_R HH.out)).2.1 (Kd.R_reads' (Kd.S_R HW.out)).2.2 (Kd.R_reads' (Kd.S_R HW.out)).2.1 HEE.out).mono ?_); rintro e w14 ⟨rfl, ⟨nd14, hw14⟩⟩; have hb14 : Below w13.heap.size w13 w14 := below_at hw14.symm (Below.refl _ _); clear hw14; have N_ := Aside0.mk (Kd.S_below HW.out hb14); clear HW; have HW := N_; clear N_; have N_ := Aside0.mk (Kd.S_below HG.out hb14); clear HG; have HG := N_; clear N_; have N_ := Aside0.mk (below_step HB2.out hb14); clear HB2; have HB2 := N_; clear N_; clear hb14; clear M13; have M14 := Aside0.mk trivial)
    | (have q_ := M14; clear q_; go_at_call 31; (with_reducible refine (laws_heldInt64SS_len kH AG cG I 1 (1 + (sumLen I : Int)) _ HG.out HEH.out).mono ?_); rintro e w15 ⟨rfl, ⟨nd15, hw15⟩⟩; have hb15 : Below w14.heap.size w14 w15 := below_at hw15.symm (Below.refl _ _); clear hw15; have N_ := Aside0.mk (Kd.S_below HW.out hb15); clear HW; have HW := N_; clear N_; have N_ := Aside0.mk (Kd.S_below HG.out hb15); clear HG; have HG := N_; clear N_; have N_ := Aside0.mk (below_step HB2.out hb15); clear HB2; have HB2 := N_; clear N_; clear hb15; clear M14; have M15 := Aside0.mk trivial))
  go_ret
  exact ⟨rfl, below_step HA2.out HB2.out⟩
end Go.Proofs.Ythnpcalkcjkdhaa.Q
