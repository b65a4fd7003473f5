/- laws.FnExactBestShares answers true for all arguments; no conditions. -/
import Derived.Test.YtfiohpbinpbhcaaQx0
import Derived.Test.YtfiohpbinpbhcaaHarePrograms
import Derived.Test.YtfiohpbinpbhcaaHimplBestShares
import Derived.Test.YtfiohpbinpbhcaaQx1
import Derived.Test.YtfiohpbinpbhcaaQx2
import Derived.Test.YtfiohpbinpbhcaaQx3
import Derived.Test.YtfiohpbinpbhcaaSbestshares
import Derived.Test.YtfiohpbinpbhcaaSbsboth
import Derived.Test.YtfiohpbinpbhcaaSbsev
import Derived.Test.YtfiohpbinpbhcaaSprograms
import Derived.Test.YtfiohpbinpbhcaaSmarkrows
import Derived.Test.YtfiohpbinpbhcaaSnested
import Derived.Test.YtfiohpbinpbhcaaSszsum
import Derived.Test.YtfiohpbinpbhcaaSsince
namespace Go.Proofs.Ytfiohpbinpbhcaa.Q
open Go.RowKit Go.Proofs.YtfiohpbinpbhcaaW.PrintWords Go.Proofs.YtfiohpbinpbhcaaW.PrintLast Go.Proofs.YtfiohpbinpbhcaaW.PrintMore
attribute [local go_sem] max2_int min2_int max_two min_two max_three min_three max_four min_four   -- for this text's walks alone
set_option linter.unusedVariables false
set_option linter.unusedSimpArgs false

def laws_FnExactBestShares.f (l0 : List (List Int)) (a1 : Int) : Option Bool := some true
theorem laws_heldInt64S_len (k : Nat) (A : Option Addr) (c : Nat) (I : List Int) (a r : Int) (w : World) {e base : Nat} {ok : Nat → Prop} (hR : Kd.R (Kd.int .i64) e w base ok (.slice A I.length c) (ups a I.length)) (h : laws_heldInt64S.f k (ups a I.length) a = some r) :
    Calls Try.prog 25 #[.slice A I.length c, .int .i64 a] w fun e w' => e = .returned (.int .i64 r) ∧ Drawn0 w w' := by
  obtain ⟨A', c', he, hcl, hC⟩ := Kd.R_reads hR
  have h2 := laws_heldInt64S.calls k A' c' (ups a I.length) a r w hC hcl h
  rw [← he] at h2
  exact h2
theorem bestSh_len (P : List (List Int)) (a : Int) : (bestSh P a).1.length ≤ 4 := by
  unfold bestSh
  split
  · rename_i h
    unfold okBest at h
    obtain ⟨h1, h2⟩ := Bool.and_eq_true_iff.1 h
    obtain ⟨h3, h4⟩ := Bool.and_eq_true_iff.1 h2
    unfold okProgs at h1
    have h5 : P.length ≤ 4 := by simpa using (Bool.and_eq_true_iff.1 h1).1
    match P, h3 with
    | p :: ps, _ =>
      have h := (fsh_len (crvT a.toNat) a.toNat ps p).hr a.toNat (Nat.le_refl _)
      show ((fsh (crvT a.toNat) a.toNat (p :: ps)).1.getD a.toNat []).length ≤ 4
      rw [h]
      simpa using h5
  · simp
set_option maxHeartbeats 8000000 in
set_option maxRecDepth 100000 in
theorem laws_FnExactBestShares.calls (A0 : Option Addr) (c0 : Nat) (l0 : List (List Int)) (a1 : Int) (r : Bool) (w : World) (hr0 : Kd.C (Kd.slice 2 (Kd.int .i64)) w A0 l0.length l0) (hc0 : l0.length ≤ c0) (h : laws_FnExactBestShares.f l0 a1 = some r) :
    Calls Try.prog 11 #[.slice A0 l0.length c0, .int .i64 a1] w fun e w' => e = .returned (.bool r) ∧ Below w.heap.size w w' := by
  obtain rfl : true = r := Option.some.inj h
  clear h
  have hn0 := hr0.2.1
  have hrl := rows_len hr0
  obtain ⟨t, ⟨kZ, eZ⟩, hZ⟩ := ev_sz_rows_sum l0 hn0 hrl
  have HEZ := Aside0.mk (eZ kZ (Nat.le_refl _))
  have HRA := Aside0.mk hr0
  have HCA := Aside0.mk hc0
  clear hr0 hc0 eZ
  have M0 := Aside0.mk trivial
  by_cases ht : t < 0
  · clear hZ
    go_enter Try.func11, Try.ntmps11
    go_wp2_with (go_at_call 35; (with_reducible refine (laws_szInt64SS.calls kZ A0 c0 l0 1048576 t _ HRA.out HCA.out HEZ.out).mono ?_); rintro e w1 ⟨rfl, ⟨nd1, hw1⟩⟩; have HB1 := Aside0.mk (show Below w.heap.size w w1 from below_at hw1.symm (Below.refl _ _)); clear hw1)
    go_ret
    exact ⟨rfl, HB1.out⟩
  obtain ⟨hl, hsum⟩ := hZ (by omega)
  have hin : ∀ y ∈ l0, y.length ≤ 1048576 := fun y hy => by have := sumLen_mem l0 y hy; omega
  obtain ⟨kT, eT⟩ := ev_toInt64SS l0 hl hin
  obtain ⟨kQ, eQ⟩ := ev_eqInt64SS_same l0 hl hin
  obtain ⟨kS, eS⟩ := ev_spec_BestShares l0 a1 hn0 hrl
  have eI := impl_BestShares_best l0 a1
  have hI := bestSh_len l0 a1
  obtain ⟨⟨I, mm, bb⟩, hq⟩ : ∃ q, q = bestSh l0 a1 := ⟨_, rfl⟩
  rw [← hq] at eS eI hI
  have hI : I.length ≤ 4 := hI
  obtain ⟨kE, eE⟩ := ev_eqInt64S_same I (by omega)
  obtain ⟨kH, eH⟩ := ev_heldInt64S 1 I.length (by omega) (by omega) (by omega)
  obtain ⟨kM, eM⟩ := ev_markInt64S I 1 (by omega) (by omega) (by omega)
  have HET := Aside0.mk (eT kT (Nat.le_refl _))
  have HEQ := Aside0.mk (eQ kQ (Nat.le_refl _))
  have HES := Aside0.mk (eS kS (Nat.le_refl _))
  have HEI := Aside0.mk eI
  have HEE := Aside0.mk (eE kE (Nat.le_refl _))
  have HEH := Aside0.mk (eH kH (Nat.le_refl _))
  have HEM := Aside0.mk (eM kM (Nat.le_refl _))
  have HSM := Aside0.mk (show (1 : Int) + (sumLen l0 : Int) ≤ 1000000000000 by omega)
  have HIN := Aside0.mk (show ∀ y ∈ l0, y.length ≤ 1000000000 from fun y hy => by have := hin y hy; omega)
  have hk0 : ¬ ((1 : Int) + (sumLen l0 : Int) < 0) := by omega
  have hz0 : ¬ ((1 : Int) + (I.length : Int) < 0) := by omega
  clear eT eQ eS eI eE eH eM hI hq hin hsum hl hrl hn0 hZ
  go_enter Try.func11, Try.ntmps11
  go_wp2_with (first
    | (have q_ := M0; clear q_; go_at_call 35; (with_reducible refine (laws_szInt64SS.calls kZ A0 c0 l0 1048576 t _ HRA.out HCA.out HEZ.out).mono ?_); rintro e w1 ⟨rfl, ⟨nd1, hw1⟩⟩; have hb1 : Below w.heap.size w w1 := below_at hw1.symm (Below.refl _ _); clear hw1; have HB1 := Aside0.mk hb1; have N_ := Aside0.mk (Kd.C_below HRA.out hb1); clear HRA; have HRA := N_; clear N_; clear hb1; clear M0; have M1 := Aside0.mk trivial)
    | (have q_ := M1; clear q_; go_at_call 37; (with_reducible refine (laws_toInt64SS.calls kT A0 c0 l0 l0 _ HRA.out HCA.out HET.out).mono ?_); rintro e w2 ⟨v2, rfl, hv2, hb2⟩; obtain ⟨A2, c2, e2, hc2, hC2⟩ := Kd.R_reads (Kd.S_R hv2); subst e2; have H2 := Aside0.mk hC2; have HC2 := Aside0.mk hc2; have N_ := Aside0.mk (Kd.C_below HRA.out hb2); clear HRA; have HRA := N_; clear N_; have N_ := Aside0.mk (below_step HB1.out hb2); clear HB1; have HB1 := N_; clear N_; clear hv2 hb2 hC2 hc2; clear M1; have M2 := Aside0.mk trivial)
    | (have q_ := M2; clear q_; go_at_call 39; (with_reducible refine (spec_BestShares.calls kS A2 c2 l0 a1 I mm bb _ H2.out HC2.out HES.out).mono ?_); rintro e w3 ⟨vW, rfl, hvW, hb3⟩; obtain ⟨AW, cW, eW⟩ := Kd.R_slice hvW; subst eW; have HW := Aside0.mk (Kd.R_mono (ok' := fun k => k < w3.heap.size) (Kd.R_bound hvW) (fun k hk => hk.2.2.1)); have HA2 := Aside0.mk (below_step HB1.out hb3); have N_ := Aside0.mk (Kd.C_below HRA.out hb3); clear HRA; have HRA := N_; clear N_; have HB2 := Aside0.mk (Below.refl w3.heap.size w3); clear hvW hb3 H2 HC2 HB1; clear M2; have M3 := Aside0.mk trivial)
    | (have q_ := M3; clear q_; go_at_call 37; (with_reducible refine (laws_toInt64SS.calls kT A0 c0 l0 l0 _ (Kd.C_below HRA.out HB2.out) HCA.out HET.out).mono ?_); rintro e w4 ⟨v4, rfl, hv4, hb4⟩; have hs4 := hb4.size; have HS4 := Aside0.mk hs4; obtain ⟨A4, c4, e4⟩ := Kd.R_slice (Kd.S_R hv4); subst e4; have HX := Aside0.mk (Kd.S_mono (ok' := fun k => w3.heap.size ≤ k ∧ k < w4.heap.size) (Kd.S_bound hv4) (fun k hk => ⟨hk.2.1, hk.2.2.1⟩)); have N_ := Aside0.mk (Kd.R_below HW.out hb4); clear HW; have HW := N_; clear N_; have N_ := Aside0.mk (below_step HB2.out hb4); clear HB2; have HB2 := N_; clear N_; clear hv4 hb4 hs4; clear M3; have M4 := Aside0.mk trivial)
    | (have q_ := M4; clear q_; go_at_call 33; (with_reducible refine (impl_BestShares.calls A4 c4 l0 a1 I mm bb _ (Kd.R_reads' (Kd.S_R HX.out)).2.2 (Kd.R_reads' (Kd.S_R HX.out)).2.1 HEI.out).mono ?_); rintro e w5 ⟨vG, rfl, hvG, hb5⟩; obtain ⟨AG, cG, eG⟩ := Kd.R_slice hvG; subst eG; have HG := Aside0.mk (Kd.R_lower (Kd.R_mono (ok' := fun k => w4.heap.size ≤ k) (Kd.R_bound hvG) (fun k hk => hk.2.1)) HS4.out); have N_ := Aside0.mk (Kd.R_below HW.out hb5); clear HW; have HW := N_; clear N_; have N_ := Aside0.mk (Kd.S_below HX.out hb5); clear HX; have HX := N_; clear N_; have N_ := Aside0.mk (below_step HB2.out hb5); clear HB2; have HB2 := N_; clear N_; clear hvG hb5; clear M4; have M5 := Aside0.mk trivial)
    | (have q_ := M5; clear q_; go_at_call 15; (with_reducible refine (laws_eqInt64S.calls kE AG cG I AW cW I true _ (Kd.R_reads' HG.out).2.2 (Kd.R_reads' HG.out).2.1 (Kd.R_reads' HW.out).2.2 (Kd.R_reads' HW.out).2.1 HEE.out).mono ?_); rintro e w6 ⟨rfl, ⟨nd6, hw6⟩⟩; have hb6 : Below w5.heap.size w5 w6 := below_at hw6.symm (Below.refl _ _); clear hw6; have N_ := Aside0.mk (Kd.R_below HW.out hb6); clear HW; have HW := N_; clear N_; have N_ := Aside0.mk (Kd.S_below HX.out hb6); clear HX; have HX := N_; clear N_; have N_ := Aside0.mk (Kd.R_below HG.out hb6); clear HG; have HG := N_; clear N_; have N_ := Aside0.mk (below_step HB2.out hb6); clear HB2; have HB2 := N_; clear N_; clear hb6; clear M5; have M6 := Aside0.mk trivial)
    | (have q_ := M6; clear q_; go_at_call 37; (with_reducible refine (laws_toInt64SS.calls kT A0 c0 l0 l0 _ (Kd.C_below HRA.out HB2.out) HCA.out HET.out).mono ?_); rintro e w7 ⟨v7, rfl, hv7, hb7⟩; obtain ⟨A7, c7, e7, hc7, hC7⟩ := Kd.R_reads (Kd.S_R hv7); subst e7; have H7 := Aside0.mk hC7; have HC7 := Aside0.mk hc7; have N_ := Aside0.mk (Kd.R_below HW.out hb7); clear HW; have HW := N_; clear N_; have N_ := Aside0.mk (Kd.S_below HX.out hb7); clear HX; have HX := N_; clear N_; have N_ := Aside0.mk (Kd.R_below HG.out hb7); clear HG; have HG := N_; clear N_; have N_ := Aside0.mk (below_step HB2.out hb7); clear HB2; have HB2 := N_; clear N_; clear hv7 hb7 hC7 hc7; clear M6; have M7 := Aside0.mk trivial)
    | (have q_ := M7; clear q_; go_at_call 38; (with_reducible refine (laws_eqInt64SS.calls kQ A4 c4 l0 A7 c7 l0 true _ (Kd.R_reads' (Kd.S_R HX.out)).2.2 (Kd.R_reads' (Kd.S_R HX.out)).2.1 H7.out HC7.out HEQ.out).mono ?_); rintro e w8 ⟨rfl, ⟨nd8, hw8⟩⟩; have hb8 : Below w7.heap.size w7 w8 := below_at hw8.symm (Below.refl _ _); clear hw8; have N_ := Aside0.mk (Kd.R_below HW.out hb8); clear HW; have HW := N_; clear N_; have N_ := Aside0.mk (Kd.S_below HX.out hb8); clear HX; have HX := N_; clear N_; have N_ := Aside0.mk (Kd.R_below HG.out hb8); clear HG; have HG := N_; clear N_; have N_ := Aside0.mk (below_step HB2.out hb8); clear HB2; have HB2 := N_; clear N_; clear hb8 H7 HC7; clear M7; have M8 := Aside0.mk trivial)
    | (have q_ := M8; clear q_; go_at_call 40; (with_reducible refine (laws_markInt64SS.calls (fun k => w3.heap.size ≤ k ∧ k < w4.heap.size) (.slice A4 l0.length c4) l0 1 w3 _ HB2.out HX.out (by decide) HSM.out HIN.out).mono ?_); rintro e w9 ⟨rfl, hX9, hb9, hk9⟩; have N_ := Aside0.mk (Kd.R_step HW.out (fun k hk hlt => hk9.2 k hlt (fun hp => Nat.not_lt.2 hp.1 hk))); clear HW; have HW := N_; clear N_; have N_ := Aside0.mk (Kd.R_step HG.out (fun k hk hlt => hk9.2 k hlt (fun hp => Nat.not_lt.2 hk hp.2))); clear HG; have HG := N_; clear N_; clear HB2; have HB2 := Aside0.mk hb9; clear hX9 hb9 hk9 HX; clear M8; have M9 := Aside0.mk trivial)
    | (have q_ := M9; clear q_; go_at_call 15; (with_reducible refine (laws_eqInt64S.calls kE AG cG I AW cW I true _ (Kd.R_reads' HG.out).2.2 (Kd.R_reads' HG.out).2.1 (Kd.R_reads' HW.out).2.2 (Kd.R_reads' HW.out).2.1 HEE.out).mono ?_); rintro e w10 ⟨rfl, ⟨nd10, hw10⟩⟩; have hb10 : Below w9.heap.size w9 w10 := below_at hw10.symm (Below.refl _ _); clear hw10; have N_ := Aside0.mk (Kd.R_below HW.out hb10); clear HW; have HW := N_; clear N_; have N_ := Aside0.mk (Kd.R_below HG.out hb10); clear HG; have HG := N_; clear N_; have N_ := Aside0.mk (below_step HB2.out hb10); clear HB2; have HB2 := N_; clear N_; clear hb10; clear M9; have M10 := Aside0.mk trivial)
    | (have q_ := M10; clear q_; go_at_call 24; (with_reducible refine (laws_markInt64S.calls kM (fun k => w4.heap.size ≤ k) (.slice AG I.length cG) I 1 _ _ w3 _ HB2.out HG.out HEM.out).mono ?_); rintro e w11 ⟨rfl, hG11, hb11, hk11⟩; have N_ := Aside0.mk (Kd.R_step HW.out (fun k hk hlt => hk11.2 k hlt (fun hp => absurd hk (Nat.not_lt.2 (Nat.le_trans HS4.out hp))))); clear HW; have HW := N_; clear N_; clear HG; have HG := Aside0.mk hG11; clear HB2; have HB2 := Aside0.mk hb11; clear hG11 hb11 hk11; clear M10; have M11 := Aside0.mk trivial)
    | (have q_ := M11; clear q_; go_at_call 25; (with_reducible refine (laws_heldInt64S_len kH AG cG I 1 (1 + (I.length : Int)) _ HG.out HEH.out).mono ?_); rintro e w12 ⟨rfl, ⟨nd12, hw12⟩⟩; have hb12 : Below w11.heap.size w11 w12 := below_at hw12.symm (Below.refl _ _); clear hw12; have N_ := Aside0.mk (Kd.R_below HW.out hb12); clear HW; have HW := N_; clear N_; have N_ := Aside0.mk (Kd.R_below HG.out hb12); clear HG; have HG := N_; clear N_; have N_ := Aside0.mk (below_step HB2.out hb12); clear HB2; have HB2 := N_; clear N_; clear hb12; clear M11; have M12 := Aside0.mk trivial)
    | (have q_ := M12; clear q_; go_at_call 37; (with_reducible refine (laws_toInt64SS.calls kT A0 c0 l0 l0 _ (Kd.C_below HRA.out HB2.out) HCA.out HET.out).mono ?_); rintro e w13 ⟨v13, rfl, hv13, hb13⟩; obtain ⟨A13, c13, e13, hc13, hC13⟩ := Kd.R_reads (Kd.S_R hv13); subst e13; have H13 := Aside0.mk hC13; have HC13 := Aside0.mk hc13; have N_ := Aside0.mk (Kd.R_below HW.out hb13); clear HW; have HW := N_; clear N_; have N_ := Aside0.mk (Kd.R_below HG.out hb13); clear HG; have HG := N_; clear N_; have N_ := Aside0.mk (below_step HB2.out hb13); clear HB2; have HB2 := N_; clear N_; clear hv13 hb13 hC13 hc13; clear M12; have M13 := Aside0.mk trivial)
    | (have q_ := M13; clear q_; go_at_call 33; (with_reducible refine (impl_BestShares.calls A13 c13 l0 a1 I mm bb _ H13.out HC13.out HEI.out).mono ?_); rintro e w14 ⟨vH, rfl, hvH, hb14⟩; obtain ⟨AH, cH, eH⟩ := Kd.R_slice hvH; subst eH; have HH := Aside0.mk hvH; have N_ := Aside0.mk (Kd.R_below HW.out hb14); clear HW; have HW := N_; clear N_; have N_ := Aside0.mk (Kd.R_below HG.out hb14); clear HG; have HG := N_; clear N_; have N_ := Aside0.mk (below_step HB2.out hb14); clear HB2; have HB2 := N_; clear N_; clear hvH hb14 H13 HC13; clear M13; have M14 := Aside0.mk trivial)
    | (have q_ := M14; clear q_; go_at_call 15; (with_reducible refine (laws_eqInt64S.calls kE AH cH I AW cW I true _ (Kd.R_reads' HH.out).2.2 (Kd.R_reads' HH.out).2.1 (Kd.R_reads' HW.out).2.2 (Kd.R_reads' HW.out).2.1 HEE.out).mono ?_); rintro e w15 ⟨rfl, ⟨nd15, hw15⟩⟩; have hb15 : Below w14.heap.size w14 w15 := below_at hw15.symm (Below.refl _ _); clear hw15; have N_ := Aside0.mk (Kd.R_below HW.out hb15); clear HW; have HW := N_; clear N_; have N_ := Aside0.mk (Kd.R_below HG.out hb15); clear HG; have HG := N_; clear N_; have N_ := Aside0.mk (below_step HB2.out hb15); clear HB2; have HB2 := N_; clear N_; clear hb15; clear M14; have M15 := Aside0.mk trivial)
    | (have q_ := M15; clear q_; go_at_call 25; (with_reducible refine (laws_heldInt64S_len kH AG cG I 1 (1 + (I.length : Int)) _ HG.out HEH.out).mono ?_); rintro e w16 ⟨rfl, ⟨nd16, hw16⟩⟩; have hb16 : Below w15.heap.size w15 w16 := below_at hw16.symm (Below.refl _ _); clear hw16; have N_ := Aside0.mk (Kd.R_below HW.out hb16); clear HW; have HW := N_; clear N_; have N_ := Aside0.mk (Kd.R_below HG.out hb16); clear HG; have HG := N_; clear N_; have N_ := Aside0.mk (below_step HB2.out hb16); clear HB2; have HB2 := N_; clear N_; clear hb16; clear M15; have M16 := Aside0.mk trivial))
  go_ret
  exact ⟨rfl, below_step HA2.out HB2.out⟩
end Go.Proofs.Ytfiohpbinpbhcaa.Q
