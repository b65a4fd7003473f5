/- impl.HitBound answers the bound of cuts; no conditions. -/
import Derived.Test.YtellojkbfnfacaaQx0
import Derived.Test.YtellojkbfnfacaaHallIn
import Derived.Test.YtellojkbfnfacaaQx1
import Derived.Test.YtellojkbfnfacaaQx2
import Derived.Test.YtellojkbfnfacaaSbase
import Derived.Test.YtellojkbfnfacaaSivsimpl
import Derived.Test.YtellojkbfnfacaaSsetlimpl
import Derived.Test.YtellojkbfnfacaaSidxf
import Derived.Test.YtellojkbfnfacaaSslidx
import Derived.Test.YtellojkbfnfacaaSlenalias
namespace Go.Proofs.Ytellojkbfnfacaa.Q
open Go.RowKit Go.Proofs.YtellojkbfnfacaaW.PrintWords Go.Proofs.YtellojkbfnfacaaW.PrintLast Go.Proofs.YtellojkbfnfacaaW.PrintMore
attribute [local go_sem] max2_int min2_int max_two min_two max_three min_three max_four min_four   -- for this text's walks alone
set_option linter.unusedVariables false
set_option linter.unusedSimpArgs false

theorem len_calls (A : Option Addr) (n c : Nat) (W : World) : Calls Try.prog 39 #[.slice A n c] W fun e w' => e = .returned (.int .i64 (n : Int)) ∧ Drawn0 W w' := by
  go_enter Try.func39, Try.ntmps39
  go_wp2
  go_ret
  exact ⟨rfl, by repeat (first | exact Drawn0.refl _ | apply Drawn0.step)⟩
def impl_HitBound.f (l0 : List Int) (a1 : Int) (l2 : List Int) : Option (Int × Bool) := if ((okUses l0 && isIn 1 6 a1) && rises l2 0 ((l0.length : Int) - 1)) = true then some (hbTo l0 a1 l2 (ivs l0).length, true) else some (0, false)
theorem hitBound_1.pred (A : Option Addr) (c : Nat) (x : List Int) (hx : x.length = 2) (hc : x.length ≤ c) (l : List Int) (w : World) (B : Nat) (hcell : w.cell? ⟨B, 0, none⟩ = some (.slice A x.length c)) (hC : Kd.C (Kd.int .i64) w A x.length x) :
    PredI 46 #[.pointer (some ⟨B, 0, none⟩)] l (crossB x) w := fun W t hb _ => by
  have hc1 := (hb.cell (World.block_lt_of_cell? _ _ hcell)).trans hcell
  have HX := Aside0.mk (impl_crosses.calls A c x t (crossB x t) W (Kd.C_below hC hb) hc (ev_crosses x t hx))
  clear hcell hC hb hx
  show Calls Try.prog 46 #[.int .i64 t, .pointer (some ⟨B, 0, none⟩)] W _
  go_enter Try.func46, Try.ntmps46
  go_wp2_with (go_at_call 47; with_reducible refine HX.out.mono ?_; rintro e w' ⟨rfl, ⟨nd, hw⟩⟩; have HB := Aside0.mk (below_at hw.symm (Below.refl W.heap.size W)); clear hw)
  go_ret
  exact ⟨rfl, HB.out⟩
set_option maxHeartbeats 8000000 in
set_option maxRecDepth 100000 in
theorem impl_HitBound.calls (A0 : Option Addr) (c0 : Nat) (l0 : List Int) (a1 : Int) (A2 : Option Addr) (c2 : Nat) (l2 : List Int) (r1 : Int) (r2 : Bool) (w : World) (hr0 : Kd.C (Kd.int .i64) w A0 l0.length l0) (hc0 : l0.length ≤ c0) (hr2 : Kd.C (Kd.int .i64) w A2 l2.length l2) (hc2 : l2.length ≤ c2) (h : impl_HitBound.f l0 a1 l2 = some (r1, r2)) :
    Calls Try.prog 17 #[.slice A0 l0.length c0, .int .i64 a1, .slice A2 l2.length c2] w fun e w' => e = .returned (.tuple #[.int .i64 r1, .bool r2]) ∧ Below w.heap.size w w' := by
  unfold impl_HitBound.f at h
  have hn0 : l0.length ≤ 9223372036854775807 := hr0.2.1
  have HOP := Aside0.mk (impl_isOptimal.calls A0 c0 l0 a1 (okUses l0 && isIn 1 6 a1) w hr0 hc0 (impl_isOptimal_f l0 a1))
  have HAI := Aside0.mk (fun (W : World) (hb : Below w.heap.size w W) => impl_allIn.calls A2 c2 l2 0 ((l0.length : Int) - 1) (l2.all (isIn 0 ((l0.length : Int) - 1))) W (Kd.C_below hr2 hb) hc2 (impl_allIn_f l2 0 _))
  obtain ⟨KI, hKI⟩ := ev_isIncreasing l2 hr2.2.1
  have HII := Aside0.mk (fun (W : World) (hb : Below w.heap.size w W) => impl_isIncreasing.calls KI A2 c2 l2 (incFrom l2 1) W (Kd.C_below hr2 hb) hc2 (hKI KI (Nat.le_refl _)))
  have HR0 := Aside0.mk hr0
  have HC0 := Aside0.mk hc0
  have HR2 := Aside0.mk hr2
  have HC2 := Aside0.mk hc2
  have hri : rises l2 0 ((l0.length : Int) - 1) = (l2.all (isIn 0 ((l0.length : Int) - 1)) && incFrom l2 1) := rfl
  rw [hri] at h
  have bad : ∀ {b0 b1 b2 : Bool}, (okUses l0 && isIn 1 6 a1) = b0 → l2.all (isIn 0 ((l0.length : Int) - 1)) = b1 → incFrom l2 1 = b2 → (b0 && (b1 && b2)) = false → r1 = 0 ∧ r2 = false := by
    rintro b0 b1 b2 rfl rfl rfl e
    rw [e, if_neg (by simp)] at h
    obtain ⟨h1, h2⟩ := Prod.mk.inj (Option.some.inj h)
    exact ⟨h1.symm, h2.symm⟩
  clear hr0 hc0 hr2 hc2 hKI hri
  cases hg0 : (okUses l0 && isIn 1 6 a1) with
  | false =>
    obtain ⟨rfl, rfl⟩ := bad hg0 rfl rfl (by simp)
    rw [hg0] at HOP
    clear h bad hg0
    go_enter Try.func17, Try.ntmps17
    go_wp2_with (go_at_call 34; with_reducible refine HOP.out.mono ?_; rintro e w2 ⟨rfl, hb2⟩; have HB := Aside0.mk hb2; clear hb2)
    go_ret2
    exact ⟨rfl, HB.out⟩
  | true =>
  rw [hg0] at HOP
  cases hg1 : l2.all (isIn 0 ((l0.length : Int) - 1)) with
  | false =>
    obtain ⟨rfl, rfl⟩ := bad hg0 hg1 rfl (by simp)
    rw [hg1] at HAI
    clear h bad hg0 hg1
    go_enter Try.func17, Try.ntmps17
    go_wp2_with (first | (go_at_call 34; with_reducible refine HOP.out.mono ?_; rintro e w2 ⟨rfl, hb2⟩; have HB := Aside0.mk hb2; clear hb2) | (go_at_call 39; with_reducible refine (len_calls A0 l0.length c0 _).mono ?_; rintro e w3 ⟨rfl, ⟨nd3, hw3⟩⟩; have HBn := Aside0.mk (below_at hw3.symm HB.out); clear HB; have HB := HBn; clear HBn hw3) | (go_at_call 43; with_reducible refine (HAI.out _ HB.out).mono ?_; rintro e w4 ⟨rfl, hb4⟩; have HBn := Aside0.mk (below_step HB.out hb4); clear HB; have HB := HBn; clear HBn hb4))
    go_ret2
    exact ⟨rfl, HB.out⟩
  | true =>
  rw [hg1] at HAI
  cases hg2 : incFrom l2 1 with
  | false =>
    obtain ⟨rfl, rfl⟩ := bad hg0 hg1 hg2 (by simp)
    rw [hg2] at HII
    clear h bad hg0 hg1 hg2
    go_enter Try.func17, Try.ntmps17
    go_wp2_with (first | (go_at_call 34; with_reducible refine HOP.out.mono ?_; rintro e w2 ⟨rfl, hb2⟩; have HB := Aside0.mk hb2; clear hb2) | (go_at_call 39; with_reducible refine (len_calls A0 l0.length c0 _).mono ?_; rintro e w3 ⟨rfl, ⟨nd3, hw3⟩⟩; have HBn := Aside0.mk (below_at hw3.symm HB.out); clear HB; have HB := HBn; clear HBn hw3) | (go_at_call 43; with_reducible refine (HAI.out _ HB.out).mono ?_; rintro e w4 ⟨rfl, hb4⟩; have HBn := Aside0.mk (below_step HB.out hb4); clear HB; have HB := HBn; clear HBn hb4) | (go_at_call 44; with_reducible refine (HII.out _ HB.out).mono ?_; rintro e w5 ⟨rfl, ⟨nd5, hw5⟩⟩; have HBn := Aside0.mk (below_at hw5.symm HB.out); clear HB; have HB := HBn; clear HBn hw5))
    go_ret2
    exact ⟨rfl, HB.out⟩
  | true =>
    rw [hg2] at HII
    rw [hg0, hg1, hg2, if_pos (show (true && (true && true)) = true from rfl)] at h
    obtain ⟨rfl, rfl⟩ := Prod.mk.inj (Option.some.inj h)
    obtain ⟨hou, _⟩ := Bool.and_eq_true_iff.1 hg0
    obtain ⟨hU, hul⟩ := (okUses_iff l0).1 hou
    obtain ⟨KV, hKV⟩ := ev_intervalsOf l0 (by omega)
    have HIV := Aside0.mk (fun (W : World) (hb : Below w.heap.size w W) => impl_intervalsOf.calls KV A0 c0 l0 (ivs l0) W (Kd.C_below HR0.out hb) HC0.out (hKV KV (Nat.le_refl _)))
    have HVL := Aside0.mk (show (ivs l0).length ≤ 60 from Nat.le_trans (ivsTo_length l0 l0.length) hul)
    clear h bad hg0 hg1 hg2 hou hU hul hKV
    go_enter Try.func17, Try.ntmps17
    go_wp2_with (first | (go_at_call 34; with_reducible refine HOP.out.mono ?_; rintro e w2 ⟨rfl, hb2⟩; have HB := Aside0.mk hb2; clear hb2) | (go_at_call 39; (first | (with_reducible refine (len_calls A0 l0.length c0 _).mono ?_) | (with_reducible refine (len_calls A2 l2.length c2 _).mono ?_)); rintro e w3 ⟨rfl, ⟨nd3, hw3⟩⟩; have HBn := Aside0.mk (below_at hw3.symm HB.out); clear HB; have HB := HBn; clear HBn hw3) | (go_at_call 43; with_reducible refine (HAI.out _ HB.out).mono ?_; rintro e w4 ⟨rfl, hb4⟩; have HBn := Aside0.mk (below_step HB.out hb4); clear HB; have HB := HBn; clear HBn hb4) | (go_at_call 44; with_reducible refine (HII.out _ HB.out).mono ?_; rintro e w5 ⟨rfl, ⟨nd5, hw5⟩⟩; have HBn := Aside0.mk (below_at hw5.symm HB.out); clear HB; have HB := HBn; clear HBn hw5) | (go_at_call 36; with_reducible refine (HIV.out _ HB.out).mono ?_; rintro e w6 ⟨v6, rfl, hv6, hb6⟩; obtain ⟨A6, c6, rfl, hc6, hC6⟩ := Kd.R_reads (Kd.S_R hv6); have HC6 := Aside0.mk hC6; have HBn := Aside0.mk (below_step HB.out hb6); clear HB; have HB := HBn; clear HBn hv6 hb6 hc6 hC6))
    have HBI := Aside0.mk (Below.refl w6.heap.size w6)
    go_loopg [8, 36] (ivs l0).length (fun gg s8 s36 wr => ∃ j : Nat, s36 = .int .i64 j ∧ s8 = .int .i64 (hbTo l0 a1 l2 j) ∧ Aside0 (j ≤ (ivs l0).length ∧ (ivs l0).length - j ≤ gg) ∧ Aside0 (Below w6.heap.size w6 wr))
    case atStart => exact ⟨0, rfl, rfl, ⟨⟨Nat.zero_le _, by omega⟩⟩, ⟨by repeat (first | exact HBI.out | apply pw_below_drewN | apply below_drew1)⟩⟩
    case round =>
      clear HBI
      obtain ⟨j, rfl, rfl, HK, HBJ⟩ := hrel
      by_cases hlt : j < (ivs l0).length
      · have hltz : (j : Int) < ((ivs l0).length : Int) := by omega
        have h0z : (0 : Int) ≤ (j : Int) := by omega
        obtain ⟨ad, Ax, cx, e, hx0, hcx, hCx⟩ := at_L2 HC6.out (j : Int) h0z hltz
        cases e
        simp only [Int.toNat_natCast] at hx0
        have hx := (HBJ.out.cell (World.block_lt_of_cell? _ _ hx0)).trans hx0
        clear hx0
        have hst : hbTo l0 a1 l2 (j + 1) = if l2.any (crossB (rd_L2 (ivs l0) (j : Int))) = true then hbTo l0 a1 l2 j else wrap64 (hbTo l0 a1 l2 j + 1) := rfl
        have h2 : (rd_L2 (ivs l0) (j : Int)).length = 2 := ivs_two h0z hltz
        obtain ⟨X, hX⟩ : ∃ X, X = rd_L2 (ivs l0) (j : Int) := ⟨_, rfl⟩
        rw [← hX] at hx hcx hCx hst h2
        have HST := Aside0.mk hst
        have eg : ∀ args w, (callFunc 46 args).run Try.prog w = .ok (.enter 46 args) w := enters_of Try.func46 (by kernel_rfl) rfl
        have HCF := Aside0.mk (slices_ContainsFunc_i64 46 #[.pointer (some ⟨wr.heap.size, 0, none⟩)] eg (crossB X) A2 c2 l2 (wr.alloc (.cells #[.slice Ax X.length cx] 24))
          (Kd.C_below HR2.out ((below_step HB.out HBJ.out).alloc (below_step HB.out HBJ.out).size _))
          (hitBound_1.pred Ax cx X h2 hcx l2 _ wr.heap.size (by simp) (Kd.C_below hCx (HBJ.out.alloc HBJ.out.size _))))
        have HBA := Aside0.mk (HBJ.out.alloc HBJ.out.size (.cells #[.slice Ax X.length cx] 24))
        obtain ⟨m, hm⟩ : ∃ m, m = X.length := ⟨_, rfl⟩
        rw [← hm] at hx HCF HBA hcx
        cases hq : l2.any (crossB X) with
        | true =>
          rw [hq] at HCF
          have HS2 : Aside0 (hbTo l0 a1 l2 (j + 1) = hbTo l0 a1 l2 j) := ⟨by rw [HST.out, hq, if_pos rfl]⟩
          clear hst HST hq eg h2 hCx hX hm
          go_wp2_with (go_at_call 45; with_reducible refine HCF.out.mono ?_; rintro e w7 ⟨rfl, hb7⟩; have HB7 := Aside0.mk (below_step HBA.out hb7); clear hb7)
          go_roundg ((ivs l0).length - (j + 1))
          case measure => have := HK.out; omega
          case rel => exact ⟨j + 1, by have := HVL.out; rw [wrap64_succ (by omega)], by rw [HS2.out], ⟨by have := HK.out; omega⟩, ⟨by repeat (first | exact HB7.out | apply pw_below_drewN | apply below_drew1)⟩⟩
        | false =>
          rw [hq] at HCF
          have HS2 : Aside0 (hbTo l0 a1 l2 (j + 1) = wrap64 (hbTo l0 a1 l2 j + 1)) := ⟨by rw [HST.out, hq, if_neg (by simp)]⟩
          clear hst HST hq eg h2 hCx hX hm
          go_wp2_with (go_at_call 45; with_reducible refine HCF.out.mono ?_; rintro e w7 ⟨rfl, hb7⟩; have HB7 := Aside0.mk (below_step HBA.out hb7); clear hb7)
          go_roundg ((ivs l0).length - (j + 1))
          case measure => have := HK.out; omega
          case rel => exact ⟨j + 1, by have := HVL.out; rw [wrap64_succ (by omega)], by rw [HS2.out], ⟨by have := HK.out; omega⟩, ⟨by repeat (first | exact HB7.out | apply pw_below_drewN | apply below_drew1)⟩⟩
      · have hltz : ¬ (j : Int) < ((ivs l0).length : Int) := by omega
        have hj2 : j = (ivs l0).length := by have := HK.out; omega
        rw [hj2] at hltz ⊢
        clear hlt hj2
        go_wp2_with (fail)
        go_ret2
        exact ⟨rfl, below_step HB.out HBJ.out⟩
end Go.Proofs.Ytellojkbfnfacaa.Q
