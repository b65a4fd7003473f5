/- impl.isOrderOf answers whether a list holds the numbers below n, each once; the list is short enough for memory. -/
import Derived.Test.YthaipkhgemachaaGreatDoorQx0
import Derived.Test.YthaipkhgemachaaGreatDoorQx2
import Derived.Test.YthaipkhgemachaaGreatDoorSlawptmem
import Derived.Test.YthaipkhgemachaaGreatDoorSbase
import Derived.Test.YthaipkhgemachaaGreatDoorSupto
import Derived.Test.YthaipkhgemachaaGreatDoorSseqi64
namespace Go.Proofs.YthaipkhgemachaaGreatDoor.Q
open Go.RowKit Go.Proofs.YthaipkhgemachaaGreatDoorW.PrintWords Go.Proofs.YthaipkhgemachaaGreatDoorW.PrintLast Go.Proofs.YthaipkhgemachaaGreatDoorW.PrintMore
attribute [local go_sem] max2_int min2_int max_two min_two max_three min_three max_four min_four   -- for this text's walks alone
set_option linter.unusedVariables false
set_option linter.unusedSimpArgs false

def impl_isOrderOf.f (l0 : List Int) (a1 : Int) : Option Bool := if (l0.length : Int) = a1 then (if l0.length ≤ 1000000 then some (decide (sortL l0 = upto (fun j => (j : Int)) l0.length)) else none) else some false
theorem ev_slices_Equal (a b : List Int) (h : a.length ≤ 35184372088832) : Ev (fun k => slices_Equal_int64_int64.f k a b) (decide (a = b)) := by
  unfold slices_Equal_int64_int64.f
  by_cases hl : (a.length : Int) = (b.length : Int)
  · refine Ev.ite_pos hl ?_
    have key := Ev.down (fun i k => slices_Equal_int64_int64.l0 k a b (a.length : Int) (i : Int)) a.length (fun i => decide (a.drop i = b.drop i)) ?_ ?_ 0 (Nat.zero_le _)
    · exact Ev.eq key (by simp)
    · apply Ev.succ
      simp only [slices_Equal_int64_int64.l0]
      refine Ev.ite_neg (by omega) (Ev.eq (Ev.now _) ?_)
      rw [List.drop_of_length_le (Nat.le_refl _), List.drop_of_length_le (by omega)]; simp
    · intro i hi ih
      apply Ev.succ
      simp only [slices_Equal_int64_int64.l0]
      refine Ev.ite_pos (by omega) (Ev.ite_pos (by omega) (Ev.ite_pos (by omega) (Ev.ite_pos (by omega) ?_)))
      rw [drop_rd a i hi, drop_rd b i (by omega)]
      by_cases hx : rd a (i : Int) = rd b (i : Int)
      · refine Ev.ite_pos hx ?_
        rw [wrap64_succ (by omega)]
        exact Ev.eq ih (by simp [hx])
      · exact Ev.ite_neg hx (Ev.eq (Ev.now _) (by simp [hx]))
  · refine Ev.ite_neg hl (Ev.eq (Ev.now _) ?_)
    have : ¬ a = b := fun e => hl (by rw [e])
    simp [this]
set_option maxHeartbeats 4000000 in
set_option maxRecDepth 100000 in
theorem impl_isOrderOf.calls (A0 : Option Addr) (c0 : Nat) (l0 : List Int) (a1 : Int) (r : Bool) (w : World) (hr0 : Kd.C (Kd.int .i64) w A0 l0.length l0) (hc0 : l0.length ≤ c0) (h : impl_isOrderOf.f l0 a1 = some r) :
    Calls Tryz.prog 38 #[.slice A0 l0.length c0, .int .i64 a1] w fun e w' => e = .returned (.bool r) ∧ Below w.heap.size w w' := by
  unfold impl_isOrderOf.f at h
  have HL := Aside0.mk (fun (W : World) (hr : Kd.C (Kd.int .i64) W A0 l0.length l0) => impl_length_int64.calls A0 c0 l0 (l0.length : Int) W hr hc0 rfl)
  have HR0 := Aside0.mk hr0
  have HB := Aside0.mk (Below.refl w.heap.size w)
  by_cases hn : (l0.length : Int) = a1
  · rw [if_pos hn] at h
    by_cases hle : l0.length ≤ 1000000
    · rw [if_pos hle] at h
      obtain rfl := Option.some.inj h
      clear h
      obtain ⟨K, hK⟩ := ev_ascending l0.length hle
      have HA := Aside0.mk (fun (W : World) => impl_ascending.calls K (l0.length : Int) _ W (hK K (Nat.le_refl _)))
      obtain ⟨K2, hK2⟩ := ev_slices_Equal (sortL l0) (upto (fun j => (j : Int)) l0.length) (by unfold sortL; rw [List.length_mergeSort]; omega)
      have hsl : (sortL l0).length = l0.length := List.length_mergeSort _
      have hul := upto_length (fun j => (j : Int)) l0.length
      have HS := Aside0.mk (fun (W : World) (hb : Below w.heap.size w W) => sorted_calls W.heap.size A0 c0 l0 (by omega) (W.alloc (.cells #[.slice A0 l0.length c0] 25)) (by simp) (Kd.C_below hr0 (hb.alloc hb.size _)))
      have HE := Aside0.mk (fun (v v2 : Value) (b : Nat) (W W2 : World) (hv : W.ownsRow b 2 1 v (sortL l0).length ((sortL l0).map (Value.int .i64))) (hv2 : Kd.R (Kd.int .i64) 2 W2 W.heap.size (fun _ => True) v2 (upto (fun j => (j : Int)) l0.length)) (hb : Below W.heap.size W W2) =>
        show Calls Tryz.prog 52 #[v, v2] W2 fun e w' => e = .returned (.bool (decide (sortL l0 = upto (fun j => (j : Int)) l0.length))) ∧ Drawn0 W2 w' from by
          obtain ⟨A, c, rfl, h1, h2⟩ := C_of_own (n := 0) hv
          obtain ⟨A2, c2, rfl, h3, h4⟩ := Kd.R_reads hv2
          exact slices_Equal_int64_int64.calls K2 A c _ A2 c2 _ _ W2 (Kd.C_below h2 hb) h1 h4 h3 (hK2 K2 (Nat.le_refl _)))
      clear hr0 hc0 hK hK2 hle hsl hul
      subst hn
      generalize decide (sortL l0 = upto (fun j => (j : Int)) l0.length) = q at HE ⊢
      go_enter Tryz.func38, Tryz.ntmps38
      go_wp2_with (first
        | (go_at_call 35; refine (HL.out _ (Kd.C_below HR0.out (by repeat (first | (with_reducible first | exact HB.out | apply below_alloc | apply pw_below_drewN | apply below_drew1) | exact HB.out)))).mono ?_; rintro e w' ⟨rfl, ⟨nd, rfl⟩⟩)
        | (go_at_call 54; refine (values_calls A0 l0.length c0 _).mono ?_; rintro e w' ⟨rfl, rfl⟩)
        | (go_at_call 53; refine (HS.out _ (by repeat (first | (with_reducible first | exact HB.out | apply below_alloc | apply pw_below_drewN | apply below_drew1) | exact HB.out))).mono ?_; rintro e w3 ⟨v, rfl, hv, hb⟩; have HV := Aside0.mk hv; have HBn := Aside0.mk (below_step (by repeat (first | (with_reducible first | exact HB.out | apply below_alloc | apply pw_below_drewN | apply below_drew1) | exact HB.out)) hb); clear HB; have HB := HBn; clear HBn hv hb)
        | (go_at_call 33; refine (HA.out _).mono ?_; rintro e w4 ⟨v2, rfl, hv2, hb2⟩; have HQ := Aside0.mk (HE.out v v2 _ _ w4 HV.out hv2 hb2); have HBn := Aside0.mk (below_step (by repeat (first | (with_reducible first | exact HB.out | apply below_alloc | apply pw_below_drewN | apply below_drew1) | exact HB.out)) hb2); clear HB; have HB := HBn; clear HBn hv2 hb2)
        | (go_at_call 52; refine HQ.out.mono ?_; rintro e w' ⟨rfl, ⟨nd, rfl⟩⟩))
      go_ret
      exact ⟨rfl, (by repeat (first | (with_reducible first | exact HB.out | apply below_alloc | apply pw_below_drewN | apply below_drew1) | exact HB.out))⟩
    · rw [if_neg hle] at h; cases h
  · rw [if_neg hn] at h
    obtain rfl := Option.some.inj h
    have hd : decide ((l0.length : Int) = a1) = false := decide_eq_false hn
    clear h hr0 hc0
    go_enter Tryz.func38, Tryz.ntmps38
    go_wp2_with (go_at_call 35; refine (HL.out _ (Kd.C_below HR0.out (by repeat (first | (with_reducible first | exact HB.out | apply below_alloc | apply pw_below_drewN | apply below_drew1) | exact HB.out)))).mono ?_; rintro e w' ⟨rfl, ⟨nd, rfl⟩⟩)
    go_ret
    exact ⟨rfl, (by repeat (first | (with_reducible first | exact HB.out | apply below_alloc | apply pw_below_drewN | apply below_drew1) | exact HB.out))⟩
end Go.Proofs.YthaipkhgemachaaGreatDoor.Q
