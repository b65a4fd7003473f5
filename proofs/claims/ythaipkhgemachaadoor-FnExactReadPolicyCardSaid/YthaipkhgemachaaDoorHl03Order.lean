/- spec.l03Order answers whether a list holds the numbers below n, each once; the list is short enough. -/
import Derived.Test.YthaipkhgemachaaDoorQx0
import Derived.Test.YthaipkhgemachaaDoorQx1
import Derived.Test.YthaipkhgemachaaDoorSbase
import Derived.Test.YthaipkhgemachaaDoorShas
import Derived.Test.YthaipkhgemachaaDoorSokord
import Derived.Test.YthaipkhgemachaaDoorSsortl
namespace Go.Proofs.YthaipkhgemachaaDoor.Q
open Go.RowKit Go.Proofs.YthaipkhgemachaaDoorW.PrintWords Go.Proofs.YthaipkhgemachaaDoorW.PrintLast Go.Proofs.YthaipkhgemachaaDoorW.PrintMore
attribute [local go_sem] max2_int min2_int max_two min_two max_three min_three max_four min_four   -- for this text's walks alone
set_option linter.unusedVariables false
set_option linter.unusedSimpArgs false

def spec_l03Order.f (l0 : List Int) (a1 : Int) : Option Bool := if 0 ≤ a1 ∧ a1 ≤ 1000 then (if l0.length ≤ 1000000000 then some (okOrd a1.toNat l0) else none) else none
set_option maxHeartbeats 8000000 in
set_option maxRecDepth 100000 in
theorem spec_l03Order.calls (A0 : Option Addr) (c0 : Nat) (l0 : List Int) (a1 : Int) (r : Bool) (w : World) (hr0 : Kd.C (Kd.int .i64) w A0 l0.length l0) (hc0 : l0.length ≤ c0) (h : spec_l03Order.f l0 a1 = some r) :
    Calls Tryd.prog 33 #[.slice A0 l0.length c0, .int .i64 a1] w fun e w' => e = .returned (.bool r) ∧ Drawn0 w w' := by
  unfold spec_l03Order.f at h
  by_cases ha : 0 ≤ a1 ∧ a1 ≤ 1000
  case neg => rw [if_neg ha] at h; cases h
  rw [if_pos ha] at h
  by_cases hl : l0.length ≤ 1000000000
  case neg => rw [if_neg hl] at h; cases h
  rw [if_pos hl] at h
  obtain rfl := Option.some.inj h
  obtain ⟨n, rfl⟩ : ∃ n : Nat, a1 = (n : Int) := ⟨a1.toNat, by omega⟩
  rw [Int.toNat_natCast]
  clear h
  have HR := Aside0.mk hr0
  have HC := Aside0.mk hc0
  have HLL := Aside0.mk hl
  have hn : n ≤ 1000 := by omega
  obtain ⟨i0, hi0, _, hsz0, _⟩ := info_parts info2
  clear hr0 hc0 ha
  go_enter Tryd.func33, Tryd.ntmps33
  go_wp2_with (fail)
  go_loopg [5] l0.length (fun gg s5 wr => ∃ kk nd : Nat, s5 = .int .i64 kk ∧ wr = w.drewN nd ∧ Aside0 (kk ≤ l0.length ∧ l0.length - kk ≤ gg) ∧ Aside0 (∀ i : Nat, i < kk → (0 ≤ rd l0 (i : Int) ∧ rd l0 (i : Int) < (n : Int)) ∧ ¬ rd l0 (i : Int) ∈ l0.take i))
  case atStart => exact ⟨0, 0, rfl, rfl, ⟨⟨Nat.zero_le _, by omega⟩⟩, ⟨fun i hi => absurd hi (Nat.not_lt_zero _)⟩⟩
  case round =>
    obtain ⟨kk, nd, rfl, rfl, HK, AB⟩ := hrel
    by_cases hlt : kk < l0.length
    · have hltz : (kk : Int) < (l0.length : Int) := by omega
      have h0z : (0 : Int) ≤ (kk : Int) := by omega
      have hlez : (kk : Int) ≤ (l0.length : Int) := by omega
      obtain ⟨ad, e, hx⟩ := Kd.at_int HR.out (kk : Int) h0z hltz
      cases e
      simp only [Int.toNat_natCast] at hx
      obtain ⟨hcut1, hA1, hC1⟩ := print_take_of (P := Tryd.prog) (Value.int .i64) 0 23 2 .i64 Tryd.underlying23 hi0 hsz0 (some ad) c0 l0 (kk : Int) h0z hlez HC.out
      have HRT := Aside0.mk (Kd.C_of_reads (h1 := fun _ => rfl) (hA1 _ (Kd.reads_of_C HR.out)))
      have ht1 : (l0.take (kk : Int).toNat) = l0.take kk := by rw [Int.toNat_natCast]
      rw [ht1] at hcut1 HRT hC1
      have htl1 : (l0.take kk).length = kk := by rw [List.length_take]; omega
      obtain ⟨kH, eH⟩ := ev_l00Has (l0.take kk) (rd l0 (kk : Int)) (by omega)
      have HTH := Aside0.mk (fun (m : Nat) => spec_l00Has.calls kH (some ad) c0 (l0.take kk) (rd l0 (kk : Int)) _ (w.drewN m) (Kd.C_drewN HRT.out m) hC1 (eH kH (Nat.le_refl _)))
      rw [htl1] at hcut1 HTH
      have hws : IntKind.i64.wrap ((n : Int) - 1) = (n : Int) - 1 := by rw [IntKind.wrap_i64]; omega
      have hin : spec_l00In.f (rd l0 (kk : Int)) 0 ((n : Int) - 1) = some (decide (0 ≤ rd l0 (kk : Int) ∧ rd l0 (kk : Int) < (n : Int))) := by
        unfold spec_l00In.f
        by_cases h0 : rd l0 (kk : Int) ≥ 0
        · rw [if_pos h0]
          congr 1
          rw [Bool.eq_iff_iff, decide_eq_true_iff, decide_eq_true_iff]; omega
        · rw [if_neg h0]
          congr 1
          rw [eq_comm, decide_eq_false_iff_not]; omega
      have HIN := Aside0.mk hin
      have HST := Aside0.mk (fun (q : okOrd n l0 = true) => okOrd_step n l0 kk hlt q)
      have hkn := HLL.out
      obtain ⟨y, hy⟩ : ∃ y, y = rd l0 (kk : Int) := ⟨_, rfl⟩
      rw [← hy] at hx HTH HIN HST
      have HY := Aside0.mk hy
      clear hA1 ht1 htl1 eH hin hy
      cases hq : decide (0 ≤ y ∧ y < (n : Int)) with
      | false =>
        rw [hq] at HIN
        have hno : okOrd n l0 = false := Bool.eq_false_iff.2 fun q => (of_decide_eq_false hq) (HST.out q).1
        have HNO := Aside0.mk hno
        clear hq hno HST
        go_wp2_with (fail)
        go_quiet (first | (go_at_call 48; with_reducible refine (spec_l00In.calls y 0 ((n : Int) - 1) false _ HIN.out).mono ?_; rintro e w' ⟨rfl, ⟨nd, rfl⟩⟩; (try first | exact ⟨rfl, _, World.drewN_drewN _ _ _⟩ | exact ⟨rfl, _, Eq.trans (World.drewN_drewN _ _ _) (congrArg (World.drewN _) (Nat.add_assoc _ _ _))⟩)))
        go_wp2_with (fail)
        go_ret
        exact ⟨ret_bool HNO.out.symm, ⟨_, World.drewN_drewN _ _ _⟩⟩
      | true =>
        rw [hq] at HIN
        cases hm : decide (y ∈ l0.take kk) with
        | true =>
          rw [hm] at HTH
          have hno : okOrd n l0 = false := Bool.eq_false_iff.2 fun q => (HST.out q).2 (of_decide_eq_true hm)
          have HNO := Aside0.mk hno
          clear hq hno HST hm
          go_wp2_with (fail)
          go_quiet (first | (go_at_call 48; with_reducible refine (spec_l00In.calls y 0 ((n : Int) - 1) true _ HIN.out).mono ?_; rintro e w' ⟨rfl, ⟨nd, rfl⟩⟩; (try first | exact ⟨rfl, _, World.drewN_drewN _ _ _⟩ | exact ⟨rfl, _, Eq.trans (World.drewN_drewN _ _ _) (congrArg (World.drewN _) (Nat.add_assoc _ _ _))⟩)) | (go_at_call 49; with_reducible refine (HTH.out _).mono ?_; rintro e w' ⟨rfl, ⟨nd, rfl⟩⟩; (try first | exact ⟨rfl, _, World.drewN_drewN _ _ _⟩ | exact ⟨rfl, _, Eq.trans (World.drewN_drewN _ _ _) (congrArg (World.drewN _) (Nat.add_assoc _ _ _))⟩)))
          go_wp2_with (fail)
          go_ret
          exact ⟨ret_bool HNO.out.symm, ⟨_, World.drewN_drewN _ _ _⟩⟩
        | false =>
          rw [hm] at HTH
          have HQ := Aside0.mk (And.intro (of_decide_eq_true hq) (of_decide_eq_false hm))
          clear hq hm HST
          go_wp2_with (fail)
          go_quiet (first | (go_at_call 48; with_reducible refine (spec_l00In.calls y 0 ((n : Int) - 1) true _ HIN.out).mono ?_; rintro e w' ⟨rfl, ⟨nd, rfl⟩⟩; (try first | exact ⟨rfl, _, World.drewN_drewN _ _ _⟩ | exact ⟨rfl, _, Eq.trans (World.drewN_drewN _ _ _) (congrArg (World.drewN _) (Nat.add_assoc _ _ _))⟩)) | (go_at_call 49; with_reducible refine (HTH.out _).mono ?_; rintro e w' ⟨rfl, ⟨nd, rfl⟩⟩; (try first | exact ⟨rfl, _, World.drewN_drewN _ _ _⟩ | exact ⟨rfl, _, Eq.trans (World.drewN_drewN _ _ _) (congrArg (World.drewN _) (Nat.add_assoc _ _ _))⟩)))
          go_wp2_with (fail)
          go_roundg (l0.length - (kk + 1))
          case measure => have := HK.out; omega
          case rel =>
            refine ⟨kk + 1, _, by go_num, rfl, ⟨by have := HK.out; omega⟩, ⟨fun i hi => ?_⟩⟩
            by_cases e : i = kk
            · subst e; rw [← HY.out]; exact HQ.out
            · exact AB.out i (by omega)
    · have hltz : ¬ (kk : Int) < (l0.length : Int) := by omega
      have hke : kk = l0.length := by have := HK.out.1; omega
      have hall := okOrd_all n l0 (fun i hi => AB.out i (by omega))
      have HAL := Aside0.mk hall
      clear hall hke
      by_cases hln : l0.length = n
      · have hlb : ((l0.length : Int) == (n : Int)) = true := beq_iff_eq.mpr (by omega)
        go_wp2_with (fail)
        go_ret
        exact ⟨ret_bool (by rw [HAL.out]; simp [hln]), ⟨_, rfl⟩⟩
      · have hlb : ((l0.length : Int) == (n : Int)) = false := beq_eq_false_iff_ne.mpr (by omega)
        go_wp2_with (fail)
        go_ret
        exact ⟨ret_bool (by rw [HAL.out]; simp [hln]), ⟨_, rfl⟩⟩
end Go.Proofs.YthaipkhgemachaaDoor.Q
