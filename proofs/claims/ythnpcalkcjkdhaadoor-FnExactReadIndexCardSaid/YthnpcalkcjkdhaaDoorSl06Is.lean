/- spec.l06Is answers whether an index, read through a pointer, is valid; no conditions. -/
import Derived.Test.YthnpcalkcjkdhaaDoorQx0
import Derived.Test.YthnpcalkcjkdhaaDoorQx1
import Derived.Test.YthnpcalkcjkdhaaDoorSaddr
import Derived.Test.YthnpcalkcjkdhaaDoorSbase
import Derived.Test.YthnpcalkcjkdhaaDoorSokaddr
import Derived.Test.YthnpcalkcjkdhaaDoorSokrows
namespace Go.Proofs.YthnpcalkcjkdhaaDoor.Q
open Go.RowKit Go.Proofs.YthnpcalkcjkdhaaDoorW.PrintWords Go.Proofs.YthnpcalkcjkdhaaDoorW.PrintLast Go.Proofs.YthnpcalkcjkdhaaDoorW.PrintMore
attribute [local go_sem] max2_int min2_int max_two min_two max_three min_three max_four min_four   -- for this text's walks alone
set_option linter.unusedVariables false
set_option linter.unusedSimpArgs false

set_option maxHeartbeats 2000000 in
set_option maxRecDepth 100000 in
theorem spec_l06Is.calls (g : Nat) (A : Option Addr) (c : Nat) (l : List Int) (w : World) (hg : w.cell? ⟨g, 0, none⟩ = some (.slice A l.length c)) (hr : Kd.C (Kd.int .i64) w A l.length l) :
    Calls Tryd.prog 9 #[.pointer (some ⟨g, 0, none⟩)] w fun e w' => e = .returned (.bool (okRows l)) ∧ Drawn0 w w' := by
  have HR := Aside0.mk hr
  have hn : l.length ≤ 9223372036854775807 := hr.2.1
  clear hr
  go_enter Tryd.func9, Tryd.ntmps9
  go_wp2
  go_loopg [3] l.length (fun gg s3 wr => ∃ kk nd : Nat, s3 = .int .i64 kk ∧ wr = w.drewN nd ∧ Aside0 (kk ≤ l.length ∧ l.length - kk ≤ gg) ∧ Aside0 ((l.take kk).all okAddr = true))
  case atStart => exact ⟨0, 0, rfl, rfl, ⟨⟨Nat.zero_le _, by omega⟩⟩, ⟨rfl⟩⟩
  case round =>
    obtain ⟨kk, nd, rfl, rfl, HK, AB⟩ := hrel
    by_cases hlt : kk < l.length
    · have hltz : (kk : Int) < (l.length : Int) := by omega
      have h0z : (0 : Int) ≤ (kk : Int) := by omega
      obtain ⟨ad, e, hx⟩ := Kd.at_int HR.out (kk : Int) h0z hltz
      cases e
      simp only [Int.toNat_natCast] at hx
      have HT := Aside0.mk (take_succ_rd l kk hlt)
      obtain ⟨y, hy⟩ : ∃ y, y = rd l (kk : Int) := ⟨_, rfl⟩
      rw [← hy] at hx HT
      have HA := Aside0.mk (spec_l02Address_f y)
      have HY := Aside0.mk hy
      clear hy
      cases hq : okAddr y with
      | true =>
        rw [hq] at HA
        have HQ := Aside0.mk hq
        clear hq
        go_wp2_with (go_at_call 16; refine (spec_l02Address.calls y true _ HA.out).mono ?_; rintro e w' ⟨rfl, ⟨nd, rfl⟩⟩)
        go_roundg (l.length - (kk + 1))
        case measure => have := HK.out; omega
        case rel =>
          refine ⟨kk + 1, _, by go_num, by first | rfl | exact World.drewN_drewN .., ⟨by omega⟩, ⟨?_⟩⟩
          rw [HT.out, List.all_append, AB.out]; simp [HQ.out]
      | false =>
        rw [hq] at HA
        have HQ := Aside0.mk hq
        clear hq
        go_wp2_with (go_at_call 16; refine (spec_l02Address.calls y false _ HA.out).mono ?_; rintro e w' ⟨rfl, ⟨nd, rfl⟩⟩)
        go_ret
        refine ⟨ret_bool ?_, by repeat (first | exact Drawn0.refl _ | apply Drawn0.step)⟩
        have hb : okRows l = false := by
          unfold okRows
          rw [Bool.and_eq_false_iff]; left
          rw [List.all_eq_false]
          exact ⟨y, by rw [HY.out, rd_lt l kk hlt]; exact List.getElem_mem hlt, by have := HQ.out; unfold okAddr at this; simp [this]⟩
        exact hb.symm
    · have hltz : ¬ (kk : Int) < (l.length : Int) := by omega
      have hall : (l.all fun n => decide (0 ≤ n) && decide (n ≤ 63)) = true := by
        have h1 := AB.out
        have h2 := HK.out
        rw [List.take_of_length_le (by omega)] at h1
        exact h1
      have HE : Aside0 (okRows l = decide (l.length ≤ 3)) := ⟨by unfold okRows; rw [hall]; simp⟩
      clear hall
      by_cases h3 : l.length ≤ 3
      all_goals
        go_wp2
        go_ret
        refine ⟨ret_bool ?_, by repeat (first | exact Drawn0.refl _ | apply Drawn0.step)⟩
        rw [HE.out]
        first | rfl | (simp [h3]; done) | (simp; omega)
end Go.Proofs.YthnpcalkcjkdhaaDoor.Q
