/- spec.PolicyText answers the text of a policy; its lists are short enough. -/
import Derived.Test.YthaipkhgemachaaQx0
import Derived.Test.YthaipkhgemachaaSdigits
import Derived.Test.YthaipkhgemachaaSl03Is
import Derived.Test.YthaipkhgemachaaSl03Text
import Derived.Test.YthaipkhgemachaaSsortl
namespace Go.Proofs.Ythaipkhgemachaa.Q
open Go.RowKit Go.Proofs.YthaipkhgemachaaW.PrintWords Go.Proofs.YthaipkhgemachaaW.PrintLast Go.Proofs.YthaipkhgemachaaW.PrintMore
attribute [local go_sem] max2_int min2_int max_two min_two max_three min_three max_four min_four   -- for this text's walks alone
set_option linter.unusedVariables false
set_option linter.unusedSimpArgs false

def okDigs (H : List (List Int)) (M : List Int) : Bool := isDig M && (H.all isDig && decide (H.length ≤ 6))
def spec_PolicyText.f (l0_0 : List (List Int)) (l0_1 : List Int) : Option (ByteArray × Bool) := if shortPol l0_0 l0_1 = true then (if okPol l0_0 l0_1 = true then (if okDigs l0_0 l0_1 = true then some (polTxt l0_0 l0_1, true) else none) else some ((⟨#[]⟩ : ByteArray), false)) else none
set_option maxHeartbeats 4000000 in
set_option maxRecDepth 100000 in
theorem spec_PolicyText.calls (A0_0 : Option Addr) (c0_0 : Nat) (l0_0 : List (List Int)) (A0_1 : Option Addr) (c0_1 : Nat) (l0_1 : List Int) (r1 : ByteArray) (r2 : Bool) (w : World) (hr0_0 : Kd.C (Kd.slice 2 (Kd.int .i64)) w A0_0 l0_0.length l0_0) (hc0_0 : l0_0.length ≤ c0_0) (hr0_1 : Kd.C (Kd.int .i64) w A0_1 l0_1.length l0_1) (hc0_1 : l0_1.length ≤ c0_1) (h : spec_PolicyText.f l0_0 l0_1 = some (r1, r2)) :
    Calls Try.prog 17 #[.agg #[.slice A0_0 l0_0.length c0_0, .slice A0_1 l0_1.length c0_1]] w fun e w' => e = .returned (.tuple #[.string r1, .bool r2]) ∧ Below w.heap.size w w' := by
  unfold spec_PolicyText.f at h
  by_cases hs : shortPol l0_0 l0_1 = true
  case neg => rw [if_neg hs] at h; cases h
  rw [if_pos hs] at h
  have hb : Below w.heap.size w (w.alloc (.cells #[.slice A0_0 l0_0.length c0_0, .slice A0_1 l0_1.length c0_1] 30)) := (Below.refl w.heap.size w).alloc (Nat.le_refl _) _
  have HS := Aside0.mk (spec_l03Is.calls w.heap.size 0 A0_0 c0_0 l0_0 A0_1 c0_1 l0_1 (w.alloc (.cells #[.slice A0_0 l0_0.length c0_0, .slice A0_1 l0_1.length c0_1] 30)) (by simp) (by simp) (Kd.C_below hr0_0 hb) hc0_0 (Kd.C_below hr0_1 hb) hc0_1 hs)
  have HB := Aside0.mk hb
  have HR0 := Aside0.mk (Kd.C_below hr0_0 hb)
  have HR1 := Aside0.mk (Kd.C_below hr0_1 hb)
  have HC0 := Aside0.mk hc0_0
  have HC1 := Aside0.mk hc0_1
  clear hb hr0_0 hc0_0 hr0_1 hc0_1 hs
  cases hg0 : okPol l0_0 l0_1 with
  | false =>
    rw [hg0] at HS
    rw [hg0, if_neg (by simp)] at h
    obtain ⟨rfl, rfl⟩ := Prod.mk.inj (Option.some.inj h)
    clear h hg0
    go_enter Try.func17, Try.ntmps17
    go_wp2_with (first | (go_at_call 21; refine HS.out.mono ?_; rintro e w' ⟨rfl, ⟨nd, rfl⟩⟩))
    go_ret2
    exact ⟨rfl, (by repeat (first | (with_reducible first | exact HB.out | apply below_alloc | apply pw_below_drewN | apply below_drew1) | exact HB.out))⟩
  | true =>
    rw [hg0] at HS
    rw [hg0, if_pos rfl] at h
    by_cases hd : okDigs l0_0 l0_1 = true
    case neg => rw [if_neg hd] at h; cases h
    rw [if_pos hd] at h
    obtain ⟨rfl, rfl⟩ := Prod.mk.inj (Option.some.inj h)
    obtain ⟨hd1, hd2⟩ := Bool.and_eq_true_iff.1 hd
    obtain ⟨hd2, hd3⟩ := Bool.and_eq_true_iff.1 hd2
    have HT := Aside0.mk (fun (m : Nat) => spec_l03Text.calls w.heap.size 0 A0_0 c0_0 l0_0 A0_1 c0_1 l0_1 ((w.alloc (.cells #[.slice A0_0 l0_0.length c0_0, .slice A0_1 l0_1.length c0_1] 30)).drewN m) (by simp) (by simp) (Kd.C_drewN HR0.out m) HC0.out (Kd.C_drewN HR1.out m) HC1.out (of_decide_eq_true hd3) (fun y hy => List.all_eq_true.1 hd2 y hy) hd1)
    clear h hg0 hd hd1 hd2 hd3
    go_enter Try.func17, Try.ntmps17
    go_wp2_with (first | (go_at_call 21; refine HS.out.mono ?_; rintro e w' ⟨rfl, ⟨nd, rfl⟩⟩) | (go_at_call 27; with_reducible refine (HT.out _).mono ?_; rintro e w' ⟨rfl, hb2⟩; have HB2 := Aside0.mk (below_step (pw_below_drewN HB.out _) hb2); clear hb2))
    go_ret2
    exact ⟨rfl, HB2.out⟩
end Go.Proofs.Ythaipkhgemachaa.Q
