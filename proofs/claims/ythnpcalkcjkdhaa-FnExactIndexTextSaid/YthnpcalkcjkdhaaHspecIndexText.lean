/- spec.IndexText answers the text of an index; no conditions. -/
import Derived.Test.YthnpcalkcjkdhaaQx0
import Derived.Test.YthnpcalkcjkdhaaSl06Is
import Derived.Test.YthnpcalkcjkdhaaSl06Text
import Derived.Test.YthnpcalkcjkdhaaSokrows
namespace Go.Proofs.Ythnpcalkcjkdhaa.Q
open Go.RowKit Go.Proofs.YthnpcalkcjkdhaaW.PrintWords Go.Proofs.YthnpcalkcjkdhaaW.PrintLast Go.Proofs.YthnpcalkcjkdhaaW.PrintMore
attribute [local go_sem] max2_int min2_int max_two min_two max_three min_three max_four min_four   -- for this text's walks alone
set_option linter.unusedVariables false
set_option linter.unusedSimpArgs false

def spec_IndexText.f (l0_0 : List Int) : Option (ByteArray × Bool) := if okRows l0_0 = true then some (txtTo l0_0 l0_0.length, true) else some ((⟨#[]⟩ : ByteArray), false)
set_option maxHeartbeats 4000000 in
set_option maxRecDepth 100000 in
theorem spec_IndexText.calls (A0_0 : Option Addr) (c0_0 : Nat) (l0_0 : List Int) (r1 : ByteArray) (r2 : Bool) (w : World) (hr0_0 : Kd.C (Kd.int .i64) w A0_0 l0_0.length l0_0) (hc0_0 : l0_0.length ≤ c0_0) (h : spec_IndexText.f l0_0 = some (r1, r2)) :
    Calls Try.prog 36 #[.agg #[.slice A0_0 l0_0.length c0_0]] w fun e w' => e = .returned (.tuple #[.string r1, .bool r2]) ∧ Below w.heap.size w w' := by
  unfold spec_IndexText.f at h
  have hb : Below w.heap.size w (w.alloc (.cells #[.slice A0_0 l0_0.length c0_0] 27)) := (Below.refl w.heap.size w).alloc (Nat.le_refl _) _
  have HS := Aside0.mk (spec_l06Is.calls w.heap.size A0_0 c0_0 l0_0 (w.alloc (.cells #[.slice A0_0 l0_0.length c0_0] 27)) (by simp) (Kd.C_below hr0_0 hb))
  have HB := Aside0.mk hb
  have HR0 := Aside0.mk (Kd.C_below hr0_0 hb)
  clear hb hr0_0 hc0_0
  cases hg0 : okRows l0_0 with
  | false =>
    rw [hg0] at HS
    rw [hg0, if_neg (by simp)] at h
    obtain ⟨rfl, rfl⟩ := Prod.mk.inj (Option.some.inj h)
    clear h hg0
    go_enter Try.func36, Try.ntmps36
    go_wp2_with (first | (go_at_call 52; refine HS.out.mono ?_; rintro e w' ⟨rfl, ⟨nd, rfl⟩⟩))
    go_ret2
    exact ⟨rfl, (by repeat (first | (with_reducible first | exact HB.out | apply below_alloc | apply pw_below_drewN | apply below_drew1) | exact HB.out))⟩
  | true =>
    rw [hg0] at HS
    rw [hg0, if_pos rfl] at h
    obtain ⟨rfl, rfl⟩ := Prod.mk.inj (Option.some.inj h)
    obtain ⟨_, hl⟩ := (okRows_iff l0_0).1 hg0
    have HT := Aside0.mk (fun (m : Nat) => spec_l06Text.calls w.heap.size A0_0 c0_0 l0_0 ((w.alloc (.cells #[.slice A0_0 l0_0.length c0_0] 27)).drewN m) (by simp) (Kd.C_drewN HR0.out m) hl)
    clear h hg0 hl
    go_enter Try.func36, Try.ntmps36
    go_wp2_with (first | (go_at_call 52; refine HS.out.mono ?_; rintro e w' ⟨rfl, ⟨nd, rfl⟩⟩) | (go_at_call 76; with_reducible refine (HT.out _).mono ?_; rintro e w' ⟨rfl, ⟨nd2, rfl⟩⟩))
    go_ret2
    exact ⟨rfl, (by repeat (first | (with_reducible first | exact HB.out | apply below_alloc | apply pw_below_drewN | apply below_drew1) | exact HB.out))⟩
end Go.Proofs.Ythnpcalkcjkdhaa.Q
