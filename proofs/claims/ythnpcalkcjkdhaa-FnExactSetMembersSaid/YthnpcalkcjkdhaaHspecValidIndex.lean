/- spec.ValidIndex answers whether an index is valid; no conditions. -/
import Derived.Test.YthnpcalkcjkdhaaQx0
import Derived.Test.YthnpcalkcjkdhaaSl06Is
namespace Go.Proofs.Ythnpcalkcjkdhaa.Q
open Go.RowKit Go.Proofs.YthnpcalkcjkdhaaW.PrintWords Go.Proofs.YthnpcalkcjkdhaaW.PrintLast Go.Proofs.YthnpcalkcjkdhaaW.PrintMore
attribute [local go_sem] max2_int min2_int max_two min_two max_three min_three max_four min_four   -- for this text's walks alone
set_option linter.unusedVariables false
set_option linter.unusedSimpArgs false

def spec_ValidIndex.f (l0_0 : List Int) : Option Bool := some (okRows l0_0)
set_option maxHeartbeats 2000000 in
theorem spec_ValidIndex.calls (A0_0 : Option Addr) (c0_0 : Nat) (l0_0 : List Int) (r : Bool) (w : World) (hr0_0 : Kd.C (Kd.int .i64) w A0_0 l0_0.length l0_0) (hc0_0 : l0_0.length ≤ c0_0) (h : spec_ValidIndex.f l0_0 = some r) :
    Calls Try.prog 15 #[.agg #[.slice A0_0 l0_0.length c0_0]] w fun e w' => e = .returned (.bool r) ∧ Below w.heap.size w w' := by
  obtain rfl : okRows l0_0 = r := Option.some.inj h
  clear h
  have hb : Below w.heap.size w (w.alloc (.cells #[.slice A0_0 l0_0.length c0_0] 27)) := (Below.refl w.heap.size w).alloc (Nat.le_refl _) _
  have HC := Aside0.mk (spec_l06Is.calls w.heap.size A0_0 c0_0 l0_0 (w.alloc (.cells #[.slice A0_0 l0_0.length c0_0] 27)) (by simp) (Kd.C_below hr0_0 hb))
  have HB := Aside0.mk hb
  clear hr0_0 hc0_0 hb
  generalize okRows l0_0 = q at HC ⊢
  go_enter Try.func15, Try.ntmps15
  go_wp2_with (go_at_call 52; refine HC.out.mono ?_; rintro e w' ⟨rfl, hd⟩; have HB1 := Aside0.mk (below_step HB.out hd.below); clear hd)
  go_ret
  exact ⟨rfl, HB1.out⟩
end Go.Proofs.Ythnpcalkcjkdhaa.Q
