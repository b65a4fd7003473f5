/- impl.ValidTrace answers whether a list is a trace; no conditions. -/
import Derived.Test.YteobbgofbedgdaaQx0
import Derived.Test.YteobbgofbedgdaaSbase
import Derived.Test.YteobbgofbedgdaaSidxaccess
namespace Go.Proofs.Yteobbgofbedgdaa.Q
open Go.RowKit Go.Proofs.YteobbgofbedgdaaW.PrintWords Go.Proofs.YteobbgofbedgdaaW.PrintLast Go.Proofs.YteobbgofbedgdaaW.PrintMore
attribute [local go_sem] max2_int min2_int max_two min_two max_three min_three max_four min_four   -- for this text's walks alone
set_option linter.unusedVariables false
set_option linter.unusedSimpArgs false

def okAcc (x : S60) : Bool := (decide (0 ≤ x.f0) && decide (x.f0 ≤ 1)) && (decide (0 ≤ x.f1) && decide (x.f1 ≤ 63))
def okTrace (l : List S60) : Bool := decide (l.length ≤ 60) && l.all okAcc
def impl_ValidTrace.f (l0 : List S60) : Option Bool := some (okTrace l0)
theorem ValidTrace_1.pred (l : List S60) (w : World) : PredAccess 95 #[] l (fun x => !(okAcc x)) w := fun W x hb _ => by
  clear hb
  show Calls Try.prog 95 #[.agg #[.int .i64 x.f0, .int .i64 x.f1]] W _
  obtain ⟨a, b⟩ := x
  unfold okAcc
  by_cases c1 : 0 ≤ a <;> by_cases c2 : a ≤ 1 <;> by_cases c3 : 0 ≤ b <;> by_cases c4 : b ≤ 63
  all_goals try (exfalso; omega)
  all_goals
    go_enter Try.func95, Try.ntmps95
    go_wp2
    go_ret
    exact ⟨ret_bool (by simp [c1, c2, c3, c4]), by repeat (first | exact Below.refl _ _ | apply below_alloc | apply Below.drew)⟩
set_option maxHeartbeats 2000000 in
theorem impl_ValidTrace.calls (A0 : Option Addr) (c0 : Nat) (l0 : List S60) (r : Bool) (w : World) (hr0 : Kd.C k60 w A0 l0.length l0) (hc0 : l0.length ≤ c0) (h : impl_ValidTrace.f l0 = some r) :
    Calls Try.prog 46 #[.slice A0 l0.length c0] w fun e w' => e = .returned (.bool r) ∧ Below w.heap.size w w' := by
  obtain rfl : okTrace l0 = r := Option.some.inj h
  clear h
  have eg : ∀ args w, (callFunc 95 args).run Try.prog w = .ok (.enter 95 args) w := enters_of Try.func95 (by kernel_rfl) rfl
  have HC := Aside0.mk (slices_ContainsFunc_access 95 #[] eg (fun x => !(okAcc x)) A0 c0 l0 w hr0 (ValidTrace_1.pred l0 w))
  have e : okTrace l0 = (decide (l0.length ≤ 60) && !(l0.any fun x => !(okAcc x))) := by
    unfold okTrace
    rw [List.not_any_eq_all_not]; simp
  rw [e]
  clear hr0 hc0 eg e
  generalize (l0.any fun x => !(okAcc x)) = q at HC ⊢
  by_cases h : (l0.length : Int) ≤ 60
  · have hd : decide (l0.length ≤ 60) = true := by simp; omega
    rw [hd]
    cases q
    all_goals
      go_enter Try.func46, Try.ntmps46
      go_wp2_with (go_at_call 94; refine HC.out.mono ?_; rintro e w' ⟨rfl, hb⟩; have HB1 := Aside0.mk hb; clear hb)
      go_ret
      exact ⟨rfl, HB1.out⟩
  · have hd : decide (l0.length ≤ 60) = false := by simp; omega
    rw [hd]
    go_enter Try.func46, Try.ntmps46
    go_wp2
    go_ret
    exact ⟨rfl, Below.refl _ _⟩
end Go.Proofs.Yteobbgofbedgdaa.Q
