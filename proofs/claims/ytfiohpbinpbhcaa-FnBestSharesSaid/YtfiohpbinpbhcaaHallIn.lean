/- impl.allIn answers whether all numbers lie between two bounds; no conditions. -/
import Derived.Test.YtfiohpbinpbhcaaQx0
import Derived.Test.YtfiohpbinpbhcaaSidxf
namespace Go.Proofs.Ytfiohpbinpbhcaa.Q
open Go.RowKit Go.Proofs.YtfiohpbinpbhcaaW.PrintWords Go.Proofs.YtfiohpbinpbhcaaW.PrintLast Go.Proofs.YtfiohpbinpbhcaaW.PrintMore
attribute [local go_sem] max2_int min2_int max_two min_two max_three min_three max_four min_four   -- for this text's walks alone
set_option linter.unusedVariables false
set_option linter.unusedSimpArgs false

def impl_allIn.f (l0 : List Int) (a1 a2 : Int) : Option Bool := some (l0.all fun n => decide (a1 ≤ n) && decide (n ≤ a2))
theorem allIn_1.pred (a1 a2 : Int) (l : List Int) (w : World) (B1 B2 : Nat) (h1 : w.cell? ⟨B1, 0, none⟩ = some (.int .i64 a1)) (h2 : w.cell? ⟨B2, 0, none⟩ = some (.int .i64 a2)) :
    PredI 83 #[.pointer (some ⟨B1, 0, none⟩), .pointer (some ⟨B2, 0, none⟩)] l (fun n => !(decide (a1 ≤ n) && decide (n ≤ a2))) w := fun W x hb _ => by
  have hc1 := (hb.cell (World.block_lt_of_cell? w _ h1)).trans h1
  have hc2 := (hb.cell (World.block_lt_of_cell? w _ h2)).trans h2
  clear h1 h2 hb
  show Calls Try.prog 83 #[.int .i64 x, .pointer (some ⟨B1, 0, none⟩), .pointer (some ⟨B2, 0, none⟩)] W _
  by_cases c1 : a1 ≤ x <;> by_cases c2 : x ≤ a2
  all_goals
    go_enter Try.func83, Try.ntmps83
    go_wp2
    go_ret
    exact ⟨by simp [c1, c2], by repeat (first | exact Below.refl _ _ | apply Below.drew)⟩
set_option maxHeartbeats 2000000 in
theorem impl_allIn.calls (A0 : Option Addr) (c0 : Nat) (l0 : List Int) (a1 a2 : Int) (r : Bool) (w : World) (hr0 : Kd.C (Kd.int .i64) w A0 l0.length l0) (hc0 : l0.length ≤ c0) (h : impl_allIn.f l0 a1 a2 = some r) :
    Calls Try.prog 66 #[.slice A0 l0.length c0, .int .i64 a1, .int .i64 a2] w fun e w' => e = .returned (.bool r) ∧ Below w.heap.size w w' := by
  obtain rfl : (l0.all fun n => decide (a1 ≤ n) && decide (n ≤ a2)) = r := Option.some.inj h
  have e : (l0.all fun n => decide (a1 ≤ n) && decide (n ≤ a2)) = !(l0.any fun n => !(decide (a1 ≤ n) && decide (n ≤ a2))) := by
    rw [List.not_any_eq_all_not]; simp
  rw [e]
  clear h e
  have eg : ∀ args w, (callFunc 83 args).run Try.prog w = .ok (.enter 83 args) w := enters_of Try.func83 (by kernel_rfl) rfl
  have hb : Below w.heap.size w ((w.alloc (.cells #[.int .i64 a1] 2)).alloc (.cells #[.int .i64 a2] 2)) := by
    have := ((Below.refl w.heap.size w).alloc (Nat.le_refl _) (.cells #[.int .i64 a1] 2)).alloc (by simp) (.cells #[.int .i64 a2] 2)
    exact this
  have HC := Aside0.mk (slices_ContainsFunc_i64 83 #[.pointer (some ⟨w.heap.size, 0, none⟩), .pointer (some ⟨w.heap.size + 1, 0, none⟩)] eg (fun n => !(decide (a1 ≤ n) && decide (n ≤ a2))) A0 c0 l0
    ((w.alloc (.cells #[.int .i64 a1] 2)).alloc (.cells #[.int .i64 a2] 2)) (Kd.C_below hr0 hb) (allIn_1.pred a1 a2 l0 _ w.heap.size (w.heap.size + 1) (by simp) (by simp)))
  have HB := Aside0.mk hb
  clear hr0 hc0 eg hb
  generalize (l0.any fun n => !(decide (a1 ≤ n) && decide (n ≤ a2))) = q at HC ⊢
  go_enter Try.func66, Try.ntmps66
  go_wp2_with (go_at_call 82; refine HC.out.mono ?_; rintro e w' ⟨rfl, hb⟩; have HB1 := Aside0.mk (below_step HB.out hb); clear hb)
  go_ret
  exact ⟨rfl, HB1.out⟩
end Go.Proofs.Ytfiohpbinpbhcaa.Q
