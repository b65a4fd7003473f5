/- impl.victim answers the address of a memory whose next use comes last, of several the least one; no conditions. -/
import Derived.Test.YtellojkbfnfacaaQx0
import Derived.Test.YtellojkbfnfacaaHsetOf
import Derived.Test.YtellojkbfnfacaaQx1
import Derived.Test.YtellojkbfnfacaaSsetldef
import Derived.Test.YtellojkbfnfacaaSsetlimpl
import Derived.Test.YtellojkbfnfacaaSsortl
import Derived.BigQuiet
namespace Go.Proofs.Ytellojkbfnfacaa.Q
open Go.RowKit Go.Proofs.YtellojkbfnfacaaW.PrintWords Go.Proofs.YtellojkbfnfacaaW.PrintLast Go.Proofs.YtellojkbfnfacaaW.PrintMore
attribute [local go_sem] max2_int min2_int max_two min_two max_three min_three max_four min_four   -- for this text's walks alone
set_option linter.unusedVariables false
set_option linter.unusedSimpArgs false

def vcmp (U : List Int) (i : Nat) (x y : Int) : Int := if wrap64 (wt U i x - wt U i y) = 0 then wrap64 (y - x) else wrap64 (wt U i x - wt U i y)
def impl_victim.f (l0 l1 : List Int) (a2 : Int) : Option Int := if (0 ≤ a2 ∧ a2 ≤ (l0.length : Int)) ∧ l0.length ≤ 60 ∧ l1.length ≤ 60 ∧ 0 < (setL l1).length then some (maxBy (vcmp l0 a2.toNat) (setL l1)) else none
set_option maxHeartbeats 4000000 in
set_option maxRecDepth 100000 in
theorem victimCmp.pred (A : Option Addr) (c : Nat) (U S : List Int) (i : Nat) (hU : U.length ≤ 60) (hi : i ≤ U.length) (hc : U.length ≤ c) (w : World) (B B2 : Nat) (hcell : w.cell? ⟨B, 0, none⟩ = some (.slice A U.length c)) (hcell2 : w.cell? ⟨B2, 0, none⟩ = some (.int .i64 (i : Int))) (hC : Kd.C (Kd.int .i64) w A U.length U) :
    CmpI 71 #[.pointer (some ⟨B, 0, none⟩), .pointer (some ⟨B2, 0, none⟩)] S (vcmp U i) w := fun W x y hb _ _ => by
  have hc1 := (hb.cell (World.block_lt_of_cell? _ _ hcell)).trans hcell
  have hc2 := (hb.cell (World.block_lt_of_cell? _ _ hcell2)).trans hcell2
  obtain ⟨K, hK⟩ := ev_waits U x i hU hi
  obtain ⟨K2, hK2⟩ := ev_waits U y i hU hi
  have HC := Aside0.mk (Kd.C_below hC hb)
  have HX := Aside0.mk (fun (W' : World) (hb : Below W.heap.size W W') => impl_waits.calls K A c U x (i : Int) (wt U i x) W' (Kd.C_below HC.out hb) hc (hK K (Nat.le_refl _)))
  have HY := Aside0.mk (fun (W' : World) (hb : Below W.heap.size W W') => impl_waits.calls K2 A c U y (i : Int) (wt U i y) W' (Kd.C_below HC.out hb) hc (hK2 K2 (Nat.le_refl _)))
  have HE : Aside0 (vcmp U i x y = if wrap64 (wt U i x - wt U i y) = 0 then wrap64 (y - x) else wrap64 (wt U i x - wt U i y)) := ⟨rfl⟩
  obtain ⟨p, hp⟩ : ∃ p, p = wt U i x := ⟨_, rfl⟩
  obtain ⟨q, hq⟩ : ∃ q, q = wt U i y := ⟨_, rfl⟩
  rw [← hp] at HX HE
  rw [← hq] at HY HE
  clear hK hK2 hcell hcell2 hC hb hp hq
  show Calls Try.prog 71 #[.int .i64 x, .int .i64 y, .pointer (some ⟨B, 0, none⟩), .pointer (some ⟨B2, 0, none⟩)] W _
  go_enter Try.func71, Try.ntmps71
  go_wp2_with (fail)
  go_quiet (first | (go_at_call 72; (first | with_reducible refine (HX.out _ (by repeat (first | exact Below.refl _ _ | apply pw_below_drewN | apply below_drew1))).mono ?_ | with_reducible refine (HY.out _ (by repeat (first | exact Below.refl _ _ | apply pw_below_drewN | apply below_drew1))).mono ?_); rintro e w' ⟨rfl, ⟨nd, rfl⟩⟩; (try first | exact ⟨rfl, _, World.drewN_drewN _ _ _⟩ | exact ⟨rfl, _, Eq.trans (World.drewN_drewN _ _ _) (congrArg (World.drewN _) (Nat.add_assoc _ _ _))⟩)))
  by_cases h0 : wrap64 (p - q) = 0
  · have HE2 : Aside0 (vcmp U i x y = wrap64 (y - x)) := ⟨by rw [HE.out, if_pos h0]⟩
    clear HE
    go_wp2
    go_ret
    exact ⟨by rw [HE2.out]; rfl, by repeat (first | exact Below.refl _ _ | apply pw_below_drewN | apply below_drew1)⟩
  · have HE2 : Aside0 (vcmp U i x y = wrap64 (p - q)) := ⟨by rw [HE.out, if_neg h0]⟩
    clear HE
    go_wp2
    go_ret
    exact ⟨by rw [HE2.out]; rfl, by repeat (first | exact Below.refl _ _ | apply pw_below_drewN | apply below_drew1)⟩
set_option maxHeartbeats 4000000 in
set_option maxRecDepth 100000 in
theorem impl_victim.calls (A0 : Option Addr) (c0 : Nat) (l0 : List Int) (A1 : Option Addr) (c1 : Nat) (l1 : List Int) (a2 : Int) (r : Int) (w : World) (hr0 : Kd.C (Kd.int .i64) w A0 l0.length l0) (hc0 : l0.length ≤ c0) (hr1 : Kd.C (Kd.int .i64) w A1 l1.length l1) (hc1 : l1.length ≤ c1) (h : impl_victim.f l0 l1 a2 = some r) :
    Calls Try.prog 52 #[.slice A0 l0.length c0, .slice A1 l1.length c1, .int .i64 a2] w fun e w' => e = .returned (.int .i64 r) ∧ Below w.heap.size w w' := by
  unfold impl_victim.f at h
  by_cases hg : (0 ≤ a2 ∧ a2 ≤ (l0.length : Int)) ∧ l0.length ≤ 60 ∧ l1.length ≤ 60 ∧ 0 < (setL l1).length
  case neg => rw [if_neg hg] at h; cases h
  rw [if_pos hg] at h
  obtain rfl := Option.some.inj h
  obtain ⟨⟨h0, h1⟩, h2, h3, h4⟩ := hg
  obtain ⟨i, rfl⟩ : ∃ i : Nat, a2 = (i : Int) := ⟨a2.toNat, by omega⟩
  rw [Int.toNat_natCast]
  have hb : Below w.heap.size w ((w.alloc (.cells #[.slice A0 l0.length c0] 24)).alloc (.cells #[.int .i64 (i : Int)] 3)) := below_alloc (below_alloc (Below.refl _ _) _) _
  have hx1 : ((w.alloc (.cells #[.slice A0 l0.length c0] 24)).alloc (.cells #[.int .i64 (i : Int)] 3)).cell? ⟨w.heap.size, 0, none⟩ = some (.slice A0 l0.length c0) := by simp [World.cell?_alloc_lt]
  have hx2 : ((w.alloc (.cells #[.slice A0 l0.length c0] 24)).alloc (.cells #[.int .i64 (i : Int)] 3)).cell? ⟨w.heap.size + 1, 0, none⟩ = some (.int .i64 (i : Int)) := by simp
  have HSO := Aside0.mk (impl_setOf.calls A1 c1 l1 (setL l1) _ (Kd.C_below hr1 hb) hc1 (impl_setOf_f l1 (by omega)))
  have eg : ∀ args w, (callFunc 71 args).run Try.prog w = .ok (.enter 71 args) w := enters_of Try.func71 (by kernel_rfl) rfl
  have HMX := Aside0.mk (fun (A : Option Addr) (c : Nat) (W : World) (hW : Below ((w.alloc (.cells #[.slice A0 l0.length c0] 24)).alloc (.cells #[.int .i64 (i : Int)] 3)).heap.size ((w.alloc (.cells #[.slice A0 l0.length c0] 24)).alloc (.cells #[.int .i64 (i : Int)] 3)) W) (hC : Kd.C (Kd.int .i64) W A (setL l1).length (setL l1)) =>
    slices_MaxFunc_i64 71 #[.pointer (some ⟨w.heap.size, 0, none⟩), .pointer (some ⟨w.heap.size + 1, 0, none⟩)] eg (vcmp l0 i) A c (setL l1) W h4 hC (victimCmp.pred A0 c0 l0 (setL l1) i h2 (by omega) hc0 W w.heap.size (w.heap.size + 1) ((hW.cell (World.block_lt_of_cell? _ _ hx1)).trans hx1) ((hW.cell (World.block_lt_of_cell? _ _ hx2)).trans hx2) (Kd.C_below hr0 (below_step hb hW))))
  have HB := Aside0.mk hb
  clear h hr0 hr1 hc0 hc1 h0 h1 h2 h3 h4 hx1 hx2 eg hb
  go_enter Try.func52, Try.ntmps52
  go_wp2_with (first | (go_at_call 70; with_reducible refine HSO.out.mono ?_; rintro e w2 ⟨v, rfl, hv, hb2⟩; obtain ⟨Av, cv, rfl, hcv, hCv⟩ := Kd.R_reads hv; have HCV := Aside0.mk hCv; have HB2 := Aside0.mk hb2; clear hv hb2 hCv) | (go_at_call 69; with_reducible refine (HMX.out Av cv _ HB2.out HCV.out).mono ?_; rintro e w3 ⟨rfl, hb3⟩; have HB3 := Aside0.mk (below_step (below_step HB.out HB2.out) hb3); clear hb3))
  go_ret
  exact ⟨rfl, HB3.out⟩
end Go.Proofs.Ytellojkbfnfacaa.Q
