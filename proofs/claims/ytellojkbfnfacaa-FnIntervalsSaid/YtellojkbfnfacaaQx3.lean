/- The answers of functions of the program as plain Lean functions, with the proof that the Go code comes to them; no conditions. Written by our program sprint.py over the kit's printer, for this claim. -/
import Derived.Test.YtellojkbfnfacaaQx0
import Derived.Test.YtellojkbfnfacaaQx1
import Derived.Test.YtellojkbfnfacaaHbestCuts
import Derived.Test.YtellojkbfnfacaaHhitBound
import Derived.Test.YtellojkbfnfacaaQx2
namespace Go.Proofs.Ytellojkbfnfacaa.Q
open Go.RowKit Go.Proofs.YtellojkbfnfacaaW.PrintWords Go.Proofs.YtellojkbfnfacaaW.PrintLast Go.Proofs.YtellojkbfnfacaaW.PrintMore
attribute [local go_sem] max2_int min2_int max_two min_two max_three min_three max_four min_four   -- for this text's walks alone
set_option linter.unusedVariables false
set_option linter.unusedSimpArgs false

/-! ### laws_FnIntervals: function 3 -/
mutual
def laws_FnIntervals.j0 : Nat → List Int → List Int → Int → List (List Int) → Int → Bool → Option (Bool)
  | 0, _, _, _, _, _, _ => none
  | k + 1, x1, x5, x6, x9, x17, x101 => if x101 = true then (some false) else (laws_FnIntervals.l0 k x1 x5 x6 x9 x17 (([] : List Int)) 0)
def laws_FnIntervals.l0 : Nat → List Int → List Int → Int → List (List Int) → Int → List Int → Int → Option (Bool)
  | 0, _, _, _, _, _, _, _ => none
  | k + 1, x1, x5, x6, x9, x17, x18, x19 => if x19 < (x9.length : Int) then (if 0 ≤ x19 then (if ((rd_L2 x9 x19).length : Int) = 2 then ((laws_b10At.f x1 (wrap64 (x19 + 1)) 3).bind fun t281 => (if t281 > 0 then (if x18.length < 17592186044416 then (laws_FnIntervals.l0 k x1 x5 x6 x9 x17 (x18 ++ [x19]) (wrap64 (x19 + 1))) else (none)) else (laws_FnIntervals.l0 k x1 x5 x6 x9 x17 x18 (wrap64 (x19 + 1))))) else (some false)) else (none)) else ((impl_IsKept.f k x5 x6 x18).bind fun t285 => (if t285 = true then (laws_FnIntervals.j2 k x1 x5 x6 x17 (decide ((x18.length : Int) > x17))) else (laws_FnIntervals.j2 k x1 x5 x6 x17 false)))
def laws_FnIntervals.j2 : Nat → List Int → List Int → Int → Int → Bool → Option (Bool)
  | 0, _, _, _, _, _ => none
  | k + 1, x1, x5, x6, x17, x133 => if x133 = true then (some false) else (laws_FnIntervals.l1 k x1 x5 x6 x17 (([] : List Int)) 0)
def laws_FnIntervals.l1 : Nat → List Int → List Int → Int → Int → List Int → Int → Option (Bool)
  | 0, _, _, _, _, _, _ => none
  | k + 1, x1, x5, x6, x17, x20, x21 => if x21 < (x5.length : Int) then ((laws_b10At.f x1 (wrap64 (x21 + 9)) 4).bind fun t289 => (if t289 = 0 then (if x20.length < 17592186044416 then (laws_FnIntervals.l1 k x1 x5 x6 x17 (x20 ++ [x21]) (wrap64 (x21 + 1))) else (none)) else (laws_FnIntervals.l1 k x1 x5 x6 x17 x20 (wrap64 (x21 + 1))))) else ((impl_HitBound.f x5 x6 x20).bind fun bt293 => (if bt293.2 = true then (some (decide (bt293.1 ≥ x17))) else (some false)))
end
def laws_FnIntervals.f (k : Nat) (l0 : List Int) (l1 : List Int) : Option (Bool) := (laws_b10Long.f l0 l1).bind fun t255 => (if t255 = true then (some true) else ((spec_B10Uses.f k l0).bind fun t256 => ((laws_b10At.f l1 0 4).bind fun t259 => ((impl_KeptIntervals.f k t256 (wrap64 (1 + t259))).bind fun bt260 => ((impl_IntervalsOf.f k t256).bind fun bt264 => ((impl_BestMisses.f k t256 (wrap64 (1 + t259))).bind fun bt268 => ((impl_BestCuts.f t256 (wrap64 (1 + t259))).bind fun bt270 => ((impl_HitBound.f t256 (wrap64 (1 + t259)) bt270.1).bind fun bt274 => (if bt260.2 = true then (if bt264.2 = true then (if bt268.2 = true then (if bt270.2 = true then (if bt274.2 = true then (if (bt260.1.length : Int) = (wrap64 ((t256.length : Int) - bt268.1)) then (if bt274.1 = (wrap64 ((t256.length : Int) - bt268.1)) then ((impl_IsKept.f k t256 (wrap64 (1 + t259)) bt260.1).bind fun t276 => (laws_FnIntervals.j0 k l1 t256 (wrap64 (1 + t259)) bt264.1 (wrap64 ((t256.length : Int) - bt268.1)) (!t276))) else (laws_FnIntervals.j0 k l1 t256 (wrap64 (1 + t259)) bt264.1 (wrap64 ((t256.length : Int) - bt268.1)) true)) else (laws_FnIntervals.j0 k l1 t256 (wrap64 (1 + t259)) bt264.1 (wrap64 ((t256.length : Int) - bt268.1)) true)) else (laws_FnIntervals.j0 k l1 t256 (wrap64 (1 + t259)) bt264.1 (wrap64 ((t256.length : Int) - bt268.1)) true)) else (laws_FnIntervals.j0 k l1 t256 (wrap64 (1 + t259)) bt264.1 (wrap64 ((t256.length : Int) - bt268.1)) true)) else (laws_FnIntervals.j0 k l1 t256 (wrap64 (1 + t259)) bt264.1 (wrap64 ((t256.length : Int) - bt268.1)) true)) else (laws_FnIntervals.j0 k l1 t256 (wrap64 (1 + t259)) bt264.1 (wrap64 ((t256.length : Int) - bt268.1)) true)) else (laws_FnIntervals.j0 k l1 t256 (wrap64 (1 + t259)) bt264.1 (wrap64 ((t256.length : Int) - bt268.1)) true))))))))))
theorem laws_FnIntervals.mono_l : ∀ k, (∀ y0 y1 y2 y3 y4 y5, LeO (laws_FnIntervals.j0 k y0 y1 y2 y3 y4 y5) (laws_FnIntervals.j0 (k + 1) y0 y1 y2 y3 y4 y5)) ∧ (∀ y0 y1 y2 y3 y4 y5 y6, LeO (laws_FnIntervals.l0 k y0 y1 y2 y3 y4 y5 y6) (laws_FnIntervals.l0 (k + 1) y0 y1 y2 y3 y4 y5 y6)) ∧ (∀ y0 y1 y2 y3 y4, LeO (laws_FnIntervals.j2 k y0 y1 y2 y3 y4) (laws_FnIntervals.j2 (k + 1) y0 y1 y2 y3 y4)) ∧ (∀ y0 y1 y2 y3 y4 y5, LeO (laws_FnIntervals.l1 k y0 y1 y2 y3 y4 y5) (laws_FnIntervals.l1 (k + 1) y0 y1 y2 y3 y4 y5))
  | 0 => ⟨fun _ _ _ _ _ _ r h => by simp [laws_FnIntervals.j0] at h, fun _ _ _ _ _ _ _ r h => by simp [laws_FnIntervals.l0] at h, fun _ _ _ _ _ r h => by simp [laws_FnIntervals.j2] at h, fun _ _ _ _ _ _ r h => by simp [laws_FnIntervals.l1] at h⟩
  | k + 1 => by
    obtain ⟨ih0, ih1, ih2, ih3⟩ := laws_FnIntervals.mono_l k
    refine ⟨?_, ?_, ?_, ?_⟩
    · intro y0 y1 y2 y3 y4 y5
      unfold laws_FnIntervals.j0
      repeat' first
      | (with_reducible exact ih0 _ _ _ _ _ _)
      | (with_reducible exact ih1 _ _ _ _ _ _ _)
      | (with_reducible exact ih2 _ _ _ _ _)
      | (with_reducible exact ih3 _ _ _ _ _ _)
      | (with_reducible exact impl_BestMisses.mono _ _ _)
      | (with_reducible exact impl_IntervalsOf.mono _ _)
      | (with_reducible exact impl_IsKept.mono _ _ _ _)
      | (with_reducible exact impl_KeptIntervals.mono _ _ _)
      | (with_reducible exact spec_B10Uses.mono _ _)
      | (with_reducible exact LeO.refl _)
      | (with_reducible exact LeO.none _)
      | (with_reducible refine LeO.ite ?_ ?_)
      | (with_reducible refine LeO.bind ?_ (fun _ => ?_))
      | exact ih0 _ _ _ _ _ _
      | exact ih1 _ _ _ _ _ _ _
      | exact ih2 _ _ _ _ _
      | exact ih3 _ _ _ _ _ _
      | exact impl_BestMisses.mono _ _ _
      | exact impl_IntervalsOf.mono _ _
      | exact impl_IsKept.mono _ _ _ _
      | exact impl_KeptIntervals.mono _ _ _
      | exact spec_B10Uses.mono _ _
      | exact LeO.none _
      | refine LeO.ite ?_ ?_
      | refine LeO.bind ?_ (fun _ => ?_)
    · intro y0 y1 y2 y3 y4 y5 y6
      unfold laws_FnIntervals.l0
      repeat' first
      | (with_reducible exact ih0 _ _ _ _ _ _)
      | (with_reducible exact ih1 _ _ _ _ _ _ _)
      | (with_reducible exact ih2 _ _ _ _ _)
      | (with_reducible exact ih3 _ _ _ _ _ _)
      | (with_reducible exact impl_BestMisses.mono _ _ _)
      | (with_reducible exact impl_IntervalsOf.mono _ _)
      | (with_reducible exact impl_IsKept.mono _ _ _ _)
      | (with_reducible exact impl_KeptIntervals.mono _ _ _)
      | (with_reducible exact spec_B10Uses.mono _ _)
      | (with_reducible exact LeO.refl _)
      | (with_reducible exact LeO.none _)
      | (with_reducible refine LeO.ite ?_ ?_)
      | (with_reducible refine LeO.bind ?_ (fun _ => ?_))
      | exact ih0 _ _ _ _ _ _
      | exact ih1 _ _ _ _ _ _ _
      | exact ih2 _ _ _ _ _
      | exact ih3 _ _ _ _ _ _
      | exact impl_BestMisses.mono _ _ _
      | exact impl_IntervalsOf.mono _ _
      | exact impl_IsKept.mono _ _ _ _
      | exact impl_KeptIntervals.mono _ _ _
      | exact spec_B10Uses.mono _ _
      | exact LeO.none _
      | refine LeO.ite ?_ ?_
      | refine LeO.bind ?_ (fun _ => ?_)
    · intro y0 y1 y2 y3 y4
      unfold laws_FnIntervals.j2
      repeat' first
      | (with_reducible exact ih0 _ _ _ _ _ _)
      | (with_reducible exact ih1 _ _ _ _ _ _ _)
      | (with_reducible exact ih2 _ _ _ _ _)
      | (with_reducible exact ih3 _ _ _ _ _ _)
      | (with_reducible exact impl_BestMisses.mono _ _ _)
      | (with_reducible exact impl_IntervalsOf.mono _ _)
      | (with_reducible exact impl_IsKept.mono _ _ _ _)
      | (with_reducible exact impl_KeptIntervals.mono _ _ _)
      | (with_reducible exact spec_B10Uses.mono _ _)
      | (with_reducible exact LeO.refl _)
      | (with_reducible exact LeO.none _)
      | (with_reducible refine LeO.ite ?_ ?_)
      | (with_reducible refine LeO.bind ?_ (fun _ => ?_))
      | exact ih0 _ _ _ _ _ _
      | exact ih1 _ _ _ _ _ _ _
      | exact ih2 _ _ _ _ _
      | exact ih3 _ _ _ _ _ _
      | exact impl_BestMisses.mono _ _ _
      | exact impl_IntervalsOf.mono _ _
      | exact impl_IsKept.mono _ _ _ _
      | exact impl_KeptIntervals.mono _ _ _
      | exact spec_B10Uses.mono _ _
      | exact LeO.none _
      | refine LeO.ite ?_ ?_
      | refine LeO.bind ?_ (fun _ => ?_)
    · intro y0 y1 y2 y3 y4 y5
      unfold laws_FnIntervals.l1
      repeat' first
      | (with_reducible exact ih0 _ _ _ _ _ _)
      | (with_reducible exact ih1 _ _ _ _ _ _ _)
      | (with_reducible exact ih2 _ _ _ _ _)
      | (with_reducible exact ih3 _ _ _ _ _ _)
      | (with_reducible exact impl_BestMisses.mono _ _ _)
      | (with_reducible exact impl_IntervalsOf.mono _ _)
      | (with_reducible exact impl_IsKept.mono _ _ _ _)
      | (with_reducible exact impl_KeptIntervals.mono _ _ _)
      | (with_reducible exact spec_B10Uses.mono _ _)
      | (with_reducible exact LeO.refl _)
      | (with_reducible exact LeO.none _)
      | (with_reducible refine LeO.ite ?_ ?_)
      | (with_reducible refine LeO.bind ?_ (fun _ => ?_))
      | exact ih0 _ _ _ _ _ _
      | exact ih1 _ _ _ _ _ _ _
      | exact ih2 _ _ _ _ _
      | exact ih3 _ _ _ _ _ _
      | exact impl_BestMisses.mono _ _ _
      | exact impl_IntervalsOf.mono _ _
      | exact impl_IsKept.mono _ _ _ _
      | exact impl_KeptIntervals.mono _ _ _
      | exact spec_B10Uses.mono _ _
      | exact LeO.none _
      | refine LeO.ite ?_ ?_
      | refine LeO.bind ?_ (fun _ => ?_)
theorem laws_FnIntervals.mono : ∀ a0 a1 k, LeO (laws_FnIntervals.f k a0 a1) (laws_FnIntervals.f (k + 1) a0 a1) := by
  intro a0 a1 k
  obtain ⟨ih0, ih1, ih2, ih3⟩ := laws_FnIntervals.mono_l k
  unfold laws_FnIntervals.f
  repeat' first
      | (with_reducible exact ih0 _ _ _ _ _ _)
      | (with_reducible exact ih1 _ _ _ _ _ _ _)
      | (with_reducible exact ih2 _ _ _ _ _)
      | (with_reducible exact ih3 _ _ _ _ _ _)
      | (with_reducible exact impl_BestMisses.mono _ _ _)
      | (with_reducible exact impl_IntervalsOf.mono _ _)
      | (with_reducible exact impl_IsKept.mono _ _ _ _)
      | (with_reducible exact impl_KeptIntervals.mono _ _ _)
      | (with_reducible exact spec_B10Uses.mono _ _)
      | (with_reducible exact LeO.refl _)
      | (with_reducible exact LeO.none _)
      | (with_reducible refine LeO.ite ?_ ?_)
      | (with_reducible refine LeO.bind ?_ (fun _ => ?_))
      | exact ih0 _ _ _ _ _ _
      | exact ih1 _ _ _ _ _ _ _
      | exact ih2 _ _ _ _ _
      | exact ih3 _ _ _ _ _ _
      | exact impl_BestMisses.mono _ _ _
      | exact impl_IntervalsOf.mono _ _
      | exact impl_IsKept.mono _ _ _ _
      | exact impl_KeptIntervals.mono _ _ _
      | exact spec_B10Uses.mono _ _
      | exact LeO.none _
      | refine LeO.ite ?_ ?_
      | refine LeO.bind ?_ (fun _ => ?_)
set_option maxHeartbeats 8000000 in
set_option maxRecDepth 100000 in
theorem laws_FnIntervals.calls (k : Nat) (A0 : Option Addr) (c0 : Nat) (l0 : List Int) (A1 : Option Addr) (c1 : Nat) (l1 : List Int) (r : Bool) (w : World) (hr0 : Kd.C (Kd.int .u8) w A0 l0.length l0) (hc0 : l0.length ≤ c0) (hr1 : Kd.C (Kd.int .u8) w A1 l1.length l1) (hc1 : l1.length ≤ c1) (h : laws_FnIntervals.f k l0 l1 = some r) :
    Calls Try.prog 3 #[.slice A0 l0.length c0, .slice A1 l1.length c1] w fun e w' => e = .returned (.bool r) ∧ Below w.heap.size w w' := by
  have HR0 := Aside0.mk hr0
  have HC0 := Aside0.mk hc0
  clear hr0 hc0
  have HR1 := Aside0.mk hr1
  have HC1 := Aside0.mk hc1
  clear hr1 hc1
  have HB := Aside0.mk (Below.refl w.heap.size w)
  have H : ((laws_b10Long.f l0 l1).bind fun t255 => (if t255 = true then (some true) else ((spec_B10Uses.f k l0).bind fun t256 => ((laws_b10At.f l1 0 4).bind fun t259 => ((impl_KeptIntervals.f k t256 (wrap64 (1 + t259))).bind fun bt260 => ((impl_IntervalsOf.f k t256).bind fun bt264 => ((impl_BestMisses.f k t256 (wrap64 (1 + t259))).bind fun bt268 => ((impl_BestCuts.f t256 (wrap64 (1 + t259))).bind fun bt270 => ((impl_HitBound.f t256 (wrap64 (1 + t259)) bt270.1).bind fun bt274 => (if bt260.2 = true then (if bt264.2 = true then (if bt268.2 = true then (if bt270.2 = true then (if bt274.2 = true then (if (bt260.1.length : Int) = (wrap64 ((t256.length : Int) - bt268.1)) then (if bt274.1 = (wrap64 ((t256.length : Int) - bt268.1)) then ((impl_IsKept.f k t256 (wrap64 (1 + t259)) bt260.1).bind fun t276 => (laws_FnIntervals.j0 k l1 t256 (wrap64 (1 + t259)) bt264.1 (wrap64 ((t256.length : Int) - bt268.1)) (!t276))) else (laws_FnIntervals.j0 k l1 t256 (wrap64 (1 + t259)) bt264.1 (wrap64 ((t256.length : Int) - bt268.1)) true)) else (laws_FnIntervals.j0 k l1 t256 (wrap64 (1 + t259)) bt264.1 (wrap64 ((t256.length : Int) - bt268.1)) true)) else (laws_FnIntervals.j0 k l1 t256 (wrap64 (1 + t259)) bt264.1 (wrap64 ((t256.length : Int) - bt268.1)) true)) else (laws_FnIntervals.j0 k l1 t256 (wrap64 (1 + t259)) bt264.1 (wrap64 ((t256.length : Int) - bt268.1)) true)) else (laws_FnIntervals.j0 k l1 t256 (wrap64 (1 + t259)) bt264.1 (wrap64 ((t256.length : Int) - bt268.1)) true)) else (laws_FnIntervals.j0 k l1 t256 (wrap64 (1 + t259)) bt264.1 (wrap64 ((t256.length : Int) - bt268.1)) true)) else (laws_FnIntervals.j0 k l1 t256 (wrap64 (1 + t259)) bt264.1 (wrap64 ((t256.length : Int) - bt268.1)) true))))))))))) = some r := h
  clear h
  replace H := Option.bind_eq_some_iff.mp H
  obtain ⟨t255, A30, H⟩ := H
  replace H : (if t255 = true then (some true) else ((spec_B10Uses.f k l0).bind fun t256 => ((laws_b10At.f l1 0 4).bind fun t259 => ((impl_KeptIntervals.f k t256 (wrap64 (1 + t259))).bind fun bt260 => ((impl_IntervalsOf.f k t256).bind fun bt264 => ((impl_BestMisses.f k t256 (wrap64 (1 + t259))).bind fun bt268 => ((impl_BestCuts.f t256 (wrap64 (1 + t259))).bind fun bt270 => ((impl_HitBound.f t256 (wrap64 (1 + t259)) bt270.1).bind fun bt274 => (if bt260.2 = true then (if bt264.2 = true then (if bt268.2 = true then (if bt270.2 = true then (if bt274.2 = true then (if (bt260.1.length : Int) = (wrap64 ((t256.length : Int) - bt268.1)) then (if bt274.1 = (wrap64 ((t256.length : Int) - bt268.1)) then ((impl_IsKept.f k t256 (wrap64 (1 + t259)) bt260.1).bind fun t276 => (laws_FnIntervals.j0 k l1 t256 (wrap64 (1 + t259)) bt264.1 (wrap64 ((t256.length : Int) - bt268.1)) (!t276))) else (laws_FnIntervals.j0 k l1 t256 (wrap64 (1 + t259)) bt264.1 (wrap64 ((t256.length : Int) - bt268.1)) true)) else (laws_FnIntervals.j0 k l1 t256 (wrap64 (1 + t259)) bt264.1 (wrap64 ((t256.length : Int) - bt268.1)) true)) else (laws_FnIntervals.j0 k l1 t256 (wrap64 (1 + t259)) bt264.1 (wrap64 ((t256.length : Int) - bt268.1)) true)) else (laws_FnIntervals.j0 k l1 t256 (wrap64 (1 + t259)) bt264.1 (wrap64 ((t256.length : Int) - bt268.1)) true)) else (laws_FnIntervals.j0 k l1 t256 (wrap64 (1 + t259)) bt264.1 (wrap64 ((t256.length : Int) - bt268.1)) true)) else (laws_FnIntervals.j0 k l1 t256 (wrap64 (1 + t259)) bt264.1 (wrap64 ((t256.length : Int) - bt268.1)) true)) else (laws_FnIntervals.j0 k l1 t256 (wrap64 (1 + t259)) bt264.1 (wrap64 ((t256.length : Int) - bt268.1)) true)))))))))) = some r := H
  have A3 := Aside0.mk A30
  clear A30
  by_cases c4 : t255 = true
  · subst c4
    have H1 : (some true) = some r := by rw [if_pos rfl] at H; exact H
    clear H
    have H := H1
    clear H1
    obtain rfl := Option.some.inj H
    go_enter Try.func3, Try.ntmps3
    go_wp2_with (first | ((with_reducible refine gate_callee (f := 10) rfl ?_); refine goesL_ (some 26) rfl rfl Try.func10 (by kernel_rfl) rfl #[.slice A0 l0.length c0, .slice A1 l1.length c1] rfl (by (try simp only [List.map_toArray, List.map_cons, List.map_nil]); first | done | rfl | (simp only [List.length_drop, List.length_take]; rfl)) ?_; (with_reducible refine (laws_b10Long.calls _ _ l0 _ _ l1 true _ ?side1 ?side2 ?side3 ?side4 A3.out).mono ?_); (case side1 => repeat (first | exact HR0.out | (with_reducible refine Kd.C_alloc ?_ _) | (with_reducible refine Kd.C_drewN ?_ _) | (with_reducible refine Kd.C_drew ?_))); (case side2 => exact HC0.out); (case side3 => repeat (first | exact HR1.out | (with_reducible refine Kd.C_alloc ?_ _) | (with_reducible refine Kd.C_drewN ?_ _) | (with_reducible refine Kd.C_drew ?_))); (case side4 => exact HC1.out); rintro e w' ⟨rfl, ⟨nd, rfl⟩⟩; refine ⟨_, rfl, ?_⟩))
    go_ret
    exact ⟨by first | rfl | (simp [errW_none, errW_some] <;> rfl) | (simp [*, errW_none, errW_some] <;> rfl), by repeat (first | (with_reducible first | exact HB.out | apply below_alloc | apply pw_below_drewN | apply below_drew1) | exact HB.out)⟩
  · replace c4 := Bool.eq_false_iff.mpr c4
    subst c4
    have H1 : ((spec_B10Uses.f k l0).bind fun t256 => ((laws_b10At.f l1 0 4).bind fun t259 => ((impl_KeptIntervals.f k t256 (wrap64 (1 + t259))).bind fun bt260 => ((impl_IntervalsOf.f k t256).bind fun bt264 => ((impl_BestMisses.f k t256 (wrap64 (1 + t259))).bind fun bt268 => ((impl_BestCuts.f t256 (wrap64 (1 + t259))).bind fun bt270 => ((impl_HitBound.f t256 (wrap64 (1 + t259)) bt270.1).bind fun bt274 => (if bt260.2 = true then (if bt264.2 = true then (if bt268.2 = true then (if bt270.2 = true then (if bt274.2 = true then (if (bt260.1.length : Int) = (wrap64 ((t256.length : Int) - bt268.1)) then (if bt274.1 = (wrap64 ((t256.length : Int) - bt268.1)) then ((impl_IsKept.f k t256 (wrap64 (1 + t259)) bt260.1).bind fun t276 => (laws_FnIntervals.j0 k l1 t256 (wrap64 (1 + t259)) bt264.1 (wrap64 ((t256.length : Int) - bt268.1)) (!t276))) else (laws_FnIntervals.j0 k l1 t256 (wrap64 (1 + t259)) bt264.1 (wrap64 ((t256.length : Int) - bt268.1)) true)) else (laws_FnIntervals.j0 k l1 t256 (wrap64 (1 + t259)) bt264.1 (wrap64 ((t256.length : Int) - bt268.1)) true)) else (laws_FnIntervals.j0 k l1 t256 (wrap64 (1 + t259)) bt264.1 (wrap64 ((t256.length : Int) - bt268.1)) true)) else (laws_FnIntervals.j0 k l1 t256 (wrap64 (1 + t259)) bt264.1 (wrap64 ((t256.length : Int) - bt268.1)) true)) else (laws_FnIntervals.j0 k l1 t256 (wrap64 (1 + t259)) bt264.1 (wrap64 ((t256.length : Int) - bt268.1)) true)) else (laws_FnIntervals.j0 k l1 t256 (wrap64 (1 + t259)) bt264.1 (wrap64 ((t256.length : Int) - bt268.1)) true)) else (laws_FnIntervals.j0 k l1 t256 (wrap64 (1 + t259)) bt264.1 (wrap64 ((t256.length : Int) - bt268.1)) true))))))))) = some r := by rw [if_neg (show ¬ (false = true) by decide)] at H; exact H
    clear H
    have H := H1
    clear H1
    replace H := Option.bind_eq_some_iff.mp H
    obtain ⟨t256, A50, H⟩ := H
    replace H : ((laws_b10At.f l1 0 4).bind fun t259 => ((impl_KeptIntervals.f k t256 (wrap64 (1 + t259))).bind fun bt260 => ((impl_IntervalsOf.f k t256).bind fun bt264 => ((impl_BestMisses.f k t256 (wrap64 (1 + t259))).bind fun bt268 => ((impl_BestCuts.f t256 (wrap64 (1 + t259))).bind fun bt270 => ((impl_HitBound.f t256 (wrap64 (1 + t259)) bt270.1).bind fun bt274 => (if bt260.2 = true then (if bt264.2 = true then (if bt268.2 = true then (if bt270.2 = true then (if bt274.2 = true then (if (bt260.1.length : Int) = (wrap64 ((t256.length : Int) - bt268.1)) then (if bt274.1 = (wrap64 ((t256.length : Int) - bt268.1)) then ((impl_IsKept.f k t256 (wrap64 (1 + t259)) bt260.1).bind fun t276 => (laws_FnIntervals.j0 k l1 t256 (wrap64 (1 + t259)) bt264.1 (wrap64 ((t256.length : Int) - bt268.1)) (!t276))) else (laws_FnIntervals.j0 k l1 t256 (wrap64 (1 + t259)) bt264.1 (wrap64 ((t256.length : Int) - bt268.1)) true)) else (laws_FnIntervals.j0 k l1 t256 (wrap64 (1 + t259)) bt264.1 (wrap64 ((t256.length : Int) - bt268.1)) true)) else (laws_FnIntervals.j0 k l1 t256 (wrap64 (1 + t259)) bt264.1 (wrap64 ((t256.length : Int) - bt268.1)) true)) else (laws_FnIntervals.j0 k l1 t256 (wrap64 (1 + t259)) bt264.1 (wrap64 ((t256.length : Int) - bt268.1)) true)) else (laws_FnIntervals.j0 k l1 t256 (wrap64 (1 + t259)) bt264.1 (wrap64 ((t256.length : Int) - bt268.1)) true)) else (laws_FnIntervals.j0 k l1 t256 (wrap64 (1 + t259)) bt264.1 (wrap64 ((t256.length : Int) - bt268.1)) true)) else (laws_FnIntervals.j0 k l1 t256 (wrap64 (1 + t259)) bt264.1 (wrap64 ((t256.length : Int) - bt268.1)) true)))))))) = some r := H
    have A5 := Aside0.mk A50
    clear A50
    replace H := Option.bind_eq_some_iff.mp H
    obtain ⟨t259, A60, H⟩ := H
    replace H : ((impl_KeptIntervals.f k t256 (wrap64 (1 + t259))).bind fun bt260 => ((impl_IntervalsOf.f k t256).bind fun bt264 => ((impl_BestMisses.f k t256 (wrap64 (1 + t259))).bind fun bt268 => ((impl_BestCuts.f t256 (wrap64 (1 + t259))).bind fun bt270 => ((impl_HitBound.f t256 (wrap64 (1 + t259)) bt270.1).bind fun bt274 => (if bt260.2 = true then (if bt264.2 = true then (if bt268.2 = true then (if bt270.2 = true then (if bt274.2 = true then (if (bt260.1.length : Int) = (wrap64 ((t256.length : Int) - bt268.1)) then (if bt274.1 = (wrap64 ((t256.length : Int) - bt268.1)) then ((impl_IsKept.f k t256 (wrap64 (1 + t259)) bt260.1).bind fun t276 => (laws_FnIntervals.j0 k l1 t256 (wrap64 (1 + t259)) bt264.1 (wrap64 ((t256.length : Int) - bt268.1)) (!t276))) else (laws_FnIntervals.j0 k l1 t256 (wrap64 (1 + t259)) bt264.1 (wrap64 ((t256.length : Int) - bt268.1)) true)) else (laws_FnIntervals.j0 k l1 t256 (wrap64 (1 + t259)) bt264.1 (wrap64 ((t256.length : Int) - bt268.1)) true)) else (laws_FnIntervals.j0 k l1 t256 (wrap64 (1 + t259)) bt264.1 (wrap64 ((t256.length : Int) - bt268.1)) true)) else (laws_FnIntervals.j0 k l1 t256 (wrap64 (1 + t259)) bt264.1 (wrap64 ((t256.length : Int) - bt268.1)) true)) else (laws_FnIntervals.j0 k l1 t256 (wrap64 (1 + t259)) bt264.1 (wrap64 ((t256.length : Int) - bt268.1)) true)) else (laws_FnIntervals.j0 k l1 t256 (wrap64 (1 + t259)) bt264.1 (wrap64 ((t256.length : Int) - bt268.1)) true)) else (laws_FnIntervals.j0 k l1 t256 (wrap64 (1 + t259)) bt264.1 (wrap64 ((t256.length : Int) - bt268.1)) true))))))) = some r := H
    have A6 := Aside0.mk A60
    clear A60
    replace H := Option.bind_eq_some_iff.mp H
    obtain ⟨⟨t260, t261⟩, A70, H⟩ := H
    replace H : ((impl_IntervalsOf.f k t256).bind fun bt264 => ((impl_BestMisses.f k t256 (wrap64 (1 + t259))).bind fun bt268 => ((impl_BestCuts.f t256 (wrap64 (1 + t259))).bind fun bt270 => ((impl_HitBound.f t256 (wrap64 (1 + t259)) bt270.1).bind fun bt274 => (if t261 = true then (if bt264.2 = true then (if bt268.2 = true then (if bt270.2 = true then (if bt274.2 = true then (if (t260.length : Int) = (wrap64 ((t256.length : Int) - bt268.1)) then (if bt274.1 = (wrap64 ((t256.length : Int) - bt268.1)) then ((impl_IsKept.f k t256 (wrap64 (1 + t259)) t260).bind fun t276 => (laws_FnIntervals.j0 k l1 t256 (wrap64 (1 + t259)) bt264.1 (wrap64 ((t256.length : Int) - bt268.1)) (!t276))) else (laws_FnIntervals.j0 k l1 t256 (wrap64 (1 + t259)) bt264.1 (wrap64 ((t256.length : Int) - bt268.1)) true)) else (laws_FnIntervals.j0 k l1 t256 (wrap64 (1 + t259)) bt264.1 (wrap64 ((t256.length : Int) - bt268.1)) true)) else (laws_FnIntervals.j0 k l1 t256 (wrap64 (1 + t259)) bt264.1 (wrap64 ((t256.length : Int) - bt268.1)) true)) else (laws_FnIntervals.j0 k l1 t256 (wrap64 (1 + t259)) bt264.1 (wrap64 ((t256.length : Int) - bt268.1)) true)) else (laws_FnIntervals.j0 k l1 t256 (wrap64 (1 + t259)) bt264.1 (wrap64 ((t256.length : Int) - bt268.1)) true)) else (laws_FnIntervals.j0 k l1 t256 (wrap64 (1 + t259)) bt264.1 (wrap64 ((t256.length : Int) - bt268.1)) true)) else (laws_FnIntervals.j0 k l1 t256 (wrap64 (1 + t259)) bt264.1 (wrap64 ((t256.length : Int) - bt268.1)) true)))))) = some r := H
    have A7 := Aside0.mk A70
    clear A70
    replace H := Option.bind_eq_some_iff.mp H
    obtain ⟨⟨t264, t265⟩, A80, H⟩ := H
    replace H : ((impl_BestMisses.f k t256 (wrap64 (1 + t259))).bind fun bt268 => ((impl_BestCuts.f t256 (wrap64 (1 + t259))).bind fun bt270 => ((impl_HitBound.f t256 (wrap64 (1 + t259)) bt270.1).bind fun bt274 => (if t261 = true then (if t265 = true then (if bt268.2 = true then (if bt270.2 = true then (if bt274.2 = true then (if (t260.length : Int) = (wrap64 ((t256.length : Int) - bt268.1)) then (if bt274.1 = (wrap64 ((t256.length : Int) - bt268.1)) then ((impl_IsKept.f k t256 (wrap64 (1 + t259)) t260).bind fun t276 => (laws_FnIntervals.j0 k l1 t256 (wrap64 (1 + t259)) t264 (wrap64 ((t256.length : Int) - bt268.1)) (!t276))) else (laws_FnIntervals.j0 k l1 t256 (wrap64 (1 + t259)) t264 (wrap64 ((t256.length : Int) - bt268.1)) true)) else (laws_FnIntervals.j0 k l1 t256 (wrap64 (1 + t259)) t264 (wrap64 ((t256.length : Int) - bt268.1)) true)) else (laws_FnIntervals.j0 k l1 t256 (wrap64 (1 + t259)) t264 (wrap64 ((t256.length : Int) - bt268.1)) true)) else (laws_FnIntervals.j0 k l1 t256 (wrap64 (1 + t259)) t264 (wrap64 ((t256.length : Int) - bt268.1)) true)) else (laws_FnIntervals.j0 k l1 t256 (wrap64 (1 + t259)) t264 (wrap64 ((t256.length : Int) - bt268.1)) true)) else (laws_FnIntervals.j0 k l1 t256 (wrap64 (1 + t259)) t264 (wrap64 ((t256.length : Int) - bt268.1)) true)) else (laws_FnIntervals.j0 k l1 t256 (wrap64 (1 + t259)) t264 (wrap64 ((t256.length : Int) - bt268.1)) true))))) = some r := H
    have A8 := Aside0.mk A80
    clear A80
    replace H := Option.bind_eq_some_iff.mp H
    obtain ⟨⟨t268, t269⟩, A90, H⟩ := H
    replace H : ((impl_BestCuts.f t256 (wrap64 (1 + t259))).bind fun bt270 => ((impl_HitBound.f t256 (wrap64 (1 + t259)) bt270.1).bind fun bt274 => (if t261 = true then (if t265 = true then (if t269 = true then (if bt270.2 = true then (if bt274.2 = true then (if (t260.length : Int) = (wrap64 ((t256.length : Int) - t268)) then (if bt274.1 = (wrap64 ((t256.length : Int) - t268)) then ((impl_IsKept.f k t256 (wrap64 (1 + t259)) t260).bind fun t276 => (laws_FnIntervals.j0 k l1 t256 (wrap64 (1 + t259)) t264 (wrap64 ((t256.length : Int) - t268)) (!t276))) else (laws_FnIntervals.j0 k l1 t256 (wrap64 (1 + t259)) t264 (wrap64 ((t256.length : Int) - t268)) true)) else (laws_FnIntervals.j0 k l1 t256 (wrap64 (1 + t259)) t264 (wrap64 ((t256.length : Int) - t268)) true)) else (laws_FnIntervals.j0 k l1 t256 (wrap64 (1 + t259)) t264 (wrap64 ((t256.length : Int) - t268)) true)) else (laws_FnIntervals.j0 k l1 t256 (wrap64 (1 + t259)) t264 (wrap64 ((t256.length : Int) - t268)) true)) else (laws_FnIntervals.j0 k l1 t256 (wrap64 (1 + t259)) t264 (wrap64 ((t256.length : Int) - t268)) true)) else (laws_FnIntervals.j0 k l1 t256 (wrap64 (1 + t259)) t264 (wrap64 ((t256.length : Int) - t268)) true)) else (laws_FnIntervals.j0 k l1 t256 (wrap64 (1 + t259)) t264 (wrap64 ((t256.length : Int) - t268)) true)))) = some r := H
    have A9 := Aside0.mk A90
    clear A90
    replace H := Option.bind_eq_some_iff.mp H
    obtain ⟨⟨t270, t271⟩, A100, H⟩ := H
    replace H : ((impl_HitBound.f t256 (wrap64 (1 + t259)) t270).bind fun bt274 => (if t261 = true then (if t265 = true then (if t269 = true then (if t271 = true then (if bt274.2 = true then (if (t260.length : Int) = (wrap64 ((t256.length : Int) - t268)) then (if bt274.1 = (wrap64 ((t256.length : Int) - t268)) then ((impl_IsKept.f k t256 (wrap64 (1 + t259)) t260).bind fun t276 => (laws_FnIntervals.j0 k l1 t256 (wrap64 (1 + t259)) t264 (wrap64 ((t256.length : Int) - t268)) (!t276))) else (laws_FnIntervals.j0 k l1 t256 (wrap64 (1 + t259)) t264 (wrap64 ((t256.length : Int) - t268)) true)) else (laws_FnIntervals.j0 k l1 t256 (wrap64 (1 + t259)) t264 (wrap64 ((t256.length : Int) - t268)) true)) else (laws_FnIntervals.j0 k l1 t256 (wrap64 (1 + t259)) t264 (wrap64 ((t256.length : Int) - t268)) true)) else (laws_FnIntervals.j0 k l1 t256 (wrap64 (1 + t259)) t264 (wrap64 ((t256.length : Int) - t268)) true)) else (laws_FnIntervals.j0 k l1 t256 (wrap64 (1 + t259)) t264 (wrap64 ((t256.length : Int) - t268)) true)) else (laws_FnIntervals.j0 k l1 t256 (wrap64 (1 + t259)) t264 (wrap64 ((t256.length : Int) - t268)) true)) else (laws_FnIntervals.j0 k l1 t256 (wrap64 (1 + t259)) t264 (wrap64 ((t256.length : Int) - t268)) true))) = some r := H
    have A10 := Aside0.mk A100
    clear A100
    replace H := Option.bind_eq_some_iff.mp H
    obtain ⟨⟨t274, t275⟩, A110, H⟩ := H
    replace H : (if t261 = true then (if t265 = true then (if t269 = true then (if t271 = true then (if t275 = true then (if (t260.length : Int) = (wrap64 ((t256.length : Int) - t268)) then (if t274 = (wrap64 ((t256.length : Int) - t268)) then ((impl_IsKept.f k t256 (wrap64 (1 + t259)) t260).bind fun t276 => (laws_FnIntervals.j0 k l1 t256 (wrap64 (1 + t259)) t264 (wrap64 ((t256.length : Int) - t268)) (!t276))) else (laws_FnIntervals.j0 k l1 t256 (wrap64 (1 + t259)) t264 (wrap64 ((t256.length : Int) - t268)) true)) else (laws_FnIntervals.j0 k l1 t256 (wrap64 (1 + t259)) t264 (wrap64 ((t256.length : Int) - t268)) true)) else (laws_FnIntervals.j0 k l1 t256 (wrap64 (1 + t259)) t264 (wrap64 ((t256.length : Int) - t268)) true)) else (laws_FnIntervals.j0 k l1 t256 (wrap64 (1 + t259)) t264 (wrap64 ((t256.length : Int) - t268)) true)) else (laws_FnIntervals.j0 k l1 t256 (wrap64 (1 + t259)) t264 (wrap64 ((t256.length : Int) - t268)) true)) else (laws_FnIntervals.j0 k l1 t256 (wrap64 (1 + t259)) t264 (wrap64 ((t256.length : Int) - t268)) true)) else (laws_FnIntervals.j0 k l1 t256 (wrap64 (1 + t259)) t264 (wrap64 ((t256.length : Int) - t268)) true)) = some r := H
    have A11 := Aside0.mk A110
    clear A110
    have HC12 := Aside0.mk H
    clear H
    go_enter Try.func3, Try.ntmps3
    go_upto_region 11 with (first | ((with_reducible refine gate_callee (f := 10) rfl ?_); refine goesL_ (some 26) rfl rfl Try.func10 (by kernel_rfl) rfl #[.slice A0 l0.length c0, .slice A1 l1.length c1] rfl (by (try simp only [List.map_toArray, List.map_cons, List.map_nil]); first | done | rfl | (simp only [List.length_drop, List.length_take]; rfl)) ?_; (with_reducible refine (laws_b10Long.calls _ _ l0 _ _ l1 false _ ?side1 ?side2 ?side3 ?side4 A3.out).mono ?_); (case side1 => repeat (first | exact HR0.out | (with_reducible refine Kd.C_alloc ?_ _) | (with_reducible refine Kd.C_drewN ?_ _) | (with_reducible refine Kd.C_drew ?_))); (case side2 => exact HC0.out); (case side3 => repeat (first | exact HR1.out | (with_reducible refine Kd.C_alloc ?_ _) | (with_reducible refine Kd.C_drewN ?_ _) | (with_reducible refine Kd.C_drew ?_))); (case side4 => exact HC1.out); rintro e w' ⟨rfl, ⟨nd, rfl⟩⟩; refine ⟨_, rfl, ?_⟩) | ((with_reducible refine gate_callee (f := 11) rfl ?_); refine goesL_ (some 28) rfl rfl Try.func11 (by kernel_rfl) rfl #[.slice A0 l0.length c0] rfl (by (try simp only [List.map_toArray, List.map_cons, List.map_nil]); first | done | rfl | (simp only [List.length_drop, List.length_take]; rfl)) ?_; (with_reducible refine (spec_B10Uses.calls k _ _ l0 t256 _ ?side1 ?side2 A5.out).mono ?_); (case side1 => repeat (first | exact HR0.out | (with_reducible refine Kd.C_alloc ?_ _) | (with_reducible refine Kd.C_drewN ?_ _) | (with_reducible refine Kd.C_drew ?_))); (case side2 => exact HC0.out); rintro e w13 ⟨v257, rfl, ho0, hb⟩; refine ⟨_, rfl, ?_⟩; have n0_ := Aside0.mk (Kd.R_lower ho0 (below_size (by repeat (first | (with_reducible first | exact HB.out | apply below_alloc | apply pw_below_drewN | apply below_drew1) | exact HB.out)))); have n1_ := Aside0.mk (below_step (by repeat (first | (with_reducible first | exact HB.out | apply below_alloc | apply pw_below_drewN | apply below_drew1) | exact HB.out)) hb); clear HB; have HO258 := n0_; have HB := n1_; clear n0_ n1_; (try clear hb); (try clear hb2); (try clear hk); (try clear hi); (try clear ho0)) | ((with_reducible refine gate_callee (f := 12) rfl ?_); refine goesL_ (some 30) rfl rfl Try.func12 (by kernel_rfl) rfl #[.slice A1 l1.length c1, .int .i64 0, .int .i64 4] rfl (by (try simp only [List.map_toArray, List.map_cons, List.map_nil]); first | done | rfl | (simp only [List.length_drop, List.length_take]; rfl)) ?_; (with_reducible refine (laws_b10At.calls _ _ l1 0 4 t259 _ ?side1 ?side2 A6.out).mono ?_); (case side1 => repeat (first | exact (Kd.C_below HR1.out HB.out) | (with_reducible refine Kd.C_alloc ?_ _) | (with_reducible refine Kd.C_drewN ?_ _) | (with_reducible refine Kd.C_drew ?_))); (case side2 => exact HC1.out); rintro e w' ⟨rfl, ⟨nd, rfl⟩⟩; refine ⟨_, rfl, ?_⟩; obtain ⟨Ao14, co14, eo14⟩ := Kd.R_slice HO258.out; subst eo14) | ((with_reducible refine gate_callee (f := 13) rfl ?_); refine goesL_ (some 35) rfl rfl Try.func13 (by kernel_rfl) rfl #[.slice Ao14 t256.length co14, .int .i64 (wrap64 (1 + t259))] rfl (by (try simp only [List.map_toArray, List.map_cons, List.map_nil]); first | done | rfl | (simp only [List.length_drop, List.length_take]; rfl)) ?_; (with_reducible refine (impl_KeptIntervals.calls k _ _ t256 (wrap64 (1 + t259)) t260 t261 _ ?side1 ?side2 A7.out).mono ?_); (case side1 => repeat (first | exact (Kd.R_reads' HO258.out).2.2 | (with_reducible refine Kd.C_alloc ?_ _) | (with_reducible refine Kd.C_drewN ?_ _) | (with_reducible refine Kd.C_drew ?_))); (case side2 => exact (Kd.R_reads' HO258.out).2.1); rintro e w15 ⟨v262, rfl, ho0, hb⟩; refine ⟨_, rfl, ?_⟩; have n0_ := Aside0.mk (Kd.R_elder' (by (with_reducible repeat (first | apply Kd.R_alloc | apply Kd.R_drewN | apply Kd.R_drew)); exact HO258.out) (Kd.R_base ho0) hb); have n1_ := Aside0.mk (Kd.R_lower (Kd.R_new' ho0 (Kd.R_lt (by (with_reducible repeat (first | apply Kd.R_alloc | apply Kd.R_drewN | apply Kd.R_drew)); exact HO258.out))) (below_size (by repeat (first | (with_reducible first | exact HB.out | apply below_alloc | apply pw_below_drewN | apply below_drew1) | exact HB.out)))); have n2_ := Aside0.mk (below_step (by repeat (first | (with_reducible first | exact HB.out | apply below_alloc | apply pw_below_drewN | apply below_drew1) | exact HB.out)) hb); clear HO258; clear HB; have HO258 := n0_; have HO263 := n1_; have HB := n2_; clear n0_ n1_ n2_; (try clear hb); (try clear hb2); (try clear hk); (try clear hi); (try clear ho0)) | ((with_reducible refine gate_callee (f := 14) rfl ?_); refine goesL_ (some 40) rfl rfl Try.func14 (by kernel_rfl) rfl #[.slice Ao14 t256.length co14] rfl (by (try simp only [List.map_toArray, List.map_cons, List.map_nil]); first | done | rfl | (simp only [List.length_drop, List.length_take]; rfl)) ?_; (with_reducible refine (impl_IntervalsOf.calls k _ _ t256 t264 t265 _ ?side1 ?side2 A8.out).mono ?_); (case side1 => repeat (first | exact (Kd.R_reads' HO258.out).2.2 | (with_reducible refine Kd.C_alloc ?_ _) | (with_reducible refine Kd.C_drewN ?_ _) | (with_reducible refine Kd.C_drew ?_))); (case side2 => exact (Kd.R_reads' HO258.out).2.1); rintro e w16 ⟨v266, rfl, ho0, hb⟩; refine ⟨_, rfl, ?_⟩; have n0_ := Aside0.mk (Kd.R_below (by (with_reducible repeat (first | apply Kd.R_alloc | apply Kd.R_drewN | apply Kd.R_drew)); exact HO258.out) hb); have n1_ := Aside0.mk (Kd.R_below (by (with_reducible repeat (first | apply Kd.R_alloc | apply Kd.R_drewN | apply Kd.R_drew)); exact HO263.out) hb); have n2_ := Aside0.mk (Kd.S_lower (Kd.S_new' (Kd.S_new' ho0 (Kd.R_lt (by (with_reducible repeat (first | apply Kd.R_alloc | apply Kd.R_drewN | apply Kd.R_drew)); exact HO258.out))) (Kd.R_lt (by (with_reducible repeat (first | apply Kd.R_alloc | apply Kd.R_drewN | apply Kd.R_drew)); exact HO263.out))) (below_size (by repeat (first | (with_reducible first | exact HB.out | apply below_alloc | apply pw_below_drewN | apply below_drew1) | exact HB.out)))); have n3_ := Aside0.mk (below_step (by repeat (first | (with_reducible first | exact HB.out | apply below_alloc | apply pw_below_drewN | apply below_drew1) | exact HB.out)) hb); clear HO258; clear HO263; clear HB; have HO258 := n0_; have HO263 := n1_; have HO267 := n2_; have HB := n3_; clear n0_ n1_ n2_ n3_; (try clear hb); (try clear hb2); (try clear hk); (try clear hi); (try clear ho0)) | ((with_reducible refine gate_callee (f := 15) rfl ?_); refine goesL_ (some 46) rfl rfl Try.func15 (by kernel_rfl) rfl #[.slice Ao14 t256.length co14, .int .i64 (wrap64 (1 + t259))] rfl (by (try simp only [List.map_toArray, List.map_cons, List.map_nil]); first | done | rfl | (simp only [List.length_drop, List.length_take]; rfl)) ?_; (with_reducible refine (impl_BestMisses.calls k _ _ t256 (wrap64 (1 + t259)) t268 t269 _ ?side1 ?side2 A9.out).mono ?_); (case side1 => repeat (first | exact (Kd.R_reads' HO258.out).2.2 | (with_reducible refine Kd.C_alloc ?_ _) | (with_reducible refine Kd.C_drewN ?_ _) | (with_reducible refine Kd.C_drew ?_))); (case side2 => exact (Kd.R_reads' HO258.out).2.1); rintro e w17 ⟨rfl, hb⟩; refine ⟨_, rfl, ?_⟩; have n0_ := Aside0.mk (Kd.R_below (by (with_reducible repeat (first | apply Kd.R_alloc | apply Kd.R_drewN | apply Kd.R_drew)); exact HO258.out) hb); have n1_ := Aside0.mk (Kd.R_below (by (with_reducible repeat (first | apply Kd.R_alloc | apply Kd.R_drewN | apply Kd.R_drew)); exact HO263.out) hb); have n2_ := Aside0.mk (Kd.S_below (by (with_reducible repeat (first | apply Kd.S_alloc | apply Kd.S_drewN | apply Kd.S_drew)); exact HO267.out) hb); have n3_ := Aside0.mk (below_step (by repeat (first | (with_reducible first | exact HB.out | apply below_alloc | apply pw_below_drewN | apply below_drew1) | exact HB.out)) hb); clear HO258; clear HO263; clear HO267; clear HB; have HO258 := n0_; have HO263 := n1_; have HO267 := n2_; have HB := n3_; clear n0_ n1_ n2_ n3_; (try clear hb); (try clear hb2); (try clear hk); (try clear hi)) | ((with_reducible refine gate_callee (f := 16) rfl ?_); refine goesL_ (some 52) rfl rfl Try.func16 (by kernel_rfl) rfl #[.slice Ao14 t256.length co14, .int .i64 (wrap64 (1 + t259))] rfl (by (try simp only [List.map_toArray, List.map_cons, List.map_nil]); first | done | rfl | (simp only [List.length_drop, List.length_take]; rfl)) ?_; (with_reducible refine (impl_BestCuts.calls _ _ t256 (wrap64 (1 + t259)) t270 t271 _ ?side1 ?side2 A10.out).mono ?_); (case side1 => repeat (first | exact (Kd.R_reads' HO258.out).2.2 | (with_reducible refine Kd.C_alloc ?_ _) | (with_reducible refine Kd.C_drewN ?_ _) | (with_reducible refine Kd.C_drew ?_))); (case side2 => exact (Kd.R_reads' HO258.out).2.1); rintro e w18 ⟨v272, rfl, ho0, hb⟩; refine ⟨_, rfl, ?_⟩; have n0_ := Aside0.mk (Kd.R_elder' (by (with_reducible repeat (first | apply Kd.R_alloc | apply Kd.R_drewN | apply Kd.R_drew)); exact HO258.out) (Kd.R_base ho0) hb); have n1_ := Aside0.mk (Kd.R_elder' (by (with_reducible repeat (first | apply Kd.R_alloc | apply Kd.R_drewN | apply Kd.R_drew)); exact HO263.out) (Kd.R_base ho0) hb); have n2_ := Aside0.mk (Kd.S_elder' (by (with_reducible repeat (first | apply Kd.S_alloc | apply Kd.S_drewN | apply Kd.S_drew)); exact HO267.out) (Kd.R_base ho0) hb); have n3_ := Aside0.mk (Kd.R_lower (Kd.R_new' (Kd.R_new' ho0 (Kd.R_lt (by (with_reducible repeat (first | apply Kd.R_alloc | apply Kd.R_drewN | apply Kd.R_drew)); exact HO258.out))) (Kd.R_lt (by (with_reducible repeat (first | apply Kd.R_alloc | apply Kd.R_drewN | apply Kd.R_drew)); exact HO263.out))) (below_size (by repeat (first | (with_reducible first | exact HB.out | apply below_alloc | apply pw_below_drewN | apply below_drew1) | exact HB.out)))); have n4_ := Aside0.mk (below_step (by repeat (first | (with_reducible first | exact HB.out | apply below_alloc | apply pw_below_drewN | apply below_drew1) | exact HB.out)) hb); clear HO258; clear HO263; clear HO267; clear HB; have HO258 := n0_; have HO263 := n1_; have HO267 := n2_; have HO273 := n3_; have HB := n4_; clear n0_ n1_ n2_ n3_ n4_; (try clear hb); (try clear hb2); (try clear hk); (try clear hi); (try clear ho0); obtain ⟨Ao19, co19, eo19⟩ := Kd.R_slice HO273.out; subst eo19) | ((with_reducible refine gate_callee (f := 17) rfl ?_); refine goesL_ (some 59) rfl rfl Try.func17 (by kernel_rfl) rfl #[.slice Ao14 t256.length co14, .int .i64 (wrap64 (1 + t259)), .slice Ao19 t270.length co19] rfl (by (try simp only [List.map_toArray, List.map_cons, List.map_nil]); first | done | rfl | (simp only [List.length_drop, List.length_take]; rfl)) ?_; (with_reducible refine (impl_HitBound.calls _ _ t256 (wrap64 (1 + t259)) _ _ t270 t274 t275 _ ?side1 ?side2 ?side3 ?side4 A11.out).mono ?_); (case side1 => repeat (first | exact (Kd.R_reads' HO258.out).2.2 | (with_reducible refine Kd.C_alloc ?_ _) | (with_reducible refine Kd.C_drewN ?_ _) | (with_reducible refine Kd.C_drew ?_))); (case side2 => exact (Kd.R_reads' HO258.out).2.1); (case side3 => repeat (first | exact (Kd.R_reads' HO273.out).2.2 | (with_reducible refine Kd.C_alloc ?_ _) | (with_reducible refine Kd.C_drewN ?_ _) | (with_reducible refine Kd.C_drew ?_))); (case side4 => exact (Kd.R_reads' HO273.out).2.1); rintro e w20 ⟨rfl, hb⟩; refine ⟨_, rfl, ?_⟩; have n0_ := Aside0.mk (Kd.R_below (by (with_reducible repeat (first | apply Kd.R_alloc | apply Kd.R_drewN | apply Kd.R_drew)); exact HO258.out) hb); have n1_ := Aside0.mk (Kd.R_below (by (with_reducible repeat (first | apply Kd.R_alloc | apply Kd.R_drewN | apply Kd.R_drew)); exact HO263.out) hb); have n2_ := Aside0.mk (Kd.S_below (by (with_reducible repeat (first | apply Kd.S_alloc | apply Kd.S_drewN | apply Kd.S_drew)); exact HO267.out) hb); have n3_ := Aside0.mk (Kd.R_below (by (with_reducible repeat (first | apply Kd.R_alloc | apply Kd.R_drewN | apply Kd.R_drew)); exact HO273.out) hb); have n4_ := Aside0.mk (below_step (by repeat (first | (with_reducible first | exact HB.out | apply below_alloc | apply pw_below_drewN | apply below_drew1) | exact HB.out)) hb); clear HO258; clear HO263; clear HO267; clear HO273; clear HB; have HO258 := n0_; have HO263 := n1_; have HO267 := n2_; have HO273 := n3_; have HB := n4_; clear n0_ n1_ n2_ n3_ n4_; (try clear hb); (try clear hb2); (try clear hk); (try clear hi)))
    (try simp only [Act.put, List.setIfInBounds_toArray, List.set_cons_zero, List.set_cons_succ])
    go_cut [101] (fun v101 wc => ∃ (kq : Nat) (x101_11 : Bool), v101 = .bool x101_11 ∧ Aside0 (laws_FnIntervals.j0 kq l1 t256 (wrap64 (1 + t259)) t264 (wrap64 ((t256.length : Int) - t268)) x101_11 = some r) ∧ Aside0 (kq ≤ k) ∧ Aside0 (Kd.R (Kd.int .i64) 2 wc w.heap.size (fun _ => True) (.slice Ao14 t256.length co14) t256) ∧ Aside0 (Kd.S (Kd.slice 2 (Kd.int .i64)) 24 wc w.heap.size (fun k_ => some k_ ≠ ((.slice Ao14 t256.length co14) : Value).ownBlock) v266 t264) ∧ Aside0 (Below w.heap.size w wc))
    case first =>
      have H := HC12.out
      clear HC12
      by_cases c21 : t261 = true
      · subst c21
        have H1 : (if t265 = true then (if t269 = true then (if t271 = true then (if t275 = true then (if (t260.length : Int) = (wrap64 ((t256.length : Int) - t268)) then (if t274 = (wrap64 ((t256.length : Int) - t268)) then ((impl_IsKept.f k t256 (wrap64 (1 + t259)) t260).bind fun t276 => (laws_FnIntervals.j0 k l1 t256 (wrap64 (1 + t259)) t264 (wrap64 ((t256.length : Int) - t268)) (!t276))) else (laws_FnIntervals.j0 k l1 t256 (wrap64 (1 + t259)) t264 (wrap64 ((t256.length : Int) - t268)) true)) else (laws_FnIntervals.j0 k l1 t256 (wrap64 (1 + t259)) t264 (wrap64 ((t256.length : Int) - t268)) true)) else (laws_FnIntervals.j0 k l1 t256 (wrap64 (1 + t259)) t264 (wrap64 ((t256.length : Int) - t268)) true)) else (laws_FnIntervals.j0 k l1 t256 (wrap64 (1 + t259)) t264 (wrap64 ((t256.length : Int) - t268)) true)) else (laws_FnIntervals.j0 k l1 t256 (wrap64 (1 + t259)) t264 (wrap64 ((t256.length : Int) - t268)) true)) else (laws_FnIntervals.j0 k l1 t256 (wrap64 (1 + t259)) t264 (wrap64 ((t256.length : Int) - t268)) true)) = some r := by rw [if_pos rfl] at H; exact H
        clear H
        have H := H1
        clear H1
        by_cases c22 : t265 = true
        · subst c22
          have H1 : (if t269 = true then (if t271 = true then (if t275 = true then (if (t260.length : Int) = (wrap64 ((t256.length : Int) - t268)) then (if t274 = (wrap64 ((t256.length : Int) - t268)) then ((impl_IsKept.f k t256 (wrap64 (1 + t259)) t260).bind fun t276 => (laws_FnIntervals.j0 k l1 t256 (wrap64 (1 + t259)) t264 (wrap64 ((t256.length : Int) - t268)) (!t276))) else (laws_FnIntervals.j0 k l1 t256 (wrap64 (1 + t259)) t264 (wrap64 ((t256.length : Int) - t268)) true)) else (laws_FnIntervals.j0 k l1 t256 (wrap64 (1 + t259)) t264 (wrap64 ((t256.length : Int) - t268)) true)) else (laws_FnIntervals.j0 k l1 t256 (wrap64 (1 + t259)) t264 (wrap64 ((t256.length : Int) - t268)) true)) else (laws_FnIntervals.j0 k l1 t256 (wrap64 (1 + t259)) t264 (wrap64 ((t256.length : Int) - t268)) true)) else (laws_FnIntervals.j0 k l1 t256 (wrap64 (1 + t259)) t264 (wrap64 ((t256.length : Int) - t268)) true)) = some r := by rw [if_pos rfl] at H; exact H
          clear H
          have H := H1
          clear H1
          by_cases c23 : t269 = true
          · subst c23
            have H1 : (if t271 = true then (if t275 = true then (if (t260.length : Int) = (wrap64 ((t256.length : Int) - t268)) then (if t274 = (wrap64 ((t256.length : Int) - t268)) then ((impl_IsKept.f k t256 (wrap64 (1 + t259)) t260).bind fun t276 => (laws_FnIntervals.j0 k l1 t256 (wrap64 (1 + t259)) t264 (wrap64 ((t256.length : Int) - t268)) (!t276))) else (laws_FnIntervals.j0 k l1 t256 (wrap64 (1 + t259)) t264 (wrap64 ((t256.length : Int) - t268)) true)) else (laws_FnIntervals.j0 k l1 t256 (wrap64 (1 + t259)) t264 (wrap64 ((t256.length : Int) - t268)) true)) else (laws_FnIntervals.j0 k l1 t256 (wrap64 (1 + t259)) t264 (wrap64 ((t256.length : Int) - t268)) true)) else (laws_FnIntervals.j0 k l1 t256 (wrap64 (1 + t259)) t264 (wrap64 ((t256.length : Int) - t268)) true)) = some r := by rw [if_pos rfl] at H; exact H
            clear H
            have H := H1
            clear H1
            by_cases c24 : t271 = true
            · subst c24
              have H1 : (if t275 = true then (if (t260.length : Int) = (wrap64 ((t256.length : Int) - t268)) then (if t274 = (wrap64 ((t256.length : Int) - t268)) then ((impl_IsKept.f k t256 (wrap64 (1 + t259)) t260).bind fun t276 => (laws_FnIntervals.j0 k l1 t256 (wrap64 (1 + t259)) t264 (wrap64 ((t256.length : Int) - t268)) (!t276))) else (laws_FnIntervals.j0 k l1 t256 (wrap64 (1 + t259)) t264 (wrap64 ((t256.length : Int) - t268)) true)) else (laws_FnIntervals.j0 k l1 t256 (wrap64 (1 + t259)) t264 (wrap64 ((t256.length : Int) - t268)) true)) else (laws_FnIntervals.j0 k l1 t256 (wrap64 (1 + t259)) t264 (wrap64 ((t256.length : Int) - t268)) true)) = some r := by rw [if_pos rfl] at H; exact H
              clear H
              have H := H1
              clear H1
              by_cases c25 : t275 = true
              · subst c25
                have H1 : (if (t260.length : Int) = (wrap64 ((t256.length : Int) - t268)) then (if t274 = (wrap64 ((t256.length : Int) - t268)) then ((impl_IsKept.f k t256 (wrap64 (1 + t259)) t260).bind fun t276 => (laws_FnIntervals.j0 k l1 t256 (wrap64 (1 + t259)) t264 (wrap64 ((t256.length : Int) - t268)) (!t276))) else (laws_FnIntervals.j0 k l1 t256 (wrap64 (1 + t259)) t264 (wrap64 ((t256.length : Int) - t268)) true)) else (laws_FnIntervals.j0 k l1 t256 (wrap64 (1 + t259)) t264 (wrap64 ((t256.length : Int) - t268)) true)) = some r := by rw [if_pos rfl] at H; exact H
                clear H
                have H := H1
                clear H1
                by_cases c26 : (t260.length : Int) = (wrap64 ((t256.length : Int) - t268))
                · rw [if_pos c26] at H
                  have c26b0 : ((t260.length : Int) == (wrap64 ((t256.length : Int) - t268))) = true := beq_iff_eq.mpr c26
                  have c26b1 : ((t260.length : Int) != (wrap64 ((t256.length : Int) - t268))) = false := bne_eq_false_iff_eq.mpr c26
                  clear c26
                  (first | rw [c26b0] | (simp only [i64_w, i32_w]; rw [c26b0]) | skip)
                  by_cases c27 : t274 = (wrap64 ((t256.length : Int) - t268))
                  · rw [if_pos c27] at H
                    have c27b0 : (t274 == (wrap64 ((t256.length : Int) - t268))) = true := beq_iff_eq.mpr c27
                    have c27b1 : (t274 != (wrap64 ((t256.length : Int) - t268))) = false := bne_eq_false_iff_eq.mpr c27
                    clear c27
                    replace H := Option.bind_eq_some_iff.mp H
                    obtain ⟨t276, A280, H⟩ := H
                    replace H : (laws_FnIntervals.j0 k l1 t256 (wrap64 (1 + t259)) t264 (wrap64 ((t256.length : Int) - t268)) (!t276)) = some r := H
                    have A28 := Aside0.mk A280
                    clear A280
                    have H' := Aside0.mk H
                    clear H
                    obtain ⟨Ao29, co29, eo29⟩ := Kd.R_slice HO263.out
                    subst eo29
                    go_wp2_with (first | (go_at_call 18; (with_reducible refine (impl_IsKept.calls k _ _ t256 (wrap64 (1 + t259)) _ _ t260 t276 _ ?side1 ?side2 ?side3 ?side4 A28.out).mono ?_); (case side1 => repeat (first | exact (Kd.R_reads' HO258.out).2.2 | (with_reducible refine Kd.C_alloc ?_ _) | (with_reducible refine Kd.C_drewN ?_ _) | (with_reducible refine Kd.C_drew ?_))); (case side2 => exact (Kd.R_reads' HO258.out).2.1); (case side3 => repeat (first | exact (Kd.R_reads' HO263.out).2.2 | (with_reducible refine Kd.C_alloc ?_ _) | (with_reducible refine Kd.C_drewN ?_ _) | (with_reducible refine Kd.C_drew ?_))); (case side4 => exact (Kd.R_reads' HO263.out).2.1); rintro e w30 ⟨rfl, hb⟩; have n0_ := Aside0.mk (Kd.R_below (by (with_reducible repeat (first | apply Kd.R_alloc | apply Kd.R_drewN | apply Kd.R_drew)); exact HO258.out) hb); have n1_ := Aside0.mk (Kd.R_below (by (with_reducible repeat (first | apply Kd.R_alloc | apply Kd.R_drewN | apply Kd.R_drew)); exact HO263.out) hb); have n2_ := Aside0.mk (Kd.S_below (by (with_reducible repeat (first | apply Kd.S_alloc | apply Kd.S_drewN | apply Kd.S_drew)); exact HO267.out) hb); have n3_ := Aside0.mk (Kd.R_below (by (with_reducible repeat (first | apply Kd.R_alloc | apply Kd.R_drewN | apply Kd.R_drew)); exact HO273.out) hb); have n4_ := Aside0.mk (below_step (by repeat (first | (with_reducible first | exact HB.out | apply below_alloc | apply pw_below_drewN | apply below_drew1) | exact HB.out)) hb); clear HO258; clear HO263; clear HO267; clear HO273; clear HB; have HO258 := n0_; have HO263 := n1_; have HO267 := n2_; have HO273 := n3_; have HB := n4_; clear n0_ n1_ n2_ n3_ n4_; (try clear hb); (try clear hb2); (try clear hk); (try clear hi)))
                    go_meet
                    case rel => exact ⟨_, (!t276), (by first | rfl | (simp; done) | (simp [*]; done)), H', ⟨by first | omega | exact Nat.le_refl _⟩, ⟨by (with_reducible repeat (first | apply Kd.R_alloc | apply Kd.R_drewN | apply Kd.R_drew)); exact Kd.R_mono HO258.out (fun _ hk => trivial)⟩, ⟨by (with_reducible repeat (first | apply Kd.S_alloc | apply Kd.S_drewN | apply Kd.S_drew)); exact Kd.S_mono HO267.out (fun _ hk => hk.1.1.2)⟩, ⟨by repeat (first | (with_reducible first | exact HB.out | apply below_alloc | apply pw_below_drewN | apply below_drew1) | exact HB.out)⟩⟩
                  · rw [if_neg c27] at H
                    have c27b0 : (t274 == (wrap64 ((t256.length : Int) - t268))) = false := beq_eq_false_iff_ne.mpr c27
                    have c27b1 : (t274 != (wrap64 ((t256.length : Int) - t268))) = true := bne_iff_ne.mpr c27
                    have H' := Aside0.mk H
                    clear H
                    obtain ⟨Ao31, co31, eo31⟩ := Kd.R_slice HO263.out
                    subst eo31
                    go_wp2
                    go_meet
                    case rel => exact ⟨_, (true), (by first | rfl | (simp; done) | (simp [*]; done)), H', ⟨by first | omega | exact Nat.le_refl _⟩, ⟨by (with_reducible repeat (first | apply Kd.R_alloc | apply Kd.R_drewN | apply Kd.R_drew)); exact Kd.R_mono HO258.out (fun _ hk => trivial)⟩, ⟨by (with_reducible repeat (first | apply Kd.S_alloc | apply Kd.S_drewN | apply Kd.S_drew)); exact Kd.S_mono HO267.out (fun _ hk => hk.1.1.2)⟩, ⟨by repeat (first | (with_reducible first | exact HB.out | apply below_alloc | apply pw_below_drewN | apply below_drew1) | exact HB.out)⟩⟩
                · rw [if_neg c26] at H
                  have c26b0 : ((t260.length : Int) == (wrap64 ((t256.length : Int) - t268))) = false := beq_eq_false_iff_ne.mpr c26
                  have c26b1 : ((t260.length : Int) != (wrap64 ((t256.length : Int) - t268))) = true := bne_iff_ne.mpr c26
                  (first | rw [c26b0] | (simp only [i64_w, i32_w]; rw [c26b0]) | skip)
                  have H' := Aside0.mk H
                  clear H
                  obtain ⟨Ao32, co32, eo32⟩ := Kd.R_slice HO263.out
                  subst eo32
                  go_wp2
                  go_meet
                  case rel => exact ⟨_, (true), (by first | rfl | (simp; done) | (simp [*]; done)), H', ⟨by first | omega | exact Nat.le_refl _⟩, ⟨by (with_reducible repeat (first | apply Kd.R_alloc | apply Kd.R_drewN | apply Kd.R_drew)); exact Kd.R_mono HO258.out (fun _ hk => trivial)⟩, ⟨by (with_reducible repeat (first | apply Kd.S_alloc | apply Kd.S_drewN | apply Kd.S_drew)); exact Kd.S_mono HO267.out (fun _ hk => hk.1.1.2)⟩, ⟨by repeat (first | (with_reducible first | exact HB.out | apply below_alloc | apply pw_below_drewN | apply below_drew1) | exact HB.out)⟩⟩
              · replace c25 := Bool.eq_false_iff.mpr c25
                subst c25
                have H1 : (laws_FnIntervals.j0 k l1 t256 (wrap64 (1 + t259)) t264 (wrap64 ((t256.length : Int) - t268)) true) = some r := by rw [if_neg (show ¬ (false = true) by decide)] at H; exact H
                clear H
                have H := H1
                clear H1
                have H' := Aside0.mk H
                clear H
                go_wp2
                go_meet
                case rel => exact ⟨_, (true), (by first | rfl | (simp; done) | (simp [*]; done)), H', ⟨by first | omega | exact Nat.le_refl _⟩, ⟨by (with_reducible repeat (first | apply Kd.R_alloc | apply Kd.R_drewN | apply Kd.R_drew)); exact Kd.R_mono HO258.out (fun _ hk => trivial)⟩, ⟨by (with_reducible repeat (first | apply Kd.S_alloc | apply Kd.S_drewN | apply Kd.S_drew)); exact Kd.S_mono HO267.out (fun _ hk => hk.1.1.2)⟩, ⟨by repeat (first | (with_reducible first | exact HB.out | apply below_alloc | apply pw_below_drewN | apply below_drew1) | exact HB.out)⟩⟩
            · replace c24 := Bool.eq_false_iff.mpr c24
              subst c24
              have H1 : (laws_FnIntervals.j0 k l1 t256 (wrap64 (1 + t259)) t264 (wrap64 ((t256.length : Int) - t268)) true) = some r := by rw [if_neg (show ¬ (false = true) by decide)] at H; exact H
              clear H
              have H := H1
              clear H1
              have H' := Aside0.mk H
              clear H
              go_wp2
              go_meet
              case rel => exact ⟨_, (true), (by first | rfl | (simp; done) | (simp [*]; done)), H', ⟨by first | omega | exact Nat.le_refl _⟩, ⟨by (with_reducible repeat (first | apply Kd.R_alloc | apply Kd.R_drewN | apply Kd.R_drew)); exact Kd.R_mono HO258.out (fun _ hk => trivial)⟩, ⟨by (with_reducible repeat (first | apply Kd.S_alloc | apply Kd.S_drewN | apply Kd.S_drew)); exact Kd.S_mono HO267.out (fun _ hk => hk.1.1.2)⟩, ⟨by repeat (first | (with_reducible first | exact HB.out | apply below_alloc | apply pw_below_drewN | apply below_drew1) | exact HB.out)⟩⟩
          · replace c23 := Bool.eq_false_iff.mpr c23
            subst c23
            have H1 : (laws_FnIntervals.j0 k l1 t256 (wrap64 (1 + t259)) t264 (wrap64 ((t256.length : Int) - t268)) true) = some r := by rw [if_neg (show ¬ (false = true) by decide)] at H; exact H
            clear H
            have H := H1
            clear H1
            have H' := Aside0.mk H
            clear H
            go_wp2
            go_meet
            case rel => exact ⟨_, (true), (by first | rfl | (simp; done) | (simp [*]; done)), H', ⟨by first | omega | exact Nat.le_refl _⟩, ⟨by (with_reducible repeat (first | apply Kd.R_alloc | apply Kd.R_drewN | apply Kd.R_drew)); exact Kd.R_mono HO258.out (fun _ hk => trivial)⟩, ⟨by (with_reducible repeat (first | apply Kd.S_alloc | apply Kd.S_drewN | apply Kd.S_drew)); exact Kd.S_mono HO267.out (fun _ hk => hk.1.1.2)⟩, ⟨by repeat (first | (with_reducible first | exact HB.out | apply below_alloc | apply pw_below_drewN | apply below_drew1) | exact HB.out)⟩⟩
        · replace c22 := Bool.eq_false_iff.mpr c22
          subst c22
          have H1 : (laws_FnIntervals.j0 k l1 t256 (wrap64 (1 + t259)) t264 (wrap64 ((t256.length : Int) - t268)) true) = some r := by rw [if_neg (show ¬ (false = true) by decide)] at H; exact H
          clear H
          have H := H1
          clear H1
          have H' := Aside0.mk H
          clear H
          go_wp2
          go_meet
          case rel => exact ⟨_, (true), (by first | rfl | (simp; done) | (simp [*]; done)), H', ⟨by first | omega | exact Nat.le_refl _⟩, ⟨by (with_reducible repeat (first | apply Kd.R_alloc | apply Kd.R_drewN | apply Kd.R_drew)); exact Kd.R_mono HO258.out (fun _ hk => trivial)⟩, ⟨by (with_reducible repeat (first | apply Kd.S_alloc | apply Kd.S_drewN | apply Kd.S_drew)); exact Kd.S_mono HO267.out (fun _ hk => hk.1.1.2)⟩, ⟨by repeat (first | (with_reducible first | exact HB.out | apply below_alloc | apply pw_below_drewN | apply below_drew1) | exact HB.out)⟩⟩
      · replace c21 := Bool.eq_false_iff.mpr c21
        subst c21
        have H1 : (laws_FnIntervals.j0 k l1 t256 (wrap64 (1 + t259)) t264 (wrap64 ((t256.length : Int) - t268)) true) = some r := by rw [if_neg (show ¬ (false = true) by decide)] at H; exact H
        clear H
        have H := H1
        clear H1
        have H' := Aside0.mk H
        clear H
        go_wp2
        go_meet
        case rel => exact ⟨_, (true), (by first | rfl | (simp; done) | (simp [*]; done)), H', ⟨by first | omega | exact Nat.le_refl _⟩, ⟨by (with_reducible repeat (first | apply Kd.R_alloc | apply Kd.R_drewN | apply Kd.R_drew)); exact Kd.R_mono HO258.out (fun _ hk => trivial)⟩, ⟨by (with_reducible repeat (first | apply Kd.S_alloc | apply Kd.S_drewN | apply Kd.S_drew)); exact Kd.S_mono HO267.out (fun _ hk => hk.1.1.2)⟩, ⟨by repeat (first | (with_reducible first | exact HB.out | apply below_alloc | apply pw_below_drewN | apply below_drew1) | exact HB.out)⟩⟩
    case rest =>
      clear HC12
      try clear c1
      try clear c2
      try clear p2
      try clear c3
      try clear c4
      try clear p6
      try clear c10
      try clear c11
      try clear c12
      try clear c13
      try clear c14
      try clear c15
      try clear c16
      try clear c17
      try clear c21
      try clear c22
      try clear c23
      try clear c24
      try clear c25
      try clear c26
      try clear c26b0
      try clear c26b1
      try clear c27
      try clear c27b0
      try clear c27b1
      obtain ⟨kq, x101_11, rfl, HA, HJ11, HO_5, HO_9, HB⟩ := hcut
      cases kq with
      | zero => exact absurd HA.out (by simp [laws_FnIntervals.j0])
      | succ kj11 =>
        have H := HA.out
        clear HA
        simp only [laws_FnIntervals.j0] at H
        by_cases c33 : x101_11 = true
        · subst c33
          have H1 : (some false) = some r := by rw [if_pos rfl] at H; exact H
          clear H
          have H := H1
          clear H1
          obtain rfl := Option.some.inj H
          go_wp2
          go_ret
          exact ⟨by first | rfl | (simp [errW_none, errW_some] <;> rfl) | (simp [*, errW_none, errW_some] <;> rfl), by repeat (first | (with_reducible first | exact HB.out | apply below_alloc | apply pw_below_drewN | apply below_drew1) | exact HB.out)⟩
        · replace c33 := Bool.eq_false_iff.mpr c33
          subst c33
          have H1 : (laws_FnIntervals.l0 kj11 l1 t256 (wrap64 (1 + t259)) t264 (wrap64 ((t256.length : Int) - t268)) (([] : List Int)) 0) = some r := by rw [if_neg (show ¬ (false = true) by decide)] at H; exact H
          clear H
          have H := H1
          clear H1
          obtain ⟨y277, hy277⟩ : ∃ y_ : List Int, y_ = (([] : List Int)) := ⟨_, rfl⟩
          replace H : (laws_FnIntervals.l0 kj11 l1 t256 (wrap64 (1 + t259)) t264 (wrap64 ((t256.length : Int) - t268)) y277 0) = some r := by first | (rw [hy277]; with_reducible exact H) | (have H2_ := (Option.bind_some _ _).symm.trans H; rw [hy277]; with_reducible exact H2_) | (have H2_ := (Option.bind_some _ _).symm.trans H; with_reducible exact H2_) | with_reducible exact H | (rw [hy277]; exact H) | exact H
          have Ny277 := Aside0.mk hy277
          clear hy277
          have H' := Aside0.mk H
          clear H
          go_wp2_with (first | ((with_reducible refine gate_dst (N := 102) rfl ?_); (try (refine gate_guard (by rfl) ?_; dsimp only)); refine Kd.R_lit (Kd.int .i64) _ 2 ?hg (N := 102) ?hd (xs := ([] : List Int)) (inner := []) (ok := fun _ => True) (okp := fun _ => True) ?hr ?hp (fun _ hk => hk) trivial (Below.refl _ _) (Nat.le_refl _) (by simp) ?_; (case hd => rfl); (case hg => rfl); (case hr => first | (go_simp; done) | (go_simp; rfl)); (case hp => exact (Reps.none _ _)); intro v278 w34 ho35 hb hg_ hnew_; clear hg_ hnew_; (first | rw [← Ny277.out] at ho35 | (simp only [Int.reduceToNat] at ho35; rw [← Ny277.out] at ho35)); have n0_ := Aside0.mk (Kd.R_elder' (by (with_reducible repeat (first | apply Kd.R_alloc | apply Kd.R_drewN | apply Kd.R_drew)); exact HO_5.out) (Kd.R_base ho35) hb); have n1_ := Aside0.mk (Kd.S_elder' (by (with_reducible repeat (first | apply Kd.S_alloc | apply Kd.S_drewN | apply Kd.S_drew)); exact HO_9.out) (Kd.R_base ho35) hb); have n2_ := Aside0.mk (Kd.R_lower (Kd.R_new' ho35 (Kd.R_lt (by (with_reducible repeat (first | apply Kd.R_alloc | apply Kd.R_drewN | apply Kd.R_drew)); exact HO_5.out))) (below_size (by repeat (first | (with_reducible first | exact HB.out | apply below_alloc | apply pw_below_drewN | apply below_drew1) | exact HB.out)))); have n3_ := Aside0.mk (below_step (by repeat (first | (with_reducible first | exact HB.out | apply below_alloc | apply pw_below_drewN | apply below_drew1) | exact HB.out)) hb); clear HO_5; clear HO_9; clear HB; have HO_5 := n0_; have HO_9 := n1_; have HO279 := n2_; have HB := n3_; clear n0_ n1_ n2_ n3_; clear hb ho35))
          go_loopg [18, 19] kj11 (fun kq v18 v19 w' => ∃ (x18_2 : List Int) (x19_2 : Int), v19 = .int .i64 x19_2 ∧ Aside0 (laws_FnIntervals.l0 kq l1 t256 (wrap64 (1 + t259)) t264 (wrap64 ((t256.length : Int) - t268)) x18_2 x19_2 = some r) ∧ Aside0 (kq ≤ kj11) ∧ Aside0 (Kd.R (Kd.int .i64) 2 w' w.heap.size (fun k_ => some k_ ≠ (v18 : Value).ownBlock) (.slice Ao14 t256.length co14) t256) ∧ Aside0 (Kd.S (Kd.slice 2 (Kd.int .i64)) 24 w' w.heap.size (fun k_ => some k_ ≠ ((.slice Ao14 t256.length co14) : Value).ownBlock ∧ some k_ ≠ (v18 : Value).ownBlock) v266 t264) ∧ Aside0 (Kd.R (Kd.int .i64) 2 w' w.heap.size (fun k_ => some k_ ≠ ((.slice Ao14 t256.length co14) : Value).ownBlock) v18 x18_2) ∧ Aside0 (Below w.heap.size w w'))
          case atStart => exact ⟨(y277), (0), (by first | rfl | (simp; done) | (simp [*]; done)), H', ⟨Nat.le_refl _⟩, ⟨by (with_reducible repeat (first | apply Kd.R_alloc | apply Kd.R_drewN | apply Kd.R_drew)); exact Kd.R_mono HO_5.out (fun _ hk => hk.2)⟩, ⟨by (with_reducible repeat (first | apply Kd.S_alloc | apply Kd.S_drewN | apply Kd.S_drew)); exact HO_9.out⟩, ⟨by (with_reducible repeat (first | apply Kd.R_alloc | apply Kd.R_drewN | apply Kd.R_drew)); exact Kd.R_mono HO279.out (fun _ hk => hk.2)⟩, ⟨by repeat (first | (with_reducible first | exact HB.out | apply below_alloc | apply pw_below_drewN | apply below_drew1) | exact HB.out)⟩⟩
          case round =>
            clear H'
            try clear c1
            try clear c2
            try clear p2
            try clear c3
            try clear c4
            try clear p6
            try clear c10
            try clear c11
            try clear c12
            try clear c13
            try clear c14
            try clear c15
            try clear c16
            try clear c17
            try clear c21
            try clear c22
            try clear c23
            try clear c24
            try clear c25
            try clear c26
            try clear c26b0
            try clear c26b1
            try clear c27
            try clear c27b0
            try clear c27b1
            try clear c33
            try clear p2
            try clear p6
            obtain ⟨x18_2, x19_2, rfl, HA, HK2, HO_5, HO_9, HO_18, HB⟩ := hrel
            cases gk with
            | zero => exact absurd HA.out (by simp [laws_FnIntervals.l0])
            | succ k2 =>
              have H := HA.out
              clear HA
              simp only [laws_FnIntervals.l0] at H
              by_cases c36 : x19_2 < (t264.length : Int)
              · rw [if_pos c36] at H
                have c36b0 : decide (x19_2 < (t264.length : Int)) = true := decide_eq_true c36
                clear c36
                by_cases c37 : 0 ≤ x19_2
                · rw [if_pos c37] at H
                  have c37b0 : decide (0 ≤ x19_2) = true := decide_eq_true c37
                  clear c37
                  by_cases c38 : ((rd_L2 t264 x19_2).length : Int) = 2
                  · rw [if_pos c38] at H
                    have c38b0 : (((rd_L2 t264 x19_2).length : Int) == 2) = true := beq_iff_eq.mpr c38
                    have c38b1 : (((rd_L2 t264 x19_2).length : Int) != 2) = false := bne_eq_false_iff_eq.mpr c38
                    clear c38
                    replace H := Option.bind_eq_some_iff.mp H
                    obtain ⟨t281, A390, H⟩ := H
                    replace H : (if t281 > 0 then (if x18_2.length < 17592186044416 then (laws_FnIntervals.l0 k2 l1 t256 (wrap64 (1 + t259)) t264 (wrap64 ((t256.length : Int) - t268)) (x18_2 ++ [x19_2]) (wrap64 (x19_2 + 1))) else (none)) else (laws_FnIntervals.l0 k2 l1 t256 (wrap64 (1 + t259)) t264 (wrap64 ((t256.length : Int) - t268)) x18_2 (wrap64 (x19_2 + 1)))) = some r := H
                    have A39 := Aside0.mk A390
                    clear A390
                    by_cases c40 : t281 > 0
                    · rw [if_pos c40] at H
                      have c40b0 : decide (0 < t281) = true := decide_eq_true c40
                      clear c40
                      by_cases c41 : x18_2.length < 17592186044416
                      · rw [if_pos c41] at H
                        have LMc41 := Aside0.mk c41
                        clear c41
                        obtain ⟨y282, hy282⟩ : ∃ y_ : List Int, y_ = (x18_2 ++ [x19_2]) := ⟨_, rfl⟩
                        replace H : (laws_FnIntervals.l0 k2 l1 t256 (wrap64 (1 + t259)) t264 (wrap64 ((t256.length : Int) - t268)) y282 (wrap64 (x19_2 + 1))) = some r := by first | (rw [hy282]; with_reducible exact H) | (have H2_ := (Option.bind_some _ _).symm.trans H; rw [hy282]; with_reducible exact H2_) | (have H2_ := (Option.bind_some _ _).symm.trans H; with_reducible exact H2_) | with_reducible exact H | (rw [hy282]; exact H) | exact H
                        have Ny282 := Aside0.mk hy282
                        clear hy282
                        have H' := Aside0.mk H
                        clear H
                        obtain ⟨Ao42, co42, eo42⟩ := Kd.S_slice HO_9.out
                        subst eo42
                        have p280 : 0 ≤ (x19_2 : Int) := of_decide_eq_true (by first | (with_reducible assumption) | assumption)
                        have q280 : x19_2 < (t264.length : Int) := of_decide_eq_true (by first | (with_reducible assumption) | assumption)
                        obtain ⟨ad280, A280_0, c280_0, e280, hx280_0, hl280_0, hi280_0⟩ := at_L2 (Kd.S_reads' HO_9.out).2.2 x19_2 p280 q280
                        cases e280
                        obtain ⟨ce280, hce280, hMe280, hcc280⟩ := Kd.S_get HO_9.out [] x19_2 p280 (by first | exact q280 | exact of_decide_eq_true (by first | (with_reducible assumption) | assumption) | (have e_ := (Kd.S_reads' HO_9.out).1; omega))
                        obtain ⟨ve280_0, rfl, ge280_0⟩ := hMe280
                        have hv280_0 := hcc280 0 _ rfl
                        rw [Nat.add_zero, show ((Kd.slice 2 (Kd.int .i64))).sz = 1 from rfl, Nat.mul_one] at hv280_0
                        replace hv280_0 := Option.some.inj (hv280_0.symm.trans hx280_0)
                        rw [hv280_0] at ge280_0
                        have HL280_0 := Aside0.mk (show Kd.R (Kd.int .i64) 2 _ _ _ _ (rd_L2 t264 x19_2) from ge280_0)
                        clear hv280_0 ge280_0
                        clear hcc280 hce280
                        have HR280_0 := Aside0.mk hi280_0
                        have HC280_0 := Aside0.mk hl280_0
                        clear hi280_0 hl280_0
                        replace p280 := eq_true p280
                        replace q280 := eq_true q280
                        go_wp2_with (first | ((with_reducible refine gate_callee (f := 12) rfl ?_); refine goesL_ (some 118) rfl rfl Try.func12 (by kernel_rfl) rfl #[.slice A1 l1.length c1, .int .i64 (wrap64 (x19_2 + 1)), .int .i64 3] rfl (by (try simp only [List.map_toArray, List.map_cons, List.map_nil]); first | done | rfl | (simp only [List.length_drop, List.length_take]; rfl)) ?_; (with_reducible refine (laws_b10At.calls _ _ l1 (wrap64 (x19_2 + 1)) 3 t281 _ ?side1 ?side2 A39.out).mono ?_); (case side1 => repeat (first | exact (Kd.C_below HR1.out HB.out) | (with_reducible refine Kd.C_alloc ?_ _) | (with_reducible refine Kd.C_drewN ?_ _) | (with_reducible refine Kd.C_drew ?_))); (case side2 => exact HC1.out); rintro e w' ⟨rfl, ⟨nd, rfl⟩⟩; refine ⟨_, rfl, ?_⟩) | ((with_reducible refine gate_builtin (b := .append) (xs := #[.tmp 120, .tmp 122]) rfl ?_); (try (refine gate_guard (by rfl) ?_; dsimp only)); at_builtin; refine Kd.R_append (Kd.int .i64) (w0 := w) w.heap.size rfl (.tmp 120) (.tmp 122) 24 2 (.int .i64 0) 8 rfl Try.underlying24 info2 rfl (by decide) (by omega) u18 x18_2 x19_2 [.int .i64 x19_2] (fun k_ => some k_ ≠ (.slice Ao14 t256.length co14 : Value).ownBlock) (fun _ => False) rfl rfl ?aP (fun _ hk => hk.elim) ?aF ?aO ?aB ?aS ?aL ?_; (case aP => exact rfl); (case aB => exact (by repeat (first | (with_reducible first | exact HB.out | apply below_alloc | apply pw_below_drewN | apply below_drew1) | exact HB.out))); (case aF => exact (fun k_ hk => Kd.fresh' (Kd.R_lt (by (with_reducible repeat (first | apply Kd.R_alloc | apply Kd.R_drewN | apply Kd.R_drew)); exact HO_5.out)) k_ hk)); (case aO => exact (by (with_reducible repeat (first | apply Kd.R_alloc | apply Kd.R_drewN | apply Kd.R_drew)); exact HO_18.out)); (case aS => exact (below_size (by repeat (first | (with_reducible first | exact HB.out | apply below_alloc | apply pw_below_drewN | apply below_drew1) | exact HB.out)))); (case aL => have := LMc41.out; omega); intro v283 w43 ho hb hg hat; rw [← Ny282.out] at ho; have n0_ := Aside0.mk (Kd.R_after (ok := (fun _ => True)) (by (with_reducible repeat (first | apply Kd.R_alloc | apply Kd.R_drewN | apply Kd.R_drew)); exact Kd.R_mono HO_5.out (fun _ hk => ⟨trivial, hk⟩)) hg hat); have n1_ := Aside0.mk (Kd.S_after (ok := (fun k_ => some k_ ≠ (.slice Ao14 t256.length co14 : Value).ownBlock)) (by (with_reducible repeat (first | apply Kd.S_alloc | apply Kd.S_drewN | apply Kd.S_drew)); exact HO_9.out) hg hat); have n2_ := Aside0.mk (Kd.R_after (ok := (fun k_ => some k_ ≠ (.slice Ao14 t256.length co14 : Value).ownBlock ∧ some k_ ≠ (.slice (some ad280) t264.length co42 : Value).ownBlock)) (by (with_reducible repeat (first | apply Kd.R_alloc | apply Kd.R_drewN | apply Kd.R_drew)); exact Kd.R_mono HL280_0.out (fun _ hk => ⟨⟨hk.1.1, hk.2⟩, hk.1.2⟩)) hg hat); have n3_ := Aside0.mk (hb); have n4_ := Aside0.mk (ho); clear HO_5; clear HO_9; clear HL280_0; clear HB; clear HO_18; have HO_5 := n0_; have HO_9 := n1_; have HL280_0 := n2_; have HB := n3_; have HO284 := n4_; clear n0_ n1_ n2_ n3_ n4_; clear ho hb hg hat))
                        go_roundg k2
                        case measure => have := HJ11.out; have := HK2.out; omega
                        case rel => exact ⟨(y282), (wrap64 (x19_2 + 1)), (by first | rfl | (simp; done) | (simp [*]; done)), H', ⟨by have := HJ11.out; have := HK2.out; omega⟩, ⟨by (with_reducible repeat (first | apply Kd.R_alloc | apply Kd.R_drewN | apply Kd.R_drew)); exact Kd.R_mono HO_5.out (fun _ hk => hk.2)⟩, ⟨by (with_reducible repeat (first | apply Kd.S_alloc | apply Kd.S_drewN | apply Kd.S_drew)); exact HO_9.out⟩, ⟨by (with_reducible repeat (first | apply Kd.R_alloc | apply Kd.R_drewN | apply Kd.R_drew)); exact HO284.out⟩, ⟨by repeat (first | (with_reducible first | exact HB.out | apply below_alloc | apply pw_below_drewN | apply below_drew1) | exact HB.out)⟩⟩
                      · rw [if_neg c41] at H
                        exact absurd H (by simp)
                    · rw [if_neg c40] at H
                      have c40b0 : decide (0 < t281) = false := decide_eq_false c40
                      clear c40
                      have H' := Aside0.mk H
                      clear H
                      obtain ⟨Ao44, co44, eo44⟩ := Kd.S_slice HO_9.out
                      subst eo44
                      have p280 : 0 ≤ (x19_2 : Int) := of_decide_eq_true (by first | (with_reducible assumption) | assumption)
                      have q280 : x19_2 < (t264.length : Int) := of_decide_eq_true (by first | (with_reducible assumption) | assumption)
                      obtain ⟨ad280, A280_0, c280_0, e280, hx280_0, hl280_0, hi280_0⟩ := at_L2 (Kd.S_reads' HO_9.out).2.2 x19_2 p280 q280
                      cases e280
                      obtain ⟨ce280, hce280, hMe280, hcc280⟩ := Kd.S_get HO_9.out [] x19_2 p280 (by first | exact q280 | exact of_decide_eq_true (by first | (with_reducible assumption) | assumption) | (have e_ := (Kd.S_reads' HO_9.out).1; omega))
                      obtain ⟨ve280_0, rfl, ge280_0⟩ := hMe280
                      have hv280_0 := hcc280 0 _ rfl
                      rw [Nat.add_zero, show ((Kd.slice 2 (Kd.int .i64))).sz = 1 from rfl, Nat.mul_one] at hv280_0
                      replace hv280_0 := Option.some.inj (hv280_0.symm.trans hx280_0)
                      rw [hv280_0] at ge280_0
                      have HL280_0 := Aside0.mk (show Kd.R (Kd.int .i64) 2 _ _ _ _ (rd_L2 t264 x19_2) from ge280_0)
                      clear hv280_0 ge280_0
                      clear hcc280 hce280
                      have HR280_0 := Aside0.mk hi280_0
                      have HC280_0 := Aside0.mk hl280_0
                      clear hi280_0 hl280_0
                      replace p280 := eq_true p280
                      replace q280 := eq_true q280
                      go_wp2_with (first | ((with_reducible refine gate_callee (f := 12) rfl ?_); refine goesL_ (some 118) rfl rfl Try.func12 (by kernel_rfl) rfl #[.slice A1 l1.length c1, .int .i64 (wrap64 (x19_2 + 1)), .int .i64 3] rfl (by (try simp only [List.map_toArray, List.map_cons, List.map_nil]); first | done | rfl | (simp only [List.length_drop, List.length_take]; rfl)) ?_; (with_reducible refine (laws_b10At.calls _ _ l1 (wrap64 (x19_2 + 1)) 3 t281 _ ?side1 ?side2 A39.out).mono ?_); (case side1 => repeat (first | exact (Kd.C_below HR1.out HB.out) | (with_reducible refine Kd.C_alloc ?_ _) | (with_reducible refine Kd.C_drewN ?_ _) | (with_reducible refine Kd.C_drew ?_))); (case side2 => exact HC1.out); rintro e w' ⟨rfl, ⟨nd, rfl⟩⟩; refine ⟨_, rfl, ?_⟩))
                      go_roundg k2
                      case measure => have := HJ11.out; have := HK2.out; omega
                      case rel => exact ⟨(x18_2), (wrap64 (x19_2 + 1)), (by first | rfl | (simp; done) | (simp [*]; done)), H', ⟨by have := HJ11.out; have := HK2.out; omega⟩, ⟨by (with_reducible repeat (first | apply Kd.R_alloc | apply Kd.R_drewN | apply Kd.R_drew)); exact HO_5.out⟩, ⟨by (with_reducible repeat (first | apply Kd.S_alloc | apply Kd.S_drewN | apply Kd.S_drew)); exact HO_9.out⟩, ⟨by (with_reducible repeat (first | apply Kd.R_alloc | apply Kd.R_drewN | apply Kd.R_drew)); exact HO_18.out⟩, ⟨by repeat (first | (with_reducible first | exact HB.out | apply below_alloc | apply pw_below_drewN | apply below_drew1) | exact HB.out)⟩⟩
                  · rw [if_neg c38] at H
                    have c38b0 : (((rd_L2 t264 x19_2).length : Int) == 2) = false := beq_eq_false_iff_ne.mpr c38
                    have c38b1 : (((rd_L2 t264 x19_2).length : Int) != 2) = true := bne_iff_ne.mpr c38
                    obtain rfl := Option.some.inj H
                    obtain ⟨Ao45, co45, eo45⟩ := Kd.S_slice HO_9.out
                    subst eo45
                    have p280 : 0 ≤ (x19_2 : Int) := of_decide_eq_true (by first | (with_reducible assumption) | assumption)
                    have q280 : x19_2 < (t264.length : Int) := of_decide_eq_true (by first | (with_reducible assumption) | assumption)
                    obtain ⟨ad280, A280_0, c280_0, e280, hx280_0, hl280_0, hi280_0⟩ := at_L2 (Kd.S_reads' HO_9.out).2.2 x19_2 p280 q280
                    cases e280
                    obtain ⟨ce280, hce280, hMe280, hcc280⟩ := Kd.S_get HO_9.out [] x19_2 p280 (by first | exact q280 | exact of_decide_eq_true (by first | (with_reducible assumption) | assumption) | (have e_ := (Kd.S_reads' HO_9.out).1; omega))
                    obtain ⟨ve280_0, rfl, ge280_0⟩ := hMe280
                    have hv280_0 := hcc280 0 _ rfl
                    rw [Nat.add_zero, show ((Kd.slice 2 (Kd.int .i64))).sz = 1 from rfl, Nat.mul_one] at hv280_0
                    replace hv280_0 := Option.some.inj (hv280_0.symm.trans hx280_0)
                    rw [hv280_0] at ge280_0
                    have HL280_0 := Aside0.mk (show Kd.R (Kd.int .i64) 2 _ _ _ _ (rd_L2 t264 x19_2) from ge280_0)
                    clear hv280_0 ge280_0
                    clear hcc280 hce280
                    have HR280_0 := Aside0.mk hi280_0
                    have HC280_0 := Aside0.mk hl280_0
                    clear hi280_0 hl280_0
                    replace p280 := eq_true p280
                    replace q280 := eq_true q280
                    go_wp2
                    go_ret
                    exact ⟨by first | rfl | (simp [errW_none, errW_some] <;> rfl) | (simp [*, errW_none, errW_some] <;> rfl), by repeat (first | (with_reducible first | exact HB.out | apply below_alloc | apply pw_below_drewN | apply below_drew1) | exact HB.out)⟩
                · rw [if_neg c37] at H
                  exact absurd H (by simp)
              · rw [if_neg c36] at H
                have c36b0 : decide (x19_2 < (t264.length : Int)) = false := decide_eq_false c36
                clear c36
                have HC46 := Aside0.mk H
                clear H
                obtain ⟨Ao47, co47, eo47⟩ := Kd.S_slice HO_9.out
                subst eo47
                go_upto_region 21 with (fail)
                go_cut [133] (fun v133 wc => ∃ (kq : Nat) (x133_45 : Bool), v133 = .bool x133_45 ∧ Aside0 (laws_FnIntervals.j2 kq l1 t256 (wrap64 (1 + t259)) (wrap64 ((t256.length : Int) - t268)) x133_45 = some r) ∧ Aside0 (kq ≤ k2) ∧ Aside0 (Kd.R (Kd.int .i64) 2 wc w.heap.size (fun _ => True) (.slice Ao14 t256.length co14) t256) ∧ Aside0 (Below w.heap.size w wc))
                case first =>
                  have H := HC46.out
                  clear HC46
                  replace H := Option.bind_eq_some_iff.mp H
                  obtain ⟨t285, A480, H⟩ := H
                  replace H : (if t285 = true then (laws_FnIntervals.j2 k2 l1 t256 (wrap64 (1 + t259)) (wrap64 ((t256.length : Int) - t268)) (decide ((x18_2.length : Int) > (wrap64 ((t256.length : Int) - t268))))) else (laws_FnIntervals.j2 k2 l1 t256 (wrap64 (1 + t259)) (wrap64 ((t256.length : Int) - t268)) false)) = some r := H
                  have A48 := Aside0.mk A480
                  clear A480
                  by_cases c49 : t285 = true
                  · subst c49
                    have H1 : (laws_FnIntervals.j2 k2 l1 t256 (wrap64 (1 + t259)) (wrap64 ((t256.length : Int) - t268)) (decide ((x18_2.length : Int) > (wrap64 ((t256.length : Int) - t268))))) = some r := by rw [if_pos rfl] at H; exact H
                    clear H
                    have H := H1
                    clear H1
                    have H' := Aside0.mk H
                    clear H
                    obtain ⟨Ao50, co50, eo50⟩ := Kd.R_slice HO_18.out
                    subst eo50
                    go_wp2_with (first | ((with_reducible refine gate_callee (f := 18) rfl ?_); refine goesL_ (some 127) rfl rfl Try.func18 (by kernel_rfl) rfl #[.slice Ao14 t256.length co14, .int .i64 (wrap64 (1 + t259)), .slice Ao50 x18_2.length co50] rfl (by (try simp only [List.map_toArray, List.map_cons, List.map_nil]); first | done | rfl | (simp only [List.length_drop, List.length_take]; rfl)) ?_; (with_reducible refine (impl_IsKept.calls k2 _ _ t256 (wrap64 (1 + t259)) _ _ x18_2 true _ ?side1 ?side2 ?side3 ?side4 A48.out).mono ?_); (case side1 => repeat (first | exact (Kd.R_reads' HO_5.out).2.2 | (with_reducible refine Kd.C_alloc ?_ _) | (with_reducible refine Kd.C_drewN ?_ _) | (with_reducible refine Kd.C_drew ?_))); (case side2 => exact (Kd.R_reads' HO_5.out).2.1); (case side3 => repeat (first | exact (Kd.R_reads' HO_18.out).2.2 | (with_reducible refine Kd.C_alloc ?_ _) | (with_reducible refine Kd.C_drewN ?_ _) | (with_reducible refine Kd.C_drew ?_))); (case side4 => exact (Kd.R_reads' HO_18.out).2.1); rintro e w51 ⟨rfl, hb⟩; refine ⟨_, rfl, ?_⟩; have n0_ := Aside0.mk (Kd.R_below (by (with_reducible repeat (first | apply Kd.R_alloc | apply Kd.R_drewN | apply Kd.R_drew)); exact HO_5.out) hb); have n1_ := Aside0.mk (Kd.S_below (by (with_reducible repeat (first | apply Kd.S_alloc | apply Kd.S_drewN | apply Kd.S_drew)); exact HO_9.out) hb); have n2_ := Aside0.mk (Kd.R_below (by (with_reducible repeat (first | apply Kd.R_alloc | apply Kd.R_drewN | apply Kd.R_drew)); exact HO_18.out) hb); have n3_ := Aside0.mk (below_step (by repeat (first | (with_reducible first | exact HB.out | apply below_alloc | apply pw_below_drewN | apply below_drew1) | exact HB.out)) hb); clear HO_5; clear HO_9; clear HO_18; clear HB; have HO_5 := n0_; have HO_9 := n1_; have HO_18 := n2_; have HB := n3_; clear n0_ n1_ n2_ n3_; (try clear hb); (try clear hb2); (try clear hk); (try clear hi)))
                    go_meet
                    case rel => exact ⟨_, (decide ((x18_2.length : Int) > (wrap64 ((t256.length : Int) - t268)))), (by first | rfl | (simp; done) | (simp [*]; done)), H', ⟨by have := HJ11.out; have := HK2.out; first | omega | exact Nat.le_refl _⟩, ⟨by (with_reducible repeat (first | apply Kd.R_alloc | apply Kd.R_drewN | apply Kd.R_drew)); exact Kd.R_mono HO_5.out (fun _ hk => trivial)⟩, ⟨by repeat (first | (with_reducible first | exact HB.out | apply below_alloc | apply pw_below_drewN | apply below_drew1) | exact HB.out)⟩⟩
                  · replace c49 := Bool.eq_false_iff.mpr c49
                    subst c49
                    have H1 : (laws_FnIntervals.j2 k2 l1 t256 (wrap64 (1 + t259)) (wrap64 ((t256.length : Int) - t268)) false) = some r := by rw [if_neg (show ¬ (false = true) by decide)] at H; exact H
                    clear H
                    have H := H1
                    clear H1
                    have H' := Aside0.mk H
                    clear H
                    obtain ⟨Ao52, co52, eo52⟩ := Kd.R_slice HO_18.out
                    subst eo52
                    go_wp2_with (first | ((with_reducible refine gate_callee (f := 18) rfl ?_); refine goesL_ (some 127) rfl rfl Try.func18 (by kernel_rfl) rfl #[.slice Ao14 t256.length co14, .int .i64 (wrap64 (1 + t259)), .slice Ao52 x18_2.length co52] rfl (by (try simp only [List.map_toArray, List.map_cons, List.map_nil]); first | done | rfl | (simp only [List.length_drop, List.length_take]; rfl)) ?_; (with_reducible refine (impl_IsKept.calls k2 _ _ t256 (wrap64 (1 + t259)) _ _ x18_2 false _ ?side1 ?side2 ?side3 ?side4 A48.out).mono ?_); (case side1 => repeat (first | exact (Kd.R_reads' HO_5.out).2.2 | (with_reducible refine Kd.C_alloc ?_ _) | (with_reducible refine Kd.C_drewN ?_ _) | (with_reducible refine Kd.C_drew ?_))); (case side2 => exact (Kd.R_reads' HO_5.out).2.1); (case side3 => repeat (first | exact (Kd.R_reads' HO_18.out).2.2 | (with_reducible refine Kd.C_alloc ?_ _) | (with_reducible refine Kd.C_drewN ?_ _) | (with_reducible refine Kd.C_drew ?_))); (case side4 => exact (Kd.R_reads' HO_18.out).2.1); rintro e w53 ⟨rfl, hb⟩; refine ⟨_, rfl, ?_⟩; have n0_ := Aside0.mk (Kd.R_below (by (with_reducible repeat (first | apply Kd.R_alloc | apply Kd.R_drewN | apply Kd.R_drew)); exact HO_5.out) hb); have n1_ := Aside0.mk (Kd.S_below (by (with_reducible repeat (first | apply Kd.S_alloc | apply Kd.S_drewN | apply Kd.S_drew)); exact HO_9.out) hb); have n2_ := Aside0.mk (Kd.R_below (by (with_reducible repeat (first | apply Kd.R_alloc | apply Kd.R_drewN | apply Kd.R_drew)); exact HO_18.out) hb); have n3_ := Aside0.mk (below_step (by repeat (first | (with_reducible first | exact HB.out | apply below_alloc | apply pw_below_drewN | apply below_drew1) | exact HB.out)) hb); clear HO_5; clear HO_9; clear HO_18; clear HB; have HO_5 := n0_; have HO_9 := n1_; have HO_18 := n2_; have HB := n3_; clear n0_ n1_ n2_ n3_; (try clear hb); (try clear hb2); (try clear hk); (try clear hi)))
                    go_meet
                    case rel => exact ⟨_, (false), (by first | rfl | (simp; done) | (simp [*]; done)), H', ⟨by have := HJ11.out; have := HK2.out; first | omega | exact Nat.le_refl _⟩, ⟨by (with_reducible repeat (first | apply Kd.R_alloc | apply Kd.R_drewN | apply Kd.R_drew)); exact Kd.R_mono HO_5.out (fun _ hk => trivial)⟩, ⟨by repeat (first | (with_reducible first | exact HB.out | apply below_alloc | apply pw_below_drewN | apply below_drew1) | exact HB.out)⟩⟩
                case rest =>
                  clear HC46
                  try clear c1
                  try clear c2
                  try clear p2
                  try clear q2
                  try clear hx2
                  try clear c3
                  try clear c4
                  try clear p6
                  try clear c10
                  try clear c11
                  try clear c12
                  try clear c13
                  try clear c14
                  try clear c15
                  try clear c16
                  try clear c17
                  try clear c18
                  try clear c21
                  try clear c22
                  try clear c23
                  try clear c24
                  try clear c25
                  try clear c26
                  try clear c26b0
                  try clear c26b1
                  try clear c27
                  try clear c27b0
                  try clear c27b1
                  try clear c28
                  try clear p28
                  try clear q28
                  try clear hx28
                  try clear c33
                  try clear c36
                  try clear c36b0
                  try clear c37
                  try clear c37b0
                  try clear c38
                  try clear c38b0
                  try clear c38b1
                  try clear c40
                  try clear c40b0
                  try clear c41
                  try clear c49
                  try clear hx280_0
                  try clear p2
                  try clear p280
                  try clear p6
                  try clear q280
                  obtain ⟨kq, x133_45, rfl, HA, HJ45, HO_5, HB⟩ := hcut
                  cases kq with
                  | zero => exact absurd HA.out (by simp [laws_FnIntervals.j2])
                  | succ kj45 =>
                    have H := HA.out
                    clear HA
                    simp only [laws_FnIntervals.j2] at H
                    by_cases c54 : x133_45 = true
                    · subst c54
                      have H1 : (some false) = some r := by rw [if_pos rfl] at H; exact H
                      clear H
                      have H := H1
                      clear H1
                      obtain rfl := Option.some.inj H
                      go_wp2
                      go_ret
                      exact ⟨by first | rfl | (simp [errW_none, errW_some] <;> rfl) | (simp [*, errW_none, errW_some] <;> rfl), by repeat (first | (with_reducible first | exact HB.out | apply below_alloc | apply pw_below_drewN | apply below_drew1) | exact HB.out)⟩
                    · replace c54 := Bool.eq_false_iff.mpr c54
                      subst c54
                      have H1 : (laws_FnIntervals.l1 kj45 l1 t256 (wrap64 (1 + t259)) (wrap64 ((t256.length : Int) - t268)) (([] : List Int)) 0) = some r := by rw [if_neg (show ¬ (false = true) by decide)] at H; exact H
                      clear H
                      have H := H1
                      clear H1
                      obtain ⟨y286, hy286⟩ : ∃ y_ : List Int, y_ = (([] : List Int)) := ⟨_, rfl⟩
                      replace H : (laws_FnIntervals.l1 kj45 l1 t256 (wrap64 (1 + t259)) (wrap64 ((t256.length : Int) - t268)) y286 0) = some r := by first | (rw [hy286]; with_reducible exact H) | (have H2_ := (Option.bind_some _ _).symm.trans H; rw [hy286]; with_reducible exact H2_) | (have H2_ := (Option.bind_some _ _).symm.trans H; with_reducible exact H2_) | with_reducible exact H | (rw [hy286]; exact H) | exact H
                      have Ny286 := Aside0.mk hy286
                      clear hy286
                      have H' := Aside0.mk H
                      clear H
                      go_wp2_with (first | ((with_reducible refine gate_dst (N := 134) rfl ?_); (try (refine gate_guard (by rfl) ?_; dsimp only)); refine Kd.R_lit (Kd.int .i64) _ 2 ?hg (N := 134) ?hd (xs := ([] : List Int)) (inner := []) (ok := fun _ => True) (okp := fun _ => True) ?hr ?hp (fun _ hk => hk) trivial (Below.refl _ _) (Nat.le_refl _) (by simp) ?_; (case hd => rfl); (case hg => rfl); (case hr => first | (go_simp; done) | (go_simp; rfl)); (case hp => exact (Reps.none _ _)); intro v287 w55 ho56 hb hg_ hnew_; clear hg_ hnew_; (first | rw [← Ny286.out] at ho56 | (simp only [Int.reduceToNat] at ho56; rw [← Ny286.out] at ho56)); have n0_ := Aside0.mk (Kd.R_elder' (by (with_reducible repeat (first | apply Kd.R_alloc | apply Kd.R_drewN | apply Kd.R_drew)); exact HO_5.out) (Kd.R_base ho56) hb); have n1_ := Aside0.mk (Kd.R_lower (Kd.R_new' ho56 (Kd.R_lt (by (with_reducible repeat (first | apply Kd.R_alloc | apply Kd.R_drewN | apply Kd.R_drew)); exact HO_5.out))) (below_size (by repeat (first | (with_reducible first | exact HB.out | apply below_alloc | apply pw_below_drewN | apply below_drew1) | exact HB.out)))); have n2_ := Aside0.mk (below_step (by repeat (first | (with_reducible first | exact HB.out | apply below_alloc | apply pw_below_drewN | apply below_drew1) | exact HB.out)) hb); clear HO_5; clear HB; have HO_5 := n0_; have HO288 := n1_; have HB := n2_; clear n0_ n1_ n2_; clear hb ho56))
                      go_loopg [20, 21] kj45 (fun kq v20 v21 w' => ∃ (x20_4 : List Int) (x21_4 : Int), v21 = .int .i64 x21_4 ∧ Aside0 (laws_FnIntervals.l1 kq l1 t256 (wrap64 (1 + t259)) (wrap64 ((t256.length : Int) - t268)) x20_4 x21_4 = some r) ∧ Aside0 (kq ≤ kj45) ∧ Aside0 (Kd.R (Kd.int .i64) 2 w' w.heap.size (fun k_ => some k_ ≠ (v20 : Value).ownBlock) (.slice Ao14 t256.length co14) t256) ∧ Aside0 (Kd.R (Kd.int .i64) 2 w' w.heap.size (fun k_ => some k_ ≠ ((.slice Ao14 t256.length co14) : Value).ownBlock) v20 x20_4) ∧ Aside0 (Below w.heap.size w w'))
                      case atStart => exact ⟨(y286), (0), (by first | rfl | (simp; done) | (simp [*]; done)), H', ⟨Nat.le_refl _⟩, ⟨by (with_reducible repeat (first | apply Kd.R_alloc | apply Kd.R_drewN | apply Kd.R_drew)); exact Kd.R_mono HO_5.out (fun _ hk => hk.2)⟩, ⟨by (with_reducible repeat (first | apply Kd.R_alloc | apply Kd.R_drewN | apply Kd.R_drew)); exact Kd.R_mono HO288.out (fun _ hk => hk.2)⟩, ⟨by repeat (first | (with_reducible first | exact HB.out | apply below_alloc | apply pw_below_drewN | apply below_drew1) | exact HB.out)⟩⟩
                      case round =>
                        clear H'
                        try clear c1
                        try clear c2
                        try clear p2
                        try clear q2
                        try clear hx2
                        try clear c3
                        try clear c4
                        try clear c5
                        try clear p6
                        try clear c10
                        try clear c11
                        try clear c12
                        try clear c13
                        try clear c14
                        try clear c15
                        try clear c16
                        try clear c17
                        try clear c18
                        try clear c21
                        try clear c22
                        try clear c23
                        try clear c24
                        try clear c25
                        try clear c26
                        try clear c26b0
                        try clear c26b1
                        try clear c27
                        try clear c27b0
                        try clear c27b1
                        try clear c28
                        try clear p28
                        try clear q28
                        try clear hx28
                        try clear c33
                        try clear c36
                        try clear c36b0
                        try clear c37
                        try clear c37b0
                        try clear c38
                        try clear c38b0
                        try clear c38b1
                        try clear c40
                        try clear c40b0
                        try clear c41
                        try clear c49
                        try clear c54
                        try clear hx280_0
                        try clear p2
                        try clear p28
                        try clear p280
                        try clear p6
                        try clear q2
                        try clear q28
                        try clear q280
                        obtain ⟨x20_4, x21_4, rfl, HA, HK4, HO_5, HO_20, HB⟩ := hrel
                        cases gk with
                        | zero => exact absurd HA.out (by simp [laws_FnIntervals.l1])
                        | succ k4 =>
                          have H := HA.out
                          clear HA
                          simp only [laws_FnIntervals.l1] at H
                          by_cases c57 : x21_4 < (t256.length : Int)
                          · rw [if_pos c57] at H
                            have c57b0 : decide (x21_4 < (t256.length : Int)) = true := decide_eq_true c57
                            clear c57
                            replace H := Option.bind_eq_some_iff.mp H
                            obtain ⟨t289, A580, H⟩ := H
                            replace H : (if t289 = 0 then (if x20_4.length < 17592186044416 then (laws_FnIntervals.l1 k4 l1 t256 (wrap64 (1 + t259)) (wrap64 ((t256.length : Int) - t268)) (x20_4 ++ [x21_4]) (wrap64 (x21_4 + 1))) else (none)) else (laws_FnIntervals.l1 k4 l1 t256 (wrap64 (1 + t259)) (wrap64 ((t256.length : Int) - t268)) x20_4 (wrap64 (x21_4 + 1)))) = some r := H
                            have A58 := Aside0.mk A580
                            clear A580
                            by_cases c59 : t289 = 0
                            · rw [if_pos c59] at H
                              have c59b0 : (t289 == 0) = true := beq_iff_eq.mpr c59
                              have c59b1 : (t289 != 0) = false := bne_eq_false_iff_eq.mpr c59
                              clear c59
                              by_cases c60 : x20_4.length < 17592186044416
                              · rw [if_pos c60] at H
                                have LMc60 := Aside0.mk c60
                                clear c60
                                obtain ⟨y290, hy290⟩ : ∃ y_ : List Int, y_ = (x20_4 ++ [x21_4]) := ⟨_, rfl⟩
                                replace H : (laws_FnIntervals.l1 k4 l1 t256 (wrap64 (1 + t259)) (wrap64 ((t256.length : Int) - t268)) y290 (wrap64 (x21_4 + 1))) = some r := by first | (rw [hy290]; with_reducible exact H) | (have H2_ := (Option.bind_some _ _).symm.trans H; rw [hy290]; with_reducible exact H2_) | (have H2_ := (Option.bind_some _ _).symm.trans H; with_reducible exact H2_) | with_reducible exact H | (rw [hy290]; exact H) | exact H
                                have Ny290 := Aside0.mk hy290
                                clear hy290
                                have H' := Aside0.mk H
                                clear H
                                go_wp2_with (first | ((with_reducible refine gate_callee (f := 12) rfl ?_); refine goesL_ (some 144) rfl rfl Try.func12 (by kernel_rfl) rfl #[.slice A1 l1.length c1, .int .i64 (wrap64 (x21_4 + 9)), .int .i64 4] rfl (by (try simp only [List.map_toArray, List.map_cons, List.map_nil]); first | done | rfl | (simp only [List.length_drop, List.length_take]; rfl)) ?_; (with_reducible refine (laws_b10At.calls _ _ l1 (wrap64 (x21_4 + 9)) 4 t289 _ ?side1 ?side2 A58.out).mono ?_); (case side1 => repeat (first | exact (Kd.C_below HR1.out HB.out) | (with_reducible refine Kd.C_alloc ?_ _) | (with_reducible refine Kd.C_drewN ?_ _) | (with_reducible refine Kd.C_drew ?_))); (case side2 => exact HC1.out); rintro e w' ⟨rfl, ⟨nd, rfl⟩⟩; refine ⟨_, rfl, ?_⟩) | ((with_reducible refine gate_builtin (b := .append) (xs := #[.tmp 146, .tmp 148]) rfl ?_); (try (refine gate_guard (by rfl) ?_; dsimp only)); at_builtin; refine Kd.R_append (Kd.int .i64) (w0 := w) w.heap.size rfl (.tmp 146) (.tmp 148) 24 2 (.int .i64 0) 8 rfl Try.underlying24 info2 rfl (by decide) (by omega) u20 x20_4 x21_4 [.int .i64 x21_4] (fun k_ => some k_ ≠ (.slice Ao14 t256.length co14 : Value).ownBlock) (fun _ => False) rfl rfl ?aP (fun _ hk => hk.elim) ?aF ?aO ?aB ?aS ?aL ?_; (case aP => exact rfl); (case aB => exact (by repeat (first | (with_reducible first | exact HB.out | apply below_alloc | apply pw_below_drewN | apply below_drew1) | exact HB.out))); (case aF => exact (fun k_ hk => Kd.fresh' (Kd.R_lt (by (with_reducible repeat (first | apply Kd.R_alloc | apply Kd.R_drewN | apply Kd.R_drew)); exact HO_5.out)) k_ hk)); (case aO => exact (by (with_reducible repeat (first | apply Kd.R_alloc | apply Kd.R_drewN | apply Kd.R_drew)); exact HO_20.out)); (case aS => exact (below_size (by repeat (first | (with_reducible first | exact HB.out | apply below_alloc | apply pw_below_drewN | apply below_drew1) | exact HB.out)))); (case aL => have := LMc60.out; omega); intro v291 w61 ho hb hg hat; rw [← Ny290.out] at ho; have n0_ := Aside0.mk (Kd.R_after (ok := (fun _ => True)) (by (with_reducible repeat (first | apply Kd.R_alloc | apply Kd.R_drewN | apply Kd.R_drew)); exact Kd.R_mono HO_5.out (fun _ hk => ⟨trivial, hk⟩)) hg hat); have n1_ := Aside0.mk (hb); have n2_ := Aside0.mk (ho); clear HO_5; clear HB; clear HO_20; have HO_5 := n0_; have HB := n1_; have HO292 := n2_; clear n0_ n1_ n2_; clear ho hb hg hat))
                                go_roundg k4
                                case measure => have := HJ11.out; have := HK2.out; have := HJ45.out; have := HK4.out; omega
                                case rel => exact ⟨(y290), (wrap64 (x21_4 + 1)), (by first | rfl | (simp; done) | (simp [*]; done)), H', ⟨by have := HJ11.out; have := HK2.out; have := HJ45.out; have := HK4.out; omega⟩, ⟨by (with_reducible repeat (first | apply Kd.R_alloc | apply Kd.R_drewN | apply Kd.R_drew)); exact Kd.R_mono HO_5.out (fun _ hk => hk.2)⟩, ⟨by (with_reducible repeat (first | apply Kd.R_alloc | apply Kd.R_drewN | apply Kd.R_drew)); exact HO292.out⟩, ⟨by repeat (first | (with_reducible first | exact HB.out | apply below_alloc | apply pw_below_drewN | apply below_drew1) | exact HB.out)⟩⟩
                              · rw [if_neg c60] at H
                                exact absurd H (by simp)
                            · rw [if_neg c59] at H
                              have c59b0 : (t289 == 0) = false := beq_eq_false_iff_ne.mpr c59
                              have c59b1 : (t289 != 0) = true := bne_iff_ne.mpr c59
                              have H' := Aside0.mk H
                              clear H
                              go_wp2_with (first | ((with_reducible refine gate_callee (f := 12) rfl ?_); refine goesL_ (some 144) rfl rfl Try.func12 (by kernel_rfl) rfl #[.slice A1 l1.length c1, .int .i64 (wrap64 (x21_4 + 9)), .int .i64 4] rfl (by (try simp only [List.map_toArray, List.map_cons, List.map_nil]); first | done | rfl | (simp only [List.length_drop, List.length_take]; rfl)) ?_; (with_reducible refine (laws_b10At.calls _ _ l1 (wrap64 (x21_4 + 9)) 4 t289 _ ?side1 ?side2 A58.out).mono ?_); (case side1 => repeat (first | exact (Kd.C_below HR1.out HB.out) | (with_reducible refine Kd.C_alloc ?_ _) | (with_reducible refine Kd.C_drewN ?_ _) | (with_reducible refine Kd.C_drew ?_))); (case side2 => exact HC1.out); rintro e w' ⟨rfl, ⟨nd, rfl⟩⟩; refine ⟨_, rfl, ?_⟩))
                              go_roundg k4
                              case measure => have := HJ11.out; have := HK2.out; have := HJ45.out; have := HK4.out; omega
                              case rel => exact ⟨(x20_4), (wrap64 (x21_4 + 1)), (by first | rfl | (simp; done) | (simp [*]; done)), H', ⟨by have := HJ11.out; have := HK2.out; have := HJ45.out; have := HK4.out; omega⟩, ⟨by (with_reducible repeat (first | apply Kd.R_alloc | apply Kd.R_drewN | apply Kd.R_drew)); exact HO_5.out⟩, ⟨by (with_reducible repeat (first | apply Kd.R_alloc | apply Kd.R_drewN | apply Kd.R_drew)); exact HO_20.out⟩, ⟨by repeat (first | (with_reducible first | exact HB.out | apply below_alloc | apply pw_below_drewN | apply below_drew1) | exact HB.out)⟩⟩
                          · rw [if_neg c57] at H
                            have c57b0 : decide (x21_4 < (t256.length : Int)) = false := decide_eq_false c57
                            clear c57
                            replace H := Option.bind_eq_some_iff.mp H
                            obtain ⟨⟨t293, t294⟩, A620, H⟩ := H
                            replace H : (if t294 = true then (some (decide (t293 ≥ (wrap64 ((t256.length : Int) - t268))))) else (some false)) = some r := H
                            have A62 := Aside0.mk A620
                            clear A620
                            by_cases c63 : t294 = true
                            · subst c63
                              have H1 : (some (decide (t293 ≥ (wrap64 ((t256.length : Int) - t268))))) = some r := by rw [if_pos rfl] at H; exact H
                              clear H
                              have H := H1
                              clear H1
                              obtain rfl := Option.some.inj H
                              obtain ⟨Ao64, co64, eo64⟩ := Kd.R_slice HO_20.out
                              subst eo64
                              go_wp2_with (first | ((with_reducible refine gate_callee (f := 17) rfl ?_); refine goesL_ (some 154) rfl rfl Try.func17 (by kernel_rfl) rfl #[.slice Ao14 t256.length co14, .int .i64 (wrap64 (1 + t259)), .slice Ao64 x20_4.length co64] rfl (by (try simp only [List.map_toArray, List.map_cons, List.map_nil]); first | done | rfl | (simp only [List.length_drop, List.length_take]; rfl)) ?_; (with_reducible refine (impl_HitBound.calls _ _ t256 (wrap64 (1 + t259)) _ _ x20_4 t293 true _ ?side1 ?side2 ?side3 ?side4 A62.out).mono ?_); (case side1 => repeat (first | exact (Kd.R_reads' HO_5.out).2.2 | (with_reducible refine Kd.C_alloc ?_ _) | (with_reducible refine Kd.C_drewN ?_ _) | (with_reducible refine Kd.C_drew ?_))); (case side2 => exact (Kd.R_reads' HO_5.out).2.1); (case side3 => repeat (first | exact (Kd.R_reads' HO_20.out).2.2 | (with_reducible refine Kd.C_alloc ?_ _) | (with_reducible refine Kd.C_drewN ?_ _) | (with_reducible refine Kd.C_drew ?_))); (case side4 => exact (Kd.R_reads' HO_20.out).2.1); rintro e w65 ⟨rfl, hb⟩; refine ⟨_, rfl, ?_⟩; have n0_ := Aside0.mk (Kd.R_below (by (with_reducible repeat (first | apply Kd.R_alloc | apply Kd.R_drewN | apply Kd.R_drew)); exact HO_5.out) hb); have n1_ := Aside0.mk (Kd.R_below (by (with_reducible repeat (first | apply Kd.R_alloc | apply Kd.R_drewN | apply Kd.R_drew)); exact HO_20.out) hb); have n2_ := Aside0.mk (below_step (by repeat (first | (with_reducible first | exact HB.out | apply below_alloc | apply pw_below_drewN | apply below_drew1) | exact HB.out)) hb); clear HO_5; clear HO_20; clear HB; have HO_5 := n0_; have HO_20 := n1_; have HB := n2_; clear n0_ n1_ n2_; (try clear hb); (try clear hb2); (try clear hk); (try clear hi)))
                              go_ret
                              exact ⟨by first | rfl | (simp [errW_none, errW_some] <;> rfl) | (simp [*, errW_none, errW_some] <;> rfl), by repeat (first | (with_reducible first | exact HB.out | apply below_alloc | apply pw_below_drewN | apply below_drew1) | exact HB.out)⟩
                            · replace c63 := Bool.eq_false_iff.mpr c63
                              subst c63
                              have H1 : (some false) = some r := by rw [if_neg (show ¬ (false = true) by decide)] at H; exact H
                              clear H
                              have H := H1
                              clear H1
                              obtain rfl := Option.some.inj H
                              obtain ⟨Ao66, co66, eo66⟩ := Kd.R_slice HO_20.out
                              subst eo66
                              go_wp2_with (first | ((with_reducible refine gate_callee (f := 17) rfl ?_); refine goesL_ (some 154) rfl rfl Try.func17 (by kernel_rfl) rfl #[.slice Ao14 t256.length co14, .int .i64 (wrap64 (1 + t259)), .slice Ao66 x20_4.length co66] rfl (by (try simp only [List.map_toArray, List.map_cons, List.map_nil]); first | done | rfl | (simp only [List.length_drop, List.length_take]; rfl)) ?_; (with_reducible refine (impl_HitBound.calls _ _ t256 (wrap64 (1 + t259)) _ _ x20_4 t293 false _ ?side1 ?side2 ?side3 ?side4 A62.out).mono ?_); (case side1 => repeat (first | exact (Kd.R_reads' HO_5.out).2.2 | (with_reducible refine Kd.C_alloc ?_ _) | (with_reducible refine Kd.C_drewN ?_ _) | (with_reducible refine Kd.C_drew ?_))); (case side2 => exact (Kd.R_reads' HO_5.out).2.1); (case side3 => repeat (first | exact (Kd.R_reads' HO_20.out).2.2 | (with_reducible refine Kd.C_alloc ?_ _) | (with_reducible refine Kd.C_drewN ?_ _) | (with_reducible refine Kd.C_drew ?_))); (case side4 => exact (Kd.R_reads' HO_20.out).2.1); rintro e w67 ⟨rfl, hb⟩; refine ⟨_, rfl, ?_⟩; have n0_ := Aside0.mk (Kd.R_below (by (with_reducible repeat (first | apply Kd.R_alloc | apply Kd.R_drewN | apply Kd.R_drew)); exact HO_5.out) hb); have n1_ := Aside0.mk (Kd.R_below (by (with_reducible repeat (first | apply Kd.R_alloc | apply Kd.R_drewN | apply Kd.R_drew)); exact HO_20.out) hb); have n2_ := Aside0.mk (below_step (by repeat (first | (with_reducible first | exact HB.out | apply below_alloc | apply pw_below_drewN | apply below_drew1) | exact HB.out)) hb); clear HO_5; clear HO_20; clear HB; have HO_5 := n0_; have HO_20 := n1_; have HB := n2_; clear n0_ n1_ n2_; (try clear hb); (try clear hb2); (try clear hk); (try clear hi)))
                              go_ret
                              exact ⟨by first | rfl | (simp [errW_none, errW_some] <;> rfl) | (simp [*, errW_none, errW_some] <;> rfl), by repeat (first | (with_reducible first | exact HB.out | apply below_alloc | apply pw_below_drewN | apply below_drew1) | exact HB.out)⟩

/-- THE ONE PURE STATEMENT of laws_FnIntervals: yours. -/
def laws_FnIntervals.Pure : Prop := ∀ (l0 : List Int) (l1 : List Int), l0.length ≤ maxLen → l0.length * 1 ≤ 140737488351232 → (∀ x ∈ l0, (Lit.int .u8 x).wf = true) → l1.length ≤ maxLen → l1.length * 1 ≤ 140737488351232 → (∀ x ∈ l1, (Lit.int .u8 x).wf = true) → ∃ k, laws_FnIntervals.f k l0 l1 = some true
theorem laws_FnIntervals.walk (P : laws_FnIntervals.Pure) (a0 : Option Addr) (len0 cap0 : Nat) (z0 : List Int) (a1 : Option Addr) (len1 cap1 : Nat) (z1 : List Int) (w : World) (w0 : (a0 = none ∧ len0 = 0 ∧ cap0 = 0 ∧ z0 = []) ∨ ∃ x, a0 = some x ∧ len0 ≤ cap0 ∧ cap0 ≤ maxLen ∧ z0.length = cap0 ∧ (∀ i, i < z0.length → w.cell? (x.add i) = some (.int .u8 (z0.getD i 0))) ∧ ∀ n ∈ z0, (Lit.int .u8 n).wf = true) (y0 : len0 * 1 ≤ 140737488351232) (w1 : (a1 = none ∧ len1 = 0 ∧ cap1 = 0 ∧ z1 = []) ∨ ∃ x, a1 = some x ∧ len1 ≤ cap1 ∧ cap1 ≤ maxLen ∧ z1.length = cap1 ∧ (∀ i, i < z1.length → w.cell? (x.add i) = some (.int .u8 (z1.getD i 0))) ∧ ∀ n ∈ z1, (Lit.int .u8 n).wf = true) (y1 : len1 * 1 ≤ 140737488351232) :
    Calls Try.prog 3 #[.slice a0 len0 cap0, .slice a1 len1 cap1] w fun e w' => e = .returned (.bool true) ∧ Below w.heap.size w w' := by
  obtain ⟨l0, rfl, hr0, hm0, hw0, hc0⟩ := ReadsInt.ofRowC w0
  obtain ⟨l1, rfl, hr1, hm1, hw1, hc1⟩ := ReadsInt.ofRowC w1
  obtain ⟨k, h⟩ := P l0 l1 hm0 y0 hw0 hm1 y1 hw1
  refine (laws_FnIntervals.calls k _ _ l0 _ _ l1 true w (Kd.C_of_reads (d := (0 : Int)) (h1 := fun _ => rfl) hr0) hc0 (Kd.C_of_reads (d := (0 : Int)) (h1 := fun _ => rfl) hr1) hc1 h).mono ?_
  rintro e w' ⟨rfl, hd⟩
  exact ⟨rfl, hd⟩

end Go.Proofs.Ytellojkbfnfacaa.Q
