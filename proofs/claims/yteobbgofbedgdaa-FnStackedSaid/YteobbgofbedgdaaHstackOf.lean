/- impl.StackOf answers the addresses in the order of their last uses; no conditions. -/
import Derived.Test.YteobbgofbedgdaaQx0
import Derived.Test.YteobbgofbedgdaaQx2
import Derived.Test.YteobbgofbedgdaaSbackward
import Derived.Test.YteobbgofbedgdaaSsetlimpl
import Derived.Test.YteobbgofbedgdaaSown
import Derived.Test.YteobbgofbedgdaaSusesimpl
import Derived.Test.YteobbgofbedgdaaSascend
import Derived.RangeFuncBox
import Derived.RangeFuncLeaves
import Derived.RangeFuncWrites
import Derived.RangeFuncNested
import Derived.RangeFuncBound
import Derived.Shelf.Abstract
import Derived.OwnWalkIn
import Derived.TacticsInMore
import Derived.LoopNIn
import Derived.LoopIn
import Derived.Maps.AppendAt
namespace Go.Proofs.Yteobbgofbedgdaa.Q
open Go.RowKit Go.Proofs.YteobbgofbedgdaaW.PrintWords Go.Proofs.YteobbgofbedgdaaW.PrintLast Go.Proofs.YteobbgofbedgdaaW.PrintMore
attribute [local go_sem] max2_int min2_int max_two min_two max_three min_three max_four min_four   -- for this text's walks alone
set_option linter.unusedVariables false
set_option linter.unusedSimpArgs false

attribute [local go_sem] Oper.semAt_some
open Go.ChangeShapes Go.WideShapes Go.Shelf
def impl_StackOf.f (l0 : List Int) : Option (List Int × Bool) := if okUses l0 = true then some (stackL l0, true) else some ([], false)
/-- What the loop has collected when some places are over. -/
def gotBack (zs : List Int) (pre : List Nat) : List Int := (pre.map fun x => zs[x]?.getD 0).foldl addL []
theorem gotBack_snoc (zs : List Int) (pre : List Nat) (x : Nat) : gotBack zs (pre ++ [x]) = addL (gotBack zs pre) (zs[x]?.getD 0) := by unfold gotBack; rw [List.map_append, List.foldl_append]; rfl
theorem gotBack_all (zs : List Int) : gotBack zs (downTo zs.length 0) = stackL zs := by
  rw [← stackL_back, downTo_zero]
  unfold gotBack
  congr 1
  rw [List.map_reverse]
  congr 1
  apply List.ext_getElem
  · simp
  · intro i h1 h2
    simp [h2]
theorem addL_length (s : List Int) (a : Int) : (addL s a).length ≤ s.length + 1 := by unfold addL; split <;> simp
theorem gotBack_length (zs : List Int) (pre : List Nat) : (gotBack zs pre).length ≤ pre.length := by
  have key : ∀ (xs s : List Int), (xs.foldl addL s).length ≤ s.length + xs.length := by
    intro xs
    induction xs with
    | nil => intro s; simp
    | cons x xs ih => intro s; have := ih (addL s x); have := addL_length s x; rw [List.foldl_cons, List.length_cons]; omega
  have := key (pre.map fun x => zs[x]?.getD 0) []
  simpa [gotBack] using this
theorem keeps_drewN (W : World) (m : Nat) : KeepsOthers W (W.drewN m) := KeepsOthers.of_grownBy (row := none) (grown_of_below (pw_below_drewN (Below.refl W.heap.size W) m) none) (fun r o e => by cases e)
theorem infoStk : (Try.prog.info? 2).map (fun i => (i.zero, i.size, i.bytes)) = some (some (.int .i64 0), 1, 8) := by kernel_rfl
set_option maxRecDepth 100000 in
set_option maxHeartbeats 4000000 in
theorem impl_StackOf.in_ (A0 : Option Addr) (c0 : Nat) (l0 : List Int) (w : World) (hr0 : Kd.C (Kd.int .i64) w A0 l0.length l0) (hc0 : l0.length ≤ c0) :
    CallsIn Fence.wide 3 Try.prog 39 #[.slice A0 l0.length c0] w fun e w' => ∃ v0_ : Value, e = .returned (.tuple #[v0_, .bool (okUses l0)]) ∧ Kd.R (Kd.int .i64) 2 w' w.heap.size (fun _ => True) v0_ (if okUses l0 = true then stackL l0 else []) ∧ Below w.heap.size w w' := by
  have HV := Aside0.mk (impl_ValidUses.calls A0 c0 l0 (okUses l0) w hr0 hc0 (impl_ValidUses_f l0))
  obtain ⟨i0, hi, hz0, hz1, hz2⟩ := info_parts infoStk
  have hAlt : ∀ ad, A0 = some ad → 0 < l0.length → ad.block < w.heap.size := by
    intro ad e hp
    obtain ⟨ad2, e2, hx⟩ := Kd.at_int hr0 0 (by omega) (by omega)
    rw [e] at e2
    cases e2
    have := World.block_lt_of_cell? w _ hx
    rwa [back_block] at this
  cases hg : okUses l0 with
  | false =>
    rw [hg] at HV
    refine callsIn_of_wp_marks Try.func39 rfl trivial ?_ rfl
    simp only [Try.ntmps39, List.size_toArray, List.length_cons, List.length_nil, Nat.reduceAdd, Nat.reduceSub, Array.replicate_succ, Array.replicate_zero, List.push_toArray, List.append_toArray, List.nil_append, List.cons_append]
    gi_wp2_with (refine ⟨trivial, ?_⟩; gi_at_call 74; refine (callsIn_wide.2 HV.out).mono ?_; rintro e w1 ⟨rfl, hb1⟩)
    exact ⟨_, results_tmp2 rfl _ _ _, .slice none 0 0, rfl, Kd.R_nil _ _ _ _ _, hb1⟩
  | true =>
    rw [hg] at HV
    obtain ⟨hm, hul⟩ := (okUses_iff l0).1 hg
    refine callsIn_of_wp_marks Try.func39 rfl trivial ?_ rfl
    simp only [Try.ntmps39, List.size_toArray, List.length_cons, List.length_nil, Nat.reduceAdd, Nat.reduceSub, Array.replicate_succ, Array.replicate_zero, List.push_toArray, List.append_toArray, List.nil_append, List.cons_append]
    gi_wp2_with (first | (refine ⟨trivial, ?_⟩; gi_at_call 74; refine (callsIn_wide.2 HV.out).mono ?_; rintro e w1 ⟨rfl, hb1⟩) | (refine ⟨trivial, ?_⟩; gi_at_call 91; refine (callsIn_wide.2 (backward_calls A0 l0.length c0 _)).mono ?_; rintro e w2 ⟨rfl, rfl⟩))
    obtain ⟨W0, hW0⟩ : ∃ W0, ((w1.alloc (.cells #[] 2)).alloc (.cells #[.slice (some ⟨w1.heap.size, 0, none⟩) 0 0] 24)).alloc (.cells #[.slice A0 l0.length c0] 24) = W0 := ⟨_, rfl⟩
    have hsz : W0.heap.size = w1.heap.size + 3 := by rw [← hW0]; simp
    have hB10 : Below w1.heap.size w1 W0 := by rw [← hW0]; exact ((((Below.refl _ w1).alloc (Nat.le_refl _) _).alloc (by simp) _).alloc (by simp; omega) _)
    have bS : Boxed W0 (w1.heap.size + 2) 24 (.slice A0 l0.length c0) := by
      rw [← hW0]
      have := Boxed.new ((w1.alloc (.cells #[] 2)).alloc (.cells #[.slice (some ⟨w1.heap.size, 0, none⟩) 0 0] 24)) 24 (.slice A0 l0.length c0)
      simpa using this
    have bO : Boxed W0 (w1.heap.size + 1) 24 (.slice (some ⟨w1.heap.size, 0, none⟩) 0 0) := by
      rw [← hW0]
      have := Boxed.new (w1.alloc (.cells #[] 2)) 24 (.slice (some ⟨w1.heap.size, 0, none⟩) 0 0)
      rw [World.size_alloc] at this
      exact this.alloc _
    have hrow0 : W0.ownsRow w1.heap.size 2 1 (.slice (some ⟨w1.heap.size, 0, none⟩) 0 0) 0 [] := by
      rw [← hW0]
      have := own_lit w1 w1.heap.size 2 .i64 [] (Nat.le_refl _) (by simp)
      exact (this.alloc _).alloc _
    rw [hW0]
    have hCz : Kd.C (Kd.int .i64) W0 A0 l0.length l0 := Kd.C_below (Kd.C_below hr0 hb1) hB10
    have hro : Fence.wide.round = none := rfl
    refine wpIn_rangeFunc_ownG (F := Fence.wide) (n := 3) hro (by omega) (gf := 122) (lb := #[.pointer (some ⟨w1.heap.size + 1 + 1, 0, none⟩)]) rfl trivial (enters_of Try.func122 (by kernel_rfl) rfl)
      (backward_stops Fence.wide (3 - 1) trivial hro (by omega) (w1.heap.size + 2) w1.heap.size A0 c0 l0 W0 (by omega) bS hCz (fun ad e hp => by have := hAlt ad e hp; have := hb1.size; omega)) (fun h k => h.trans k) (keepB_b (by omega) (by omega)) (Below.refl _ _) (fun _ => rfl)
      (fun pre W => ((∃ v, Boxed W (w1.heap.size + 1) 24 v ∧ W.ownsRow w1.heap.size 2 1 v (gotBack l0 pre).length ((gotBack l0 pre).map (Value.int .i64)) ∧ pre.length ≤ l0.length) ∧ Boxed W (w1.heap.size + 2) 24 (.slice A0 l0.length c0)) ∧ Below w1.heap.size w1 W)
      (fun _ _ _ => False)
      (OwnFrom.and (OwnFrom.and (Own.from (holdsRow_own w1.heap.size (w1.heap.size + 1) 24 2 1 (fun (pre : List Nat) => (gotBack l0 pre).length) (fun (pre : List Nat) => (gotBack l0 pre).map (Value.int .i64)) (fun pre _ => pre.length ≤ l0.length)) _) (Own.from (boxed_own _ _ _) _)) (ownFrom_below (Nat.le_refl _) (by omega)))
      (fun _ _ _ _ _ hs _ _ => hs)
      ⟨⟨⟨_, bO, hrow0, Nat.zero_le _⟩, bS⟩, hB10⟩
      (fun x => { tmps := #[.slice A0 l0.length c0, undef, .slice none 0 0, .bool false, .pointer (some ⟨w1.heap.size + 1, 0, none⟩), undef, .int .i64 (l0[x]?.getD 0), .slice A0 l0.length c0, .bool true, .bool false, .slice (some ⟨w1.heap.size, 0, none⟩) 0 0, .slice A0 l0.length c0, .func (.func 122) #[] #[.pointer (some ⟨w1.heap.size + 1 + 1, 0, none⟩)], .int .i64 x, .int .i64 (l0[x]?.getD 0), undef, undef, undef, undef, undef, undef, undef, undef, undef], defers := [] }) ?assign ?body ?done ?stop
    case assign =>
      intro l x W K hK
      gi_wp2
      exact hK
    case body =>
      rintro l pre x W ⟨⟨⟨v, hv, hrow, hpl⟩, bS1⟩, hB⟩ hlt
      have hc := hv.cell
      obtain ⟨y, hy⟩ : ∃ y, y = l0[x]?.getD 0 := ⟨_, rfl⟩
      have hgl := gotBack_length l0 pre
      have hgs := gotBack_snoc l0 pre x
      rw [← hy] at hgs ⊢
      obtain ⟨S, hS⟩ : ∃ S, S = gotBack l0 pre := ⟨_, rfl⟩
      rw [← hS] at hrow hgl hgs
      have HS := Aside0.mk hS
      have HY := Aside0.mk hy
      clear hS hy
      obtain ⟨Ao, co, rfl, hco, hCo⟩ := C_of_own (n := 0) hrow
      obtain ⟨kS, eS⟩ := ev_slices_Contains S y (by omega)
      have hcall := slices_Contains_int64_int64.calls kS Ao co S y (decide (y ∈ S)) W hCo hco (eS kS (Nat.le_refl _))
      have h1' : 1 ≤ 3 - 1 - 1 := by omega
      by_cases hm : y ∈ S
      · have hadd : addL S y = S := by unfold addL; rw [if_pos hm]
        rw [decide_eq_true hm] at hcall
        gi_wp2_with (refine ⟨trivial, ?_⟩; gi_at_call 81; refine (CallsIn.inRound l (callsIn_wide.2 hcall)).mono ?_; rintro e w2 ⟨rfl, nd, rfl⟩)
        have hk : KeepsOthers W (W.drewN nd) := keeps_drewN W nd
        exact ⟨hk.from _, ⟨pw_below_drewN (Below.refl _ W) nd, fun v h => h⟩, ⟨⟨_, hv, by rw [hgs, hadd]; exact hrow, by rw [List.length_append, List.length_singleton]; omega⟩, bS1⟩, pw_below_drewN hB nd⟩
      · have hadd : addL S y = S ++ [y] := by unfold addL; rw [if_neg hm]
        rw [decide_eq_false hm] at hcall
        gi_wp2_with (first | (refine ⟨trivial, ?_⟩; gi_at_call 81; refine (CallsIn.inRound l (callsIn_wide.2 hcall)).mono ?_; rintro e w2 ⟨rfl, ⟨nd, hw2⟩⟩; obtain ⟨hrow2, hvb2, hB2, hkk2, hbb2, hsb2⟩ : w2.ownsRow w1.heap.size 2 1 (.slice Ao S.length co) S.length (S.map (Value.int .i64)) ∧ Boxed w2 (w1.heap.size + 1) 24 (.slice Ao S.length co) ∧ Below w1.heap.size w1 w2 ∧ KeepsOthers W w2 ∧ Below w1.heap.size W w2 ∧ Boxed w2 (w1.heap.size + 2) 24 (.slice A0 l0.length c0) := (by (subst hw2; exact ⟨hrow, hv, pw_below_drewN hB nd, keeps_drewN W nd, pw_below_drewN (Below.refl _ W) nd, bS1⟩)); have hc2 := hvb2.cell; clear hw2 hc) | (gi_at_builtin; refine wpListIn_append_own _ rfl _ _ 24 rfl w1.heap.size 2 i0 (.int .i64 0) 1 8 Try.underlying24 hi hz0 hz1 hz2 rfl (by decide) _ _ _ rfl (hrow2.alloc _) ⟨w2.heap.size, 0, none⟩ 1 1 [.int .i64 y] rfl rfl (cell_one_new _ _ _) (by simp [Value.oneCell']) (by simp only [maxLen]; omega) (by omega) (by have := hB2.size; first | (simp; done) | (simp; omega) | omega) ?_; intro v' w3 hown' hgrow _; obtain ⟨g', cap', rfl⟩ := ownsRow_succ hown'; obtain ⟨hv1, hv2, hr2, hk2, hb2⟩ := hvb2.appended (by decide) hrow2 hB2.size (by omega) hown' hgrow; have hc1 := hv1.cell; have hf1 := hv1.frozen))
        have hfin : Boxed (w3.setCell ⟨w1.heap.size + 1, 0, none⟩ (.slice (some ⟨g', 0, none⟩) (S.length + 1) cap')) (w1.heap.size + 2) 24 (.slice A0 l0.length c0) :=
          ((hsb2.alloc _).kept hgrow (hsb2.not_row (by decide) hrow2)).kept (grownBy_setCell' w3 (w1.heap.size + 1) _) (by intro e; have := Option.some.inj e; omega)
        refine ⟨(hkk2.trans hk2).from _, ⟨hbb2.trans hb2, fun v hv => ?_⟩, ⟨⟨_, hv2, by rw [hgs, hadd]; simpa using hr2, by rw [List.length_append, List.length_singleton]; omega⟩, hfin⟩, hB2.trans hb2⟩
        have e : v = .slice A0 l0.length c0 := by
          have h1 := hv.cell
          have h2 := bS1.cell
          rw [h1] at h2
          exact Option.some.inj h2
        rw [e]; exact hfin
    case done =>
      rintro D ys W hD rfl ⟨⟨⟨v, hv, hrow, _⟩, bS1⟩, hB⟩ hK
      have hc := hv.cell
      gi_wp2
      refine ⟨by simp, .inl ⟨_, _, rfl, run_takeDeferred hK, ?_⟩⟩
      refine ⟨_, results_tmp2 rfl _ _ _, v, rfl, ?_, ?_⟩
      · rw [gotBack_all] at hrow
        exact R_of_own (own_weaken (ownsRow_putObj hrow _ hK rfl) hb1.size)
      · exact (hb1.trans (hB.mono hb1.size)).trans (belowK_b (w := w) (Nat.le_refl _) W D _ _ (by have := hb1.size; omega) hK rfl rfl)
    case stop =>
      rintro D c pre W _ _ h _
      exact h.elim
set_option maxRecDepth 100000 in
theorem impl_StackOf.calls (A0 : Option Addr) (c0 : Nat) (l0 : List Int) (r1 : List Int) (r2 : Bool) (w : World) (hr0 : Kd.C (Kd.int .i64) w A0 l0.length l0) (hc0 : l0.length ≤ c0) (h : impl_StackOf.f l0 = some (r1, r2)) :
    Calls Try.prog 39 #[.slice A0 l0.length c0] w fun e w' => ∃ v0_ : Value, e = .returned (.tuple #[v0_, .bool r2]) ∧ Kd.R (Kd.int .i64) 2 w' w.heap.size (fun _ => True) v0_ r1 ∧ Below w.heap.size w w' := by
  have H := callsIn_wide.1 (impl_StackOf.in_ A0 c0 l0 w hr0 hc0)
  unfold impl_StackOf.f at h
  cases hg : okUses l0 with
  | true =>
    rw [hg] at h H
    obtain ⟨rfl, rfl⟩ := Prod.mk.inj (Option.some.inj h)
    exact H
  | false =>
    rw [hg] at h H
    obtain ⟨rfl, rfl⟩ := Prod.mk.inj (Option.some.inj h)
    exact H
end Go.Proofs.Yteobbgofbedgdaa.Q
