/- impl.RankContents answers what a memory with ranks holds after uses; no conditions. -/
import Derived.Test.YteobbgofbedgdaaQx0
import Derived.Test.YteobbgofbedgdaaHsetOf
import Derived.Test.YteobbgofbedgdaaQx1
import Derived.Test.YteobbgofbedgdaaQx2
import Derived.Test.YteobbgofbedgdaaSbase
import Derived.Test.YteobbgofbedgdaaSdelfunc
import Derived.Test.YteobbgofbedgdaaSmaxfunc
import Derived.Test.YteobbgofbedgdaaSsetlimpl
import Derived.Test.YteobbgofbedgdaaSown
import Derived.Test.YteobbgofbedgdaaSrankdefs
import Derived.Test.YteobbgofbedgdaaSr8uses
import Derived.Test.YteobbgofbedgdaaSsetldef
import Derived.Test.YteobbgofbedgdaaSusesimpl
namespace Go.Proofs.Yteobbgofbedgdaa.Q
open Go.RowKit Go.Proofs.YteobbgofbedgdaaW.PrintWords Go.Proofs.YteobbgofbedgdaaW.PrintLast Go.Proofs.YteobbgofbedgdaaW.PrintMore
attribute [local go_sem] max2_int min2_int max_two min_two max_three min_three max_four min_four   -- for this text's walks alone
set_option linter.unusedVariables false
set_option linter.unusedSimpArgs false

def rcmp (R : List Int) (x y : Int) : Int := wrap64 (rd R x - rd R y)
def evict (R S : List Int) : List Int := S.filter fun x => !decide (x = maxBy (rcmp R) S)
def memStep (R : List Int) (n : Int) (S : List Int) (a : Int) : List Int := if a ∈ S then S else (if (S.length : Int) = n then evict R S else S) ++ [a]
def memTo (R U : List Int) (n : Int) : Nat → List Int
  | 0 => []
  | i + 1 => memStep R n (memTo R U n i) (rd U (i : Int))
theorem memStep_mem (R : List Int) (n : Int) (S : List Int) (a x : Int) (h : x ∈ memStep R n S a) : x ∈ S ∨ x = a := by
  unfold memStep at h
  split at h
  · exact .inl h
  · rcases List.mem_append.1 h with h | h
    · split at h
      · exact .inl (List.mem_filter.1 h).1
      · exact .inl h
    · exact .inr (List.mem_singleton.1 h)
theorem memStep_length (R : List Int) (n : Int) (S : List Int) (a : Int) : (memStep R n S a).length ≤ S.length + 1 := by
  unfold memStep
  split
  · omega
  · rw [List.length_append, List.length_singleton]
    split
    · have := List.length_filter_le (fun x => !decide (x = maxBy (rcmp R) S)) S
      unfold evict; omega
    · omega
theorem memTo_in (R U : List Int) (n : Int) (hU : ∀ x ∈ U, 0 ≤ x ∧ x ≤ 63) (i : Nat) (hi : i ≤ U.length) : (∀ x ∈ memTo R U n i, 0 ≤ x ∧ x ≤ 63) ∧ (memTo R U n i).length ≤ i := by
  induction i with
  | zero => exact ⟨by intro x hx; simp [memTo] at hx, by simp [memTo]⟩
  | succ i ih =>
    have h1 := ih (by omega)
    refine ⟨fun x hx => ?_, by have := memStep_length R n (memTo R U n i) (rd U (i : Int)); unfold memTo; omega⟩
    rcases memStep_mem R n _ _ x hx with h | h
    · exact h1.1 x h
    · rw [h, rd_lt U i (by omega)]; exact hU _ (List.getElem_mem (by omega))
def impl_RankContents.f (l0 l1 : List Int) (a2 : Int) : Option (List Int × Bool) := if okRanks l0 = true then (if okUses l1 = true then (if decide (1 ≤ a2 ∧ a2 ≤ 60) = true then some (setL (memTo l0 l1 a2 l1.length), true) else some ([], false)) else some ([], false)) else some ([], false)
set_option maxHeartbeats 8000000 in
set_option maxRecDepth 100000 in
theorem impl_RankContents.calls (A0 : Option Addr) (c0 : Nat) (l0 : List Int) (A1 : Option Addr) (c1 : Nat) (l1 : List Int) (a2 : Int) (r1 : List Int) (r2 : Bool) (w : World) (hr0 : Kd.C (Kd.int .i64) w A0 l0.length l0) (hc0 : l0.length ≤ c0) (hr1 : Kd.C (Kd.int .i64) w A1 l1.length l1) (hc1 : l1.length ≤ c1) (h : impl_RankContents.f l0 l1 a2 = some (r1, r2)) :
    Calls Try.prog 35 #[.slice A0 l0.length c0, .slice A1 l1.length c1, .int .i64 a2] w fun e w' => ∃ v0_ : Value, e = .returned (.tuple #[v0_, .bool r2]) ∧ Kd.R (Kd.int .i64) 2 w' w.heap.size (fun _ => True) v0_ r1 ∧ Below w.heap.size w w' := by
  unfold impl_RankContents.f at h
  have hb : Below w.heap.size w (w.alloc (.cells #[.slice A0 l0.length c0] 24)) := (Below.refl w.heap.size w).alloc (Nat.le_refl _) _
  have HB0 := Aside0.mk (show ∀ W, Below (w.alloc (.cells #[.slice A0 l0.length c0] 24)).heap.size (w.alloc (.cells #[.slice A0 l0.length c0] 24)) W → Below w.heap.size w W from fun W h => hb.trans (h.mono (by simp)))
  have hbx : (w.alloc (.cells #[.slice A0 l0.length c0] 24)).cell? ⟨w.heap.size, 0, none⟩ = some (.slice A0 l0.length c0) := by simp
  have HBX := Aside0.mk (show ∀ W, Below (w.alloc (.cells #[.slice A0 l0.length c0] 24)).heap.size (w.alloc (.cells #[.slice A0 l0.length c0] 24)) W → W.cell? ⟨w.heap.size, 0, none⟩ = some (.slice A0 l0.length c0) from fun W h => (h.cell (World.block_lt_of_cell? _ _ hbx)).trans hbx)
  have HR0 := Aside0.mk (Kd.C_below hr0 hb)
  have HC0 := Aside0.mk hc0
  have HR1 := Aside0.mk (Kd.C_below hr1 hb)
  have HC1 := Aside0.mk hc1
  have HB := Aside0.mk (Below.refl (w.alloc (.cells #[.slice A0 l0.length c0] 24)).heap.size (w.alloc (.cells #[.slice A0 l0.length c0] 24)))
  have HVR := Aside0.mk (impl_ValidRanks_f l0)
  have HVU := Aside0.mk (impl_ValidUses_f l1)
  have HIR : Aside0 (impl_inRange.f a2 1 60 = some (decide (1 ≤ a2 ∧ a2 ≤ 60))) := ⟨by unfold impl_inRange.f; by_cases h0 : 1 ≤ a2 <;> simp [h0]⟩
  clear hb hbx hr0 hc0 hr1 hc1
  cases hg0 : okRanks l0 with
  | false =>
    rw [hg0] at HVR
    rw [hg0, if_neg (by simp)] at h
    have h2 := Option.some.inj h
    obtain ⟨rfl, rfl⟩ := Prod.mk.inj h2
    clear h h2 hg0
    go_enter Try.func35, Try.ntmps35
    go_wp2_with ((go_at_call 29; with_reducible refine (impl_ValidRanks.calls A0 c0 l0 false _ (Kd.C_below HR0.out (by repeat (first | (with_reducible first | exact HB.out | apply below_alloc | apply pw_below_drewN | apply below_drew1) | exact HB.out))) HC0.out HVR.out).mono ?_; rintro e w' ⟨rfl, hb⟩; have HBn := Aside0.mk (below_step (by repeat (first | (with_reducible first | exact HB.out | apply below_alloc | apply pw_below_drewN | apply below_drew1) | exact HB.out)) hb); clear HB; have HB := HBn; clear HBn hb; have hcell_ := HBX.out _ HB.out))
    go_ret2
    exact ⟨.slice none 0 0, rfl, Kd.R_nil _ _ _ _ _, HB0.out _ (by repeat (first | (with_reducible first | exact HB.out | apply below_alloc | apply pw_below_drewN | apply below_drew1) | exact HB.out))⟩
  | true =>
    rw [hg0] at HVR
    rw [hg0, if_pos rfl] at h
    cases hg1 : okUses l1 with
    | false =>
      rw [hg1] at HVU
      rw [hg1, if_neg (by simp)] at h
      have h2 := Option.some.inj h
      obtain ⟨rfl, rfl⟩ := Prod.mk.inj h2
      clear h h2 hg0 hg1
      go_enter Try.func35, Try.ntmps35
      go_wp2_with (first | (go_at_call 29; with_reducible refine (impl_ValidRanks.calls A0 c0 l0 true _ (Kd.C_below HR0.out (by repeat (first | (with_reducible first | exact HB.out | apply below_alloc | apply pw_below_drewN | apply below_drew1) | exact HB.out))) HC0.out HVR.out).mono ?_; rintro e w' ⟨rfl, hb⟩; have HBn := Aside0.mk (below_step (by repeat (first | (with_reducible first | exact HB.out | apply below_alloc | apply pw_below_drewN | apply below_drew1) | exact HB.out)) hb); clear HB; have HB := HBn; clear HBn hb; have hcell_ := HBX.out _ HB.out) | (go_at_call 74; with_reducible refine (impl_ValidUses.calls A1 c1 l1 false _ (Kd.C_below HR1.out (by repeat (first | (with_reducible first | exact HB.out | apply below_alloc | apply pw_below_drewN | apply below_drew1) | exact HB.out))) HC1.out HVU.out).mono ?_; rintro e w' ⟨rfl, hb⟩; have HBn := Aside0.mk (below_step (by repeat (first | (with_reducible first | exact HB.out | apply below_alloc | apply pw_below_drewN | apply below_drew1) | exact HB.out)) hb); clear HB; have HB := HBn; clear HBn hb; have hcell_ := HBX.out _ HB.out))
      go_ret2
      exact ⟨.slice none 0 0, rfl, Kd.R_nil _ _ _ _ _, HB0.out _ (by repeat (first | (with_reducible first | exact HB.out | apply below_alloc | apply pw_below_drewN | apply below_drew1) | exact HB.out))⟩
    | true =>
      rw [hg1] at HVU
      rw [hg1, if_pos rfl] at h
      cases hg2 : decide (1 ≤ a2 ∧ a2 ≤ 60) with
      | false =>
        rw [hg2] at HIR
        rw [hg2, if_neg (by simp)] at h
        have h2 := Option.some.inj h
        obtain ⟨rfl, rfl⟩ := Prod.mk.inj h2
        clear h h2 hg0 hg1 hg2
        go_enter Try.func35, Try.ntmps35
        go_wp2_with (first | (go_at_call 29; with_reducible refine (impl_ValidRanks.calls A0 c0 l0 true _ (Kd.C_below HR0.out (by repeat (first | (with_reducible first | exact HB.out | apply below_alloc | apply pw_below_drewN | apply below_drew1) | exact HB.out))) HC0.out HVR.out).mono ?_; rintro e w' ⟨rfl, hb⟩; have HBn := Aside0.mk (below_step (by repeat (first | (with_reducible first | exact HB.out | apply below_alloc | apply pw_below_drewN | apply below_drew1) | exact HB.out)) hb); clear HB; have HB := HBn; clear HBn hb; have hcell_ := HBX.out _ HB.out) | (go_at_call 74; with_reducible refine (impl_ValidUses.calls A1 c1 l1 true _ (Kd.C_below HR1.out (by repeat (first | (with_reducible first | exact HB.out | apply below_alloc | apply pw_below_drewN | apply below_drew1) | exact HB.out))) HC1.out HVU.out).mono ?_; rintro e w' ⟨rfl, hb⟩; have HBn := Aside0.mk (below_step (by repeat (first | (with_reducible first | exact HB.out | apply below_alloc | apply pw_below_drewN | apply below_drew1) | exact HB.out)) hb); clear HB; have HB := HBn; clear HBn hb; have hcell_ := HBX.out _ HB.out) | (go_at_call 45; with_reducible refine (impl_inRange.calls a2 1 60 false _ HIR.out).mono ?_; rintro e w' ⟨rfl, ⟨nd, rfl⟩⟩))
        go_ret2
        exact ⟨.slice none 0 0, rfl, Kd.R_nil _ _ _ _ _, HB0.out _ (by repeat (first | (with_reducible first | exact HB.out | apply below_alloc | apply pw_below_drewN | apply below_drew1) | exact HB.out))⟩
      | true =>
        rw [hg2] at HIR
        rw [hg2, if_pos rfl] at h
        have h2 := Option.some.inj h
        obtain ⟨rfl, rfl⟩ := Prod.mk.inj h2
        obtain ⟨hU, hUl⟩ := (okUses_iff l1).1 hg1
        have hR := okRanks_length hg0
        have ha2 : 1 ≤ a2 := by simp at hg2; omega
        have HF := Aside0.mk (And.intro hU (And.intro hUl (And.intro hR ha2)))
        have hn : l1.length ≤ 9223372036854775807 := by omega
        have HMI := Aside0.mk (fun i (hi : i ≤ l1.length) => memTo_in l0 l1 a2 hU i hi)
        clear h h2 hg0 hg1 hg2 hU hUl hR ha2
        go_enter Try.func35, Try.ntmps35
        go_wp2_with (first | (go_at_call 29; with_reducible refine (impl_ValidRanks.calls A0 c0 l0 true _ (Kd.C_below HR0.out (by repeat (first | (with_reducible first | exact HB.out | apply below_alloc | apply pw_below_drewN | apply below_drew1) | exact HB.out))) HC0.out HVR.out).mono ?_; rintro e w' ⟨rfl, hb⟩; have HBn := Aside0.mk (below_step (by repeat (first | (with_reducible first | exact HB.out | apply below_alloc | apply pw_below_drewN | apply below_drew1) | exact HB.out)) hb); clear HB; have HB := HBn; clear HBn hb; have hcell_ := HBX.out _ HB.out) | (go_at_call 74; with_reducible refine (impl_ValidUses.calls A1 c1 l1 true _ (Kd.C_below HR1.out (by repeat (first | (with_reducible first | exact HB.out | apply below_alloc | apply pw_below_drewN | apply below_drew1) | exact HB.out))) HC1.out HVU.out).mono ?_; rintro e w' ⟨rfl, hb⟩; have HBn := Aside0.mk (below_step (by repeat (first | (with_reducible first | exact HB.out | apply below_alloc | apply pw_below_drewN | apply below_drew1) | exact HB.out)) hb); clear HB; have HB := HBn; clear HBn hb; have hcell_ := HBX.out _ HB.out) | (go_at_call 45; with_reducible refine (impl_inRange.calls a2 1 60 true _ HIR.out).mono ?_; rintro e w' ⟨rfl, ⟨nd, rfl⟩⟩) | ((with_reducible refine gate_dst (N := 25) rfl ?_); refine Kd.R_lit (Kd.int .i64) _ 2 ?hg (N := 25) ?hd (xs := ([] : List Int)) (inner := []) (ok := fun _ => True) (okp := fun _ => True) ?hr ?hp (fun _ hk => hk) trivial (Below.refl _ _) (Nat.le_refl _) (by simp) ?_; (case hd => rfl); (case hg => rfl); (case hr => first | (go_simp; done) | (go_simp; rfl)); (case hp => exact (Reps.none _ _)); intro vin wi ho4 hb hg_ hnew_; clear hg_ hnew_; have n0_ := Aside0.mk (Kd.R_lower ho4 (below_size (by repeat (first | (with_reducible first | exact HB.out | apply below_alloc | apply pw_below_drewN | apply below_drew1) | exact HB.out)))); have n1_ := Aside0.mk (below_step (by repeat (first | (with_reducible first | exact HB.out | apply below_alloc | apply pw_below_drewN | apply below_drew1) | exact HB.out)) hb); clear HB; have HO := n0_; have HB := n1_; clear n0_ n1_ hb ho4))
        go_loopg [8, 28] l1.length (fun gg s8 s28 wr => ∃ i : Nat, s28 = .int .i64 i ∧ Aside0 (i ≤ l1.length ∧ l1.length - i ≤ gg) ∧ Aside0 (Kd.R (Kd.int .i64) 2 wr (w.alloc (.cells #[.slice A0 l0.length c0] 24)).heap.size (fun _ => True) s8 (memTo l0 l1 a2 i)) ∧ Aside0 (Below (w.alloc (.cells #[.slice A0 l0.length c0] 24)).heap.size (w.alloc (.cells #[.slice A0 l0.length c0] 24)) wr))
        case atStart => exact ⟨0, rfl, ⟨⟨Nat.zero_le _, by omega⟩⟩, ⟨by (with_reducible repeat (first | apply Kd.R_alloc | apply Kd.R_drewN | apply Kd.R_drew)); exact HO.out⟩, ⟨(by repeat (first | (with_reducible first | exact HB.out | apply below_alloc | apply pw_below_drewN | apply below_drew1) | exact HB.out))⟩⟩
        case round =>
          clear HO HB HVR HVU HIR
          obtain ⟨i, rfl, HK, HO, HB⟩ := hrel
          by_cases hlt : i < l1.length
          · have hltz : (i : Int) < (l1.length : Int) := by omega
            have h0z : (0 : Int) ≤ (i : Int) := by omega
            obtain ⟨ad, e, hx0⟩ := Kd.at_int HR1.out (i : Int) h0z hltz
            cases e
            simp only [Int.toNat_natCast] at hx0
            have hx := (HB.out.cell (World.block_lt_of_cell? _ _ hx0)).trans hx0
            clear hx0
            have hmi := HMI.out i (by omega)
            have hst : memTo l0 l1 a2 (i + 1) = memStep l0 a2 (memTo l0 l1 a2 i) (rd l1 (i : Int)) := rfl
            obtain ⟨y, hy⟩ : ∃ y, y = rd l1 (i : Int) := ⟨_, rfl⟩
            rw [← hy] at hx hst
            obtain ⟨S, hS⟩ : ∃ S, S = memTo l0 l1 a2 i := ⟨_, rfl⟩
            rw [← hS] at hmi hst HO
            obtain ⟨A, c, eqv, hc, hC⟩ := Kd.R_reads HO.out
            subst eqv
            obtain ⟨K, hK⟩ := ev_slices_Contains S y (by have := hmi.2; have := HF.out.2.1; omega)
            have HCT := Aside0.mk (fun (W : World) (hb : Below wr.heap.size wr W) => slices_Contains_int64_int64.calls K A c S y (decide (y ∈ S)) W (Kd.C_below hC hb) hc (hK K (Nat.le_refl _)))
            have HLN := Aside0.mk (fun (W : World) (hb : Below wr.heap.size wr W) => impl_length_int64.calls A c S (S.length : Int) W (Kd.C_below hC hb) hc rfl)
            have HST := Aside0.mk hst
            have HMI2 := Aside0.mk hmi
            have HLE := Aside0.mk (show i ≤ 60 by have := HF.out.2.1; omega)
            have HCR := Aside0.mk (And.intro hC hc)
            clear hy hS hst hmi hC hc hK
            by_cases hm : y ∈ S
            · rw [decide_eq_true hm] at HCT
              have HS2 : Aside0 (memTo l0 l1 a2 (i + 1) = S) := ⟨by rw [HST.out]; unfold memStep; rw [if_pos hm]⟩
              clear hm
              go_wp2_with (go_at_call 81; with_reducible refine (HCT.out _ (by repeat (first | (with_reducible first | exact Below.refl _ _ | apply below_alloc | apply pw_below_drewN | apply below_drew1) | exact Below.refl _ _))).mono ?_; rintro e w' ⟨rfl, ⟨nd, rfl⟩⟩)
              go_roundg (l1.length - (i + 1))
              case measure => have := HK.out; omega
              case rel => exact ⟨i + 1, by go_num, ⟨by have := HK.out; omega⟩, ⟨by rw [HS2.out]; (with_reducible repeat (first | apply Kd.R_alloc | apply Kd.R_drewN | apply Kd.R_drew)); exact HO.out⟩, ⟨(by repeat (first | (with_reducible first | exact HB.out | apply below_alloc | apply pw_below_drewN | apply below_drew1) | exact HB.out))⟩⟩
            · rw [decide_eq_false hm] at HCT
              by_cases hf : (S.length : Int) = a2
              · have HS2 : Aside0 (memTo l0 l1 a2 (i + 1) = evict l0 S ++ [y]) := ⟨by rw [HST.out]; unfold memStep; rw [if_neg hm, if_pos hf]⟩
                have hfd : decide ((S.length : Int) = a2) = true := decide_eq_true hf
                have hpos : 0 < S.length := by have := HF.out.2.2.2; omega
                have HEL : Aside0 ((evict l0 S).length ≤ 60) := ⟨by have := List.length_filter_le (fun x => !decide (x = maxBy (rcmp l0) S)) S; have := HMI2.out.2; have := HLE.out; unfold evict; omega⟩
                have eg1 : ∀ args w, (callFunc 83 args).run Try.prog w = .ok (.enter 83 args) w := enters_of Try.func83 (by kernel_rfl) rfl
                have eg2 : ∀ args w, (callFunc 85 args).run Try.prog w = .ok (.enter 85 args) w := enters_of Try.func85 (by kernel_rfl) rfl
                have HMX := Aside0.mk (fun (W : World) (hb : Below wr.heap.size wr W) => slices_MaxFunc_i64 83 #[.pointer (some ⟨w.heap.size, 0, none⟩)] eg1 (rcmp l0) A c S W hpos (Kd.C_below HCR.out.1 hb) (rankCmp.pred A0 c0 l0 S HF.out.2.2.1 HMI2.out.1 W w.heap.size (HBX.out W (HB.out.trans (hb.mono HB.out.size))) (Kd.C_below HR0.out (HB.out.trans (hb.mono HB.out.size)))))
                obtain ⟨mm, hmm⟩ : ∃ q, q = maxBy (rcmp l0) S := ⟨_, rfl⟩
                rw [← hmm] at HMX
                have HDL : Aside0 (∀ (W : World) (B2 : Nat), Below wr.heap.size wr W → wr.heap.size ≤ B2 → W.cell? ⟨B2, 0, none⟩ = some (.int .i64 mm) → Calls Try.prog 84 #[.slice A S.length c, .func (.func 85) #[] #[.pointer (some ⟨B2, 0, none⟩)]] W fun e w' => ∃ v', e = .returned v' ∧ Kd.R (Kd.int .i64) 2 w' (w.alloc (.cells #[.slice A0 l0.length c0] 24)).heap.size (fun _ => True) v' (evict l0 S) ∧ Below (w.alloc (.cells #[.slice A0 l0.length c0] 24)).heap.size (w.alloc (.cells #[.slice A0 l0.length c0] 24)) w') := ⟨fun W B2 hb hB2 hc2 => by
                  have ho := own_of_R HO.out
                  have hoW := pw_own_below ho hb
                  have hblk : ∀ k, (Value.slice A S.length c).ownBlock = some k → (w.alloc (.cells #[.slice A0 l0.length c0] 24)).heap.size ≤ k ∧ k < wr.heap.size := by
                    intro k hk
                    obtain ⟨g, cap, e, h1, h2⟩ := ho.form hpos
                    rw [e] at hk
                    have : g = k := by simpa [Value.ownBlock] using hk
                    omega
                  have hbw : Below (w.alloc (.cells #[.slice A0 l0.length c0] 24)).heap.size (w.alloc (.cells #[.slice A0 l0.length c0] 24)) W := HB.out.trans (hb.mono HB.out.size)
                  refine (slices_DeleteFunc_i64 85 #[.pointer (some ⟨B2, 0, none⟩)] eg2 (fun x => decide (x = mm)) _ _ S W hoW (rankGoes.pred mm S W _ B2 (fun W2 hW => ?_))).mono ?_
                  · rw [← hc2]
                    exact World.cell?_of_block (hW.block B2 (World.block_lt_of_cell? _ _ hc2) (fun e => by have := (hblk B2 e.symm).2; omega))
                  · rintro e w' ⟨v', rfl, h1, h2, h3⟩
                    exact ⟨v', rfl, R_of_own (by unfold evict; rw [← hmm]; exact h1), hbw.grown h2 hbw.size (fun k hk => (hblk k hk).1)⟩⟩
                clear hm hmm eg1 eg2 hpos
                go_wp2_with (first | (go_at_call 81; with_reducible refine (HCT.out _ (by repeat (first | (with_reducible first | exact Below.refl _ _ | apply below_alloc | apply pw_below_drewN | apply below_drew1) | exact Below.refl _ _))).mono ?_; rintro e wc ⟨rfl, ⟨nd, hwc⟩⟩; have n0_ := Aside0.mk (Kd.R_at hwc.symm HO.out); have n1_ := Aside0.mk (below_at hwc.symm HB.out); have HW := Aside0.mk (below_at hwc.symm (Below.refl wr.heap.size wr)); clear HB HO; have HO := n0_; have HB := n1_; clear n0_ n1_ hwc) | (go_at_call 65; with_reducible refine (HLN.out _ HW.out).mono ?_; rintro e wl ⟨rfl, ⟨nd2, hwl⟩⟩; have n0_ := Aside0.mk (Kd.R_at hwl.symm HO.out); have n1_ := Aside0.mk (below_at hwl.symm HB.out); have n2_ := Aside0.mk (below_at hwl.symm HW.out); clear HB HO HW; have HO := n0_; have HB := n1_; have HW := n2_; clear n0_ n1_ n2_ hwl) | (go_at_call 82; with_reducible refine (HMX.out _ HW.out).mono ?_; rintro e w4 ⟨rfl, hb⟩; have HW4 := Aside0.mk (below_step HW.out hb); clear hb) | (go_at_call 84; with_reducible refine (HDL.out _ w4.heap.size (HW4.out.alloc HW4.out.size _) HW4.out.size (by simp)).mono ?_; rintro e w5 ⟨v', rfl, h1, h2⟩; have n0_ := Aside0.mk h1; have n1_ := Aside0.mk h2; clear HB HO; have HO := n0_; have HB := n1_; clear n0_ n1_ h1 h2) | ((with_reducible refine gate_builtin (b := .append) (xs := #[.tmp 45, .tmp 47]) rfl ?_); at_builtin; refine Kd.R_append (Kd.int .i64) (w0 := (w.alloc (.cells #[.slice A0 l0.length c0] 24))) (w.alloc (.cells #[.slice A0 l0.length c0] 24)).heap.size rfl (.tmp 45) (.tmp 47) 24 2 (.int .i64 0) 8 rfl Try.underlying24 info2 rfl (by decide) (by omega) v' (evict l0 S) y [.int .i64 y] (fun _ => True) (fun _ => False) rfl rfl ?aP (fun _ hk => hk.elim) ?aF ?aO ?aB ?aS ?aL ?_; (case aP => exact rfl); (case aB => exact (by repeat (first | (with_reducible first | exact HB.out | apply below_alloc | apply pw_below_drewN | apply below_drew1) | exact HB.out))); (case aF => exact (fun _ _ => trivial)); (case aO => exact (by (with_reducible repeat (first | apply Kd.R_alloc | apply Kd.R_drewN | apply Kd.R_drew)); exact HO.out)); (case aS => exact (below_size (by repeat (first | (with_reducible first | exact HB.out | apply below_alloc | apply pw_below_drewN | apply below_drew1) | exact HB.out)))); (case aL => have := HEL.out; omega); intro vap wap ho hb hg hat; have n0_ := Aside0.mk hb; have n1_ := Aside0.mk ho; clear HB HO; have HB := n0_; have HO := n1_; clear n0_ n1_ ho hb hg hat))
                go_roundg (l1.length - (i + 1))
                case measure => have := HK.out; omega
                case rel => exact ⟨i + 1, by go_num, ⟨by have := HK.out; omega⟩, ⟨by rw [HS2.out]; (with_reducible repeat (first | apply Kd.R_alloc | apply Kd.R_drewN | apply Kd.R_drew)); exact HO.out⟩, ⟨(by repeat (first | (with_reducible first | exact HB.out | apply below_alloc | apply pw_below_drewN | apply below_drew1) | exact HB.out))⟩⟩
              · have HS2 : Aside0 (memTo l0 l1 a2 (i + 1) = S ++ [y]) := ⟨by rw [HST.out]; unfold memStep; rw [if_neg hm, if_neg hf]⟩
                have hfd : decide ((S.length : Int) = a2) = false := decide_eq_false hf
                clear hm
                go_wp2_with (first | (go_at_call 81; with_reducible refine (HCT.out _ (by repeat (first | (with_reducible first | exact Below.refl _ _ | apply below_alloc | apply pw_below_drewN | apply below_drew1) | exact Below.refl _ _))).mono ?_; rintro e wc ⟨rfl, ⟨nd, hwc⟩⟩; have n0_ := Aside0.mk (Kd.R_at hwc.symm HO.out); have n1_ := Aside0.mk (below_at hwc.symm HB.out); have HW := Aside0.mk (below_at hwc.symm (Below.refl wr.heap.size wr)); clear HB HO; have HO := n0_; have HB := n1_; clear n0_ n1_ hwc) | (go_at_call 65; with_reducible refine (HLN.out _ HW.out).mono ?_; rintro e wl ⟨rfl, ⟨nd2, hwl⟩⟩; have n0_ := Aside0.mk (Kd.R_at hwl.symm HO.out); have n1_ := Aside0.mk (below_at hwl.symm HB.out); have n2_ := Aside0.mk (below_at hwl.symm HW.out); clear HB HO HW; have HO := n0_; have HB := n1_; have HW := n2_; clear n0_ n1_ n2_ hwl) | ((with_reducible refine gate_builtin (b := .append) (xs := #[.tmp 45, .tmp 47]) rfl ?_); at_builtin; refine Kd.R_append (Kd.int .i64) (w0 := (w.alloc (.cells #[.slice A0 l0.length c0] 24))) (w.alloc (.cells #[.slice A0 l0.length c0] 24)).heap.size rfl (.tmp 45) (.tmp 47) 24 2 (.int .i64 0) 8 rfl Try.underlying24 info2 rfl (by decide) (by omega) (.slice A S.length c) S y [.int .i64 y] (fun _ => True) (fun _ => False) rfl rfl ?aP (fun _ hk => hk.elim) ?aF ?aO ?aB ?aS ?aL ?_; (case aP => exact rfl); (case aB => exact (by repeat (first | (with_reducible first | exact HB.out | apply below_alloc | apply pw_below_drewN | apply below_drew1) | exact HB.out))); (case aF => exact (fun _ _ => trivial)); (case aO => exact (by (with_reducible repeat (first | apply Kd.R_alloc | apply Kd.R_drewN | apply Kd.R_drew)); exact HO.out)); (case aS => exact (below_size (by repeat (first | (with_reducible first | exact HB.out | apply below_alloc | apply pw_below_drewN | apply below_drew1) | exact HB.out)))); (case aL => have := HMI2.out.2; have := HLE.out; omega); intro vap wap ho hb hg hat; have n0_ := Aside0.mk hb; have n1_ := Aside0.mk ho; clear HB HO; have HB := n0_; have HO := n1_; clear n0_ n1_ ho hb hg hat))
                go_roundg (l1.length - (i + 1))
                case measure => have := HK.out; omega
                case rel => exact ⟨i + 1, by go_num, ⟨by have := HK.out; omega⟩, ⟨by rw [HS2.out]; (with_reducible repeat (first | apply Kd.R_alloc | apply Kd.R_drewN | apply Kd.R_drew)); exact HO.out⟩, ⟨(by repeat (first | (with_reducible first | exact HB.out | apply below_alloc | apply pw_below_drewN | apply below_drew1) | exact HB.out))⟩⟩
          · have hltz : ¬ (i : Int) < (l1.length : Int) := by omega
            have hi2 : i = l1.length := by have := HK.out; omega
            have hmi := HMI.out i (by omega)
            rw [hi2] at HO hmi
            obtain ⟨A, c, eqv, hc, hC⟩ := Kd.R_reads HO.out
            subst eqv
            have HSO := Aside0.mk (fun (W : World) (hb : Below wr.heap.size wr W) => impl_setOf.calls A c (memTo l0 l1 a2 l1.length) (setL (memTo l0 l1 a2 l1.length)) W (Kd.C_below hC hb) hc (impl_setOf_f _ (by have := hmi.2; have := HF.out.2.1; omega)))
            clear hC hc hmi hi2
            go_wp2_with (go_at_call 86; with_reducible refine (HSO.out _ (by repeat (first | (with_reducible first | exact Below.refl _ _ | apply below_alloc | apply pw_below_drewN | apply below_drew1) | exact Below.refl _ _))).mono ?_; rintro e w9 ⟨v9, rfl, hv9, hb9⟩; have HV9 := Aside0.mk (Kd.R_lower hv9 (below_size (HB0.out _ (by repeat (first | (with_reducible first | exact HB.out | apply below_alloc | apply pw_below_drewN | apply below_drew1) | exact HB.out))))); have HB9 := Aside0.mk (below_step (HB0.out _ (by repeat (first | (with_reducible first | exact HB.out | apply below_alloc | apply pw_below_drewN | apply below_drew1) | exact HB.out))) hb9); clear hv9 hb9)
            go_ret2
            exact ⟨_, rfl, HV9.out, HB9.out⟩
end Go.Proofs.Yteobbgofbedgdaa.Q
