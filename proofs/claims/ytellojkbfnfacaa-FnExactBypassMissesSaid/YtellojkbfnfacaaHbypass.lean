/- impl.BypassMisses answers the misses of a memory that need not take what it misses; no conditions. -/
import Derived.Test.YtellojkbfnfacaaQx0
import Derived.Test.YtellojkbfnfacaaHvictim
import Derived.Test.YtellojkbfnfacaaQx1
import Derived.Test.YtellojkbfnfacaaSdelfunc
import Derived.Test.YtellojkbfnfacaaSisin
import Derived.Test.YtellojkbfnfacaaSmaxfunc
import Derived.Test.YtellojkbfnfacaaSokuses
import Derived.Test.YtellojkbfnfacaaSoptimal
import Derived.Test.YtellojkbfnfacaaSown
import Derived.Test.YtellojkbfnfacaaSsetl
import Derived.Test.YtellojkbfnfacaaSsortl
namespace Go.Proofs.Ytellojkbfnfacaa.Q
open Go.RowKit Go.Proofs.YtellojkbfnfacaaW.PrintWords Go.Proofs.YtellojkbfnfacaaW.PrintLast Go.Proofs.YtellojkbfnfacaaW.PrintMore
attribute [local go_sem] max2_int min2_int max_two min_two max_three min_three max_four min_four   -- for this text's walks alone
set_option linter.unusedVariables false
set_option linter.unusedSimpArgs false

def bypStep (U : List Int) (n : Int) (S : List Int) (i : Nat) : List Int := if rd U (i : Int) ∈ S then S else (if n < ((S.length + 1 : Nat) : Int) then ((S ++ [rd U (i : Int)]).filter fun x => !decide (x = maxBy (vcmp U (i + 1)) (setL (S ++ [rd U (i : Int)])))) else S ++ [rd U (i : Int)])
def bypTo (U : List Int) (n : Int) : Nat → List Int
  | 0 => []
  | i + 1 => bypStep U n (bypTo U n i) i
def bypMiss (U : List Int) (n : Int) : Nat → Nat
  | 0 => 0
  | i + 1 => bypMiss U n i + (if rd U (i : Int) ∈ bypTo U n i then 0 else 1)
theorem bypMiss_le (U : List Int) (n : Int) (i : Nat) : bypMiss U n i ≤ i := by
  induction i with
  | zero => exact Nat.le_refl _
  | succ i ih => unfold bypMiss; split <;> omega
theorem bypStep_length (U : List Int) (n : Int) (S : List Int) (i : Nat) : (bypStep U n S i).length ≤ S.length + 1 := by
  unfold bypStep
  split
  · omega
  · split
    · have := List.length_filter_le (fun x => !decide (x = maxBy (vcmp U (i + 1)) (setL (S ++ [rd U (i : Int)])))) (S ++ [rd U (i : Int)])
      rw [List.length_append, List.length_singleton] at this
      exact this
    · simp
theorem bypTo_length (U : List Int) (n : Int) (i : Nat) : (bypTo U n i).length ≤ i := by
  induction i with
  | zero => exact Nat.le_refl _
  | succ i ih => have := bypStep_length U n (bypTo U n i) i; unfold bypTo; omega
def impl_BypassMisses.f (l0 : List Int) (a1 : Int) : Option (Int × Bool) := if (okUses l0 && isIn 1 6 a1) = true then some (((bypMiss l0 a1 l0.length : Nat) : Int), true) else some (0, false)
theorem bypGoes.pred (b : Int) (l : List Int) (w : World) (row : Option Nat) (B : Nat) (hc : ∀ W, w.grownBy W row → W.cell? ⟨B, 0, none⟩ = some (.int .i64 b)) :
    PredOverI 54 #[.pointer (some ⟨B, 0, none⟩)] l (fun x => decide (x = b)) w row := fun W x hW _ => by
  have hcell := hc W hW
  show Calls Try.prog 54 #[.int .i64 x, .pointer (some ⟨B, 0, none⟩)] W _
  go_enter Try.func54, Try.ntmps54
  go_wp2
  go_ret
  exact ⟨rfl, by repeat (first | exact Below.refl _ _ | apply Below.drew)⟩
theorem bypDel (b : Int) (T : List Int) (w0 wr : World) (A : Option Addr) (c : Nat) (hpos : 0 < T.length) (HO : Kd.R (Kd.int .i64) 2 wr w0.heap.size (fun _ => True) (.slice A T.length c) T) (HB : Below w0.heap.size w0 wr) (W : World) (B2 : Nat) (hb : Below wr.heap.size wr W) (hB2 : wr.heap.size ≤ B2) (hc2 : W.cell? ⟨B2, 0, none⟩ = some (.int .i64 b)) :
    Calls Try.prog 53 #[.slice A T.length c, .func (.func 54) #[] #[.pointer (some ⟨B2, 0, none⟩)]] W fun e w' => ∃ v', e = .returned v' ∧ Kd.R (Kd.int .i64) 2 w' w0.heap.size (fun _ => True) v' (T.filter fun x => !decide (x = b)) ∧ Below w0.heap.size w0 w' := by
  have eg2 : ∀ args w, (callFunc 54 args).run Try.prog w = .ok (.enter 54 args) w := enters_of Try.func54 (by kernel_rfl) rfl
  have ho := own_of_R HO
  have hoW := pw_own_below ho hb
  have hblk : ∀ k, (Value.slice A T.length c).ownBlock = some k → w0.heap.size ≤ k ∧ k < wr.heap.size := by
    intro k hk
    obtain ⟨g, cap, e, h1, h2⟩ := ho.form hpos
    rw [e] at hk
    have : g = k := by simpa [Value.ownBlock] using hk
    omega
  have hbw : Below w0.heap.size w0 W := HB.trans (hb.mono HB.size)
  refine (slices_DeleteFunc_i64 54 #[.pointer (some ⟨B2, 0, none⟩)] eg2 (fun x => decide (x = b)) _ _ T W hoW (bypGoes.pred b T W _ B2 (fun W2 hW => ?_))).mono ?_
  · rw [← hc2]
    exact World.cell?_of_block (hW.block B2 (World.block_lt_of_cell? _ _ hc2) (fun e => by have := (hblk B2 e.symm).2; omega))
  · rintro e w' ⟨v', rfl, h1, h2, h3⟩
    exact ⟨v', rfl, R_of_own h1, hbw.grown h2 hbw.size (fun k hk => (hblk k hk).1)⟩
set_option maxHeartbeats 8000000 in
set_option maxRecDepth 100000 in
theorem impl_BypassMisses.calls (A0 : Option Addr) (c0 : Nat) (l0 : List Int) (a1 : Int) (r1 : Int) (r2 : Bool) (w : World) (hr0 : Kd.C (Kd.int .i64) w A0 l0.length l0) (hc0 : l0.length ≤ c0) (h : impl_BypassMisses.f l0 a1 = some (r1, r2)) :
    Calls Try.prog 23 #[.slice A0 l0.length c0, .int .i64 a1] w fun e w' => e = .returned (.tuple #[.int .i64 r1, .bool r2]) ∧ Below w.heap.size w w' := by
  unfold impl_BypassMisses.f at h
  have HR := Aside0.mk hr0
  have HC := Aside0.mk hc0
  have HOP := Aside0.mk (impl_isOptimal.calls A0 c0 l0 a1 (okUses l0 && isIn 1 6 a1) w hr0 hc0 (impl_isOptimal_f l0 a1))
  have HB := Aside0.mk (Below.refl w.heap.size w)
  clear hr0 hc0
  cases hg : (okUses l0 && isIn 1 6 a1) with
  | false =>
    rw [hg] at HOP
    rw [hg, if_neg (by simp)] at h
    obtain ⟨rfl, rfl⟩ := Prod.mk.inj (Option.some.inj h)
    clear h hg
    go_enter Try.func23, Try.ntmps23
    go_wp2_with (go_at_call 34; with_reducible refine HOP.out.mono ?_; rintro e w' ⟨rfl, hb⟩; have HBn := Aside0.mk (below_step HB.out hb); clear HB; have HB := HBn; clear HBn hb)
    go_ret2
    exact ⟨rfl, HB.out⟩
  | true =>
    rw [hg] at HOP
    rw [hg, if_pos rfl] at h
    obtain ⟨rfl, rfl⟩ := Prod.mk.inj (Option.some.inj h)
    obtain ⟨hg1, hg2⟩ := Bool.and_eq_true_iff.1 hg
    obtain ⟨hU, hUl⟩ := (okUses_iff l0).1 hg1
    have hn : l0.length ≤ 9223372036854775807 := by omega
    have HUL := Aside0.mk hUl
    have HN6 := Aside0.mk (show 1 ≤ a1 ∧ a1 ≤ 6 by unfold isIn at hg2; simp at hg2; omega)
    clear h hg hg1 hg2 hU hUl
    go_enter Try.func23, Try.ntmps23
    go_wp2_with (first | (go_at_call 34; with_reducible refine HOP.out.mono ?_; rintro e w' ⟨rfl, hb⟩; have HBn := Aside0.mk (below_step HB.out hb); clear HB; have HB := HBn; clear HBn hb) | ((with_reducible refine gate_dst (N := 15) rfl ?_); refine Kd.R_lit (Kd.int .i64) _ 2 ?hg (N := 15) ?hd (xs := ([] : List Int)) (inner := []) (ok := fun _ => True) (okp := fun _ => True) ?hr ?hp (fun _ hk => hk) trivial (Below.refl _ _) (Nat.le_refl _) (by simp) ?_; (case hd => rfl); (case hg => rfl); (case hr => first | (go_simp; done) | (go_simp; rfl)); (case hp => exact (Reps.none _ _)); intro vin wi ho4 hb hg_ hnew_; clear hg_ hnew_; have n0_ := Aside0.mk (Kd.R_lower ho4 (below_size HB.out)); have n1_ := Aside0.mk (below_step HB.out hb); clear HB; have HO := n0_; have HB := n1_; clear n0_ n1_ hb ho4))
    go_loopg [6, 7, 18] l0.length (fun gg s6 s7 s18 wr => ∃ i : Nat, s7 = .int .i64 (bypMiss l0 a1 i : Nat) ∧ s18 = .int .i64 i ∧ Aside0 (i ≤ l0.length ∧ l0.length - i ≤ gg) ∧ Aside0 (Kd.R (Kd.int .i64) 2 wr w.heap.size (fun _ => True) s6 (bypTo l0 a1 i)) ∧ Aside0 (Below w.heap.size w wr))
    case atStart => exact ⟨0, rfl, rfl, ⟨⟨Nat.zero_le _, by omega⟩⟩, ⟨by (with_reducible repeat (first | apply Kd.R_alloc | apply Kd.R_drewN | apply Kd.R_drew)); exact HO.out⟩, ⟨(by repeat (first | (with_reducible first | exact HB.out | apply below_alloc | apply pw_below_drewN | apply below_drew1) | exact HB.out))⟩⟩
    case round =>
      clear HO HB HOP
      obtain ⟨i, rfl, rfl, HK, HO, HB⟩ := hrel
      by_cases hlt : i < l0.length
      · have hltz : (i : Int) < (l0.length : Int) := by omega
        have h0z : (0 : Int) ≤ (i : Int) := by omega
        obtain ⟨ad, e, hx0⟩ := Kd.at_int HR.out (i : Int) h0z hltz
        cases e
        simp only [Int.toNat_natCast] at hx0
        have hx := (HB.out.cell (World.block_lt_of_cell? _ _ hx0)).trans hx0
        clear hx0
        have hmi := bypTo_length l0 a1 i
        have hbm := bypMiss_le l0 a1 i
        have hst : bypTo l0 a1 (i + 1) = bypStep l0 a1 (bypTo l0 a1 i) i := rfl
        have hms : bypMiss l0 a1 (i + 1) = bypMiss l0 a1 i + (if rd l0 (i : Int) ∈ bypTo l0 a1 i then 0 else 1) := rfl
        unfold bypStep at hst
        obtain ⟨y, hy⟩ : ∃ y, y = rd l0 (i : Int) := ⟨_, rfl⟩
        rw [← hy] at hx hst hms
        obtain ⟨S, hS⟩ : ∃ S, S = bypTo l0 a1 i := ⟨_, rfl⟩
        rw [← hS] at hmi hst hms HO
        obtain ⟨b, hb0⟩ : ∃ b, b = bypMiss l0 a1 i := ⟨_, rfl⟩
        rw [← hb0] at hms hbm ⊢
        obtain ⟨A, c, eqv, hc, hC⟩ := Kd.R_reads HO.out
        subst eqv
        obtain ⟨K, hK⟩ := ev_slices_Contains S y (by have := HUL.out; omega)
        have HCT := Aside0.mk (slices_Contains_int64_int64.calls K A c S y (decide (y ∈ S)) wr hC hc (hK K (Nat.le_refl _)))
        have HST := Aside0.mk hst
        have HMS := Aside0.mk hms
        have HSL := Aside0.mk (show S.length + 1 ≤ 60 by have := HUL.out; omega)
        have hb9 : b ≤ 1000 := by have := HUL.out; omega
        clear hy hS hst hms hmi hC hc hK hb0 hbm
        by_cases hm : y ∈ S
        · rw [decide_eq_true hm] at HCT
          have HS2 : Aside0 (bypTo l0 a1 (i + 1) = S) := ⟨by rw [HST.out, if_pos hm]⟩
          have HM2 : Aside0 (bypMiss l0 a1 (i + 1) = b) := ⟨by rw [HMS.out, if_pos hm]; rfl⟩
          clear hm
          go_wp2_with (go_at_call 51; with_reducible refine HCT.out.mono ?_; rintro e wc ⟨rfl, ⟨nd, hwc⟩⟩; have n0_ := Aside0.mk (Kd.R_at hwc.symm HO.out); have n1_ := Aside0.mk (below_at hwc.symm HB.out); clear HB HO; have HO := n0_; have HB := n1_; clear n0_ n1_ hwc)
          go_roundg (l0.length - (i + 1))
          case measure => have := HK.out; omega
          case rel => exact ⟨i + 1, by rw [HM2.out], by go_num, ⟨by have := HK.out; omega⟩, ⟨by rw [HS2.out]; (with_reducible repeat (first | apply Kd.R_alloc | apply Kd.R_drewN | apply Kd.R_drew)); exact HO.out⟩, ⟨(by repeat (first | (with_reducible first | exact HB.out | apply below_alloc | apply pw_below_drewN | apply below_drew1) | exact HB.out))⟩⟩
        · rw [decide_eq_false hm] at HCT
          have HM2 : Aside0 (bypMiss l0 a1 (i + 1) = b + 1) := ⟨by rw [HMS.out, if_neg hm]⟩
          obtain ⟨T, hT⟩ : ∃ T, T = S ++ [y] := ⟨_, rfl⟩
          have hTl : T.length = S.length + 1 := by rw [hT]; simp
          have HST2 : Aside0 (bypTo l0 a1 (i + 1) = if a1 < (T.length : Int) then T.filter (fun x => !decide (x = maxBy (vcmp l0 (i + 1)) (setL T))) else T) := ⟨by rw [HST.out, if_neg hm, ← hT, hTl]⟩
          have HT := Aside0.mk hT
          have HTL := Aside0.mk hTl
          clear hm hT hTl
          by_cases hf : a1 < (T.length : Int)
          · obtain ⟨mm, hmm⟩ : ∃ q, q = maxBy (vcmp l0 (i + 1)) (setL T) := ⟨_, rfl⟩
            have HS2 : Aside0 (bypTo l0 a1 (i + 1) = T.filter (fun x => !decide (x = mm))) := ⟨by rw [HST2.out, if_pos hf, hmm]⟩
            have HPOS := Aside0.mk (show 0 < T.length by have := HTL.out; omega)
            have hsl0 : 0 < (setL T).length := by
              rcases Nat.eq_zero_or_pos (setL T).length with h0 | h0
              · have hq : y ∈ setL T := ((setL_facts T).2 y).2 (by rw [HT.out]; simp)
                rw [List.eq_nil_of_length_eq_zero h0] at hq
                cases hq
              · exact h0
            have HVI : Aside0 (impl_victim.f l0 T ((i : Int) + 1) = some mm) := ⟨by
              unfold impl_victim.f
              rw [if_pos ⟨⟨by omega, by omega⟩, HUL.out, by have := HTL.out; have := HSL.out; omega, hsl0⟩, hmm, show ((i : Int) + 1).toNat = i + 1 by omega]⟩
            clear hmm hsl0
            go_wp2_with (first | (go_at_call 51; with_reducible refine HCT.out.mono ?_; rintro e wc ⟨rfl, ⟨nd, hwc⟩⟩; have n0_ := Aside0.mk (Kd.R_at hwc.symm HO.out); have n1_ := Aside0.mk (below_at hwc.symm HB.out); clear HB HO; have HO := n0_; have HB := n1_; clear n0_ n1_ hwc) | ((with_reducible refine gate_builtin (b := .append) (xs := #[.tmp 28, .tmp 30]) rfl ?_); at_builtin; refine Kd.R_append (Kd.int .i64) (w0 := w) w.heap.size rfl (.tmp 28) (.tmp 30) 24 2 (.int .i64 0) 8 rfl Try.underlying24 info2 rfl (by decide) (by omega) (.slice A S.length c) S y [.int .i64 y] (fun _ => True) (fun _ => False) rfl rfl ?aP (fun _ hk => hk.elim) ?aF ?aO ?aB ?aS ?aL ?_; (case aP => exact rfl); (case aB => exact (by repeat (first | (with_reducible first | exact HB.out | apply below_alloc | apply pw_below_drewN | apply below_drew1) | exact HB.out))); (case aF => exact (fun _ _ => trivial)); (case aO => exact (by (with_reducible repeat (first | apply Kd.R_alloc | apply Kd.R_drewN | apply Kd.R_drew)); exact HO.out)); (case aS => exact (below_size (by repeat (first | (with_reducible first | exact HB.out | apply below_alloc | apply pw_below_drewN | apply below_drew1) | exact HB.out)))); (case aL => have := HSL.out; omega); intro vap wap ho hb hg hat; rw [← HT.out] at ho; have n0_ := Aside0.mk hb; have n1_ := Aside0.mk ho; clear HB HO; have HB := n0_; have HO := n1_; clear n0_ n1_ ho hb hg hat; obtain ⟨AT, cT, eqt⟩ := Kd.R_slice HO.out; subst eqt) | (go_at_call 39; with_reducible refine (impl_length_int64.calls AT cT T (T.length : Int) _ (Kd.R_reads' HO.out).2.2 (Kd.R_reads' HO.out).2.1 rfl).mono ?_; rintro e wl ⟨rfl, ⟨nd2, hwl⟩⟩; have n0_ := Aside0.mk (Kd.R_at hwl.symm HO.out); have n1_ := Aside0.mk (below_at hwl.symm HB.out); clear HB HO; have HO := n0_; have HB := n1_; clear n0_ n1_ hwl) | (go_at_call 52; with_reducible refine (impl_victim.calls _ c0 l0 AT cT T ((i : Int) + 1) mm _ (Kd.C_below HR.out HB.out) HC.out (Kd.R_reads' HO.out).2.2 (Kd.R_reads' HO.out).2.1 HVI.out).mono ?_; rintro e w4 ⟨rfl, hb⟩; have n0_ := Aside0.mk (Kd.R_below HO.out hb); have n1_ := Aside0.mk (below_step HB.out hb); clear HB HO; have HO := n0_; have HB := n1_; clear n0_ n1_ hb) | (go_at_call 53; with_reducible refine (bypDel mm T w w4 AT cT HPOS.out HO.out HB.out _ w4.heap.size (below_alloc (Below.refl _ _) _) (Nat.le_refl _) (by simp)).mono ?_; rintro e w5 ⟨v', rfl, h1, h2⟩; have n0_ := Aside0.mk h1; have n1_ := Aside0.mk h2; clear HB HO; have HO := n0_; have HB := n1_; clear n0_ n1_ h1 h2))
            go_roundg (l0.length - (i + 1))
            case measure => have := HK.out; omega
            case rel => exact ⟨i + 1, by rw [HM2.out]; go_num, by go_num, ⟨by have := HK.out; omega⟩, ⟨by rw [HS2.out]; (with_reducible repeat (first | apply Kd.R_alloc | apply Kd.R_drewN | apply Kd.R_drew)); exact HO.out⟩, ⟨(by repeat (first | (with_reducible first | exact HB.out | apply below_alloc | apply pw_below_drewN | apply below_drew1) | exact HB.out))⟩⟩
          · have HS2 : Aside0 (bypTo l0 a1 (i + 1) = T) := ⟨by rw [HST2.out, if_neg hf]⟩
            go_wp2_with (first | (go_at_call 51; with_reducible refine HCT.out.mono ?_; rintro e wc ⟨rfl, ⟨nd, hwc⟩⟩; have n0_ := Aside0.mk (Kd.R_at hwc.symm HO.out); have n1_ := Aside0.mk (below_at hwc.symm HB.out); clear HB HO; have HO := n0_; have HB := n1_; clear n0_ n1_ hwc) | ((with_reducible refine gate_builtin (b := .append) (xs := #[.tmp 28, .tmp 30]) rfl ?_); at_builtin; refine Kd.R_append (Kd.int .i64) (w0 := w) w.heap.size rfl (.tmp 28) (.tmp 30) 24 2 (.int .i64 0) 8 rfl Try.underlying24 info2 rfl (by decide) (by omega) (.slice A S.length c) S y [.int .i64 y] (fun _ => True) (fun _ => False) rfl rfl ?aP (fun _ hk => hk.elim) ?aF ?aO ?aB ?aS ?aL ?_; (case aP => exact rfl); (case aB => exact (by repeat (first | (with_reducible first | exact HB.out | apply below_alloc | apply pw_below_drewN | apply below_drew1) | exact HB.out))); (case aF => exact (fun _ _ => trivial)); (case aO => exact (by (with_reducible repeat (first | apply Kd.R_alloc | apply Kd.R_drewN | apply Kd.R_drew)); exact HO.out)); (case aS => exact (below_size (by repeat (first | (with_reducible first | exact HB.out | apply below_alloc | apply pw_below_drewN | apply below_drew1) | exact HB.out)))); (case aL => have := HSL.out; omega); intro vap wap ho hb hg hat; rw [← HT.out] at ho; have n0_ := Aside0.mk hb; have n1_ := Aside0.mk ho; clear HB HO; have HB := n0_; have HO := n1_; clear n0_ n1_ ho hb hg hat; obtain ⟨AT, cT, eqt⟩ := Kd.R_slice HO.out; subst eqt) | (go_at_call 39; with_reducible refine (impl_length_int64.calls AT cT T (T.length : Int) _ (Kd.R_reads' HO.out).2.2 (Kd.R_reads' HO.out).2.1 rfl).mono ?_; rintro e wl ⟨rfl, ⟨nd2, hwl⟩⟩; have n0_ := Aside0.mk (Kd.R_at hwl.symm HO.out); have n1_ := Aside0.mk (below_at hwl.symm HB.out); clear HB HO; have HO := n0_; have HB := n1_; clear n0_ n1_ hwl))
            go_roundg (l0.length - (i + 1))
            case measure => have := HK.out; omega
            case rel => exact ⟨i + 1, by rw [HM2.out]; go_num, by go_num, ⟨by have := HK.out; omega⟩, ⟨by rw [HS2.out]; (with_reducible repeat (first | apply Kd.R_alloc | apply Kd.R_drewN | apply Kd.R_drew)); exact HO.out⟩, ⟨(by repeat (first | (with_reducible first | exact HB.out | apply below_alloc | apply pw_below_drewN | apply below_drew1) | exact HB.out))⟩⟩
      · have hltz : ¬ (i : Int) < (l0.length : Int) := by omega
        have hi2 : i = l0.length := by have := HK.out; omega
        subst hi2
        go_wp2_with (fail)
        go_ret2
        exact ⟨rfl, HB.out⟩
end Go.Proofs.Ytellojkbfnfacaa.Q
