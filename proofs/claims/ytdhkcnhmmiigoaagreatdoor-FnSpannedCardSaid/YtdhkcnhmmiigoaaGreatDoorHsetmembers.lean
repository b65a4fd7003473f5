/- The members of an address's set, under a valid index; no conditions. -/
import Derived.Test.YtdhkcnhmmiigoaaGreatDoorQx0
import Derived.Test.YtdhkcnhmmiigoaaGreatDoorQx1
import Derived.Test.YtdhkcnhmmiigoaaGreatDoorQx2
import Derived.Test.YtdhkcnhmmiigoaaGreatDoorSlu
import Derived.Test.YtdhkcnhmmiigoaaGreatDoorSupto
import Derived.Test.YtdhkcnhmmiigoaaGreatDoorSidxi64
import Derived.Test.YtdhkcnhmmiigoaaGreatDoorSreadwl
import Derived.Test.YtdhkcnhmmiigoaaGreatDoorStxtdef
import Derived.Test.YtdhkcnhmmiigoaaGreatDoorSsetval
import Derived.Deep.RegionHeld3
namespace Go.Proofs.YtdhkcnhmmiigoaaGreatDoor.Q
open Go.RowKit Go.Proofs.YtdhkcnhmmiigoaaGreatDoorW.PrintWords Go.Proofs.YtdhkcnhmmiigoaaGreatDoorW.PrintLast Go.Proofs.YtdhkcnhmmiigoaaGreatDoorW.PrintMore
attribute [local go_sem] max2_int min2_int max_two min_two max_three min_three max_four min_four   -- for this text's walks alone
set_option linter.unusedVariables false
set_option linter.unusedSimpArgs false

def impl_SetMembers.f (l0_0 : List Int) (a1 : Int) : Option (List Int × Bool) := if okRows l0_0 = true then (if okAddr a1 = true then some ((upto (fun j => (j : Int)) 64).filter fun a => !(!decide (setVal l0_0 a = setVal l0_0 a1)), true) else some ([], false)) else some ([], false)
set_option maxHeartbeats 8000000 in
set_option maxRecDepth 100000 in
theorem setMembers_1.pred (A : Option Addr) (c : Nat) (l0 : List Int) (a1 : Int) (hok : okRows l0 = true) (ha : okAddr a1 = true) (hc : l0.length ≤ c) (l : List Int) (hl : ∀ x ∈ l, 0 ≤ x ∧ x ≤ 63) (w : World) (row : Option Nat) (B B2 : Nat)
    (hB : ∀ W, w.grownBy W row → W.cell? ⟨B, 0, none⟩ = some (.slice A l0.length c) ∧ W.cell? ⟨B2, 0, none⟩ = some (.int .i64 a1) ∧ Kd.C (Kd.int .i64) W A l0.length l0) :
    PredOverI 33 #[.pointer (some ⟨B, 0, none⟩), .pointer (some ⟨B2, 0, none⟩)] l (fun a => !decide (setVal l0 a = setVal l0 a1)) w row := fun W x hW hx => by
  obtain ⟨hcell, hcell2, hC⟩ := hB W hW
  obtain ⟨K, hK⟩ := ev_Index_set l0 x ((okRows_iff l0).1 hok).2 ((okRows_iff l0).1 hok).1 (hl x hx).1 (hl x hx).2
  obtain ⟨K2, hK2⟩ := ev_Index_set l0 a1 ((okRows_iff l0).1 hok).2 ((okRows_iff l0).1 hok).1 ((okAddr_iff a1).1 ha).1 ((okAddr_iff a1).1 ha).2
  have HX := Aside0.mk (fun (W' : World) (hb : Below W.heap.size W W') => impl_Index_set.calls K A c l0 x (setVal l0 x) W' (Kd.C_below hC hb) hc (hK K (Nat.le_refl _)))
  have HY := Aside0.mk (fun (W' : World) (hb : Below W.heap.size W W') => impl_Index_set.calls K2 A c l0 a1 (setVal l0 a1) W' (Kd.C_below hC hb) hc (hK2 K2 (Nat.le_refl _)))
  have HB := Aside0.mk (Below.refl W.heap.size W)
  have hu := Tryz.underlying26
  clear hK hK2 hB hC
  have HG := Aside0.mk (show ∀ w', Below W.heap.size W w' → w'.cell? ⟨B, 0, none⟩ = some (.slice A l0.length c) ∧ w'.cell? ⟨B2, 0, none⟩ = some (.int .i64 a1) from fun w' hb => ⟨(hb.cell (World.block_lt_of_cell? _ _ hcell)).trans hcell, (hb.cell (World.block_lt_of_cell? _ _ hcell2)).trans hcell2⟩)
  show Calls Tryz.prog 33 #[.int .i64 x, .pointer (some ⟨B, 0, none⟩), .pointer (some ⟨B2, 0, none⟩)] W _
  obtain ⟨q, hq⟩ : ∃ q, q = setVal l0 x := ⟨_, rfl⟩
  obtain ⟨q2, hq2⟩ : ∃ q, q = setVal l0 a1 := ⟨_, rfl⟩
  rw [← hq] at HX
  rw [← hq2] at HY
  have HQ := Aside0.mk hq
  have HQ2 := Aside0.mk hq2
  clear hq hq2
  go_enter Tryz.func33, Tryz.ntmps33
  go_wp2_with (fail)
  go_region_held3 (fun w' => w'.cell? ⟨B, 0, none⟩ = some (.slice A l0.length c) ∧ w'.cell? ⟨B2, 0, none⟩ = some (.int .i64 a1)) (first | exact HG.out _ (by repeat (first | (with_reducible first | exact HB.out | apply below_alloc | apply pw_below_drewN | apply below_drew1) | exact HB.out))) (first | (go_at_call 34; (first | with_reducible refine (HX.out _ (by repeat (first | (with_reducible first | exact HB.out | apply below_alloc | apply pw_below_drewN | apply below_drew1) | exact HB.out))).mono ?_ | with_reducible refine (HY.out _ (by repeat (first | (with_reducible first | exact HB.out | apply below_alloc | apply pw_below_drewN | apply below_drew1) | exact HB.out))).mono ?_); rintro e w' ⟨rfl, hb⟩; have HBn := Aside0.mk (below_step (by repeat (first | (with_reducible first | exact HB.out | apply below_alloc | apply pw_below_drewN | apply below_drew1) | exact HB.out)) hb); clear HB; have HB := HBn; clear HBn hb))
  all_goals go_wp2
  all_goals go_ret
  all_goals exact ⟨ret_bool (by rw [← HQ.out, ← HQ2.out]; by_cases h : q = q2 <;> simp [h]), (by repeat (first | (with_reducible first | exact HB.out | apply below_alloc | apply pw_below_drewN | apply below_drew1) | exact HB.out))⟩
set_option maxHeartbeats 4000000 in
set_option maxRecDepth 100000 in
theorem impl_SetMembers.calls (A0_0 : Option Addr) (c0_0 : Nat) (l0_0 : List Int) (a1 : Int) (r1 : List Int) (r2 : Bool) (w : World) (hr0_0 : Kd.C (Kd.int .i64) w A0_0 l0_0.length l0_0) (hc0_0 : l0_0.length ≤ c0_0) (h : impl_SetMembers.f l0_0 a1 = some (r1, r2)) :
    Calls Tryz.prog 13 #[.agg #[.slice A0_0 l0_0.length c0_0], .int .i64 a1] w fun e w' => ∃ v0_ : Value, e = .returned (.tuple #[v0_, .bool r2]) ∧ Kd.R (Kd.int .i64) 2 w' w.heap.size (fun _ => True) v0_ r1 ∧ Below w.heap.size w w' := by
  unfold impl_SetMembers.f at h
  have hb : Below w.heap.size w ((w.alloc (.cells #[.slice A0_0 l0_0.length c0_0] 26)).alloc (.cells #[.int .i64 a1] 2)) := ((Below.refl w.heap.size w).alloc (Nat.le_refl _) _).alloc (by simp) _
  have HV := Aside0.mk (impl_ValidIndex.calls A0_0 c0_0 l0_0 (okRows l0_0) ((w.alloc (.cells #[.slice A0_0 l0_0.length c0_0] 26)).alloc (.cells #[.int .i64 a1] 2)) (Kd.C_below hr0_0 hb) hc0_0 (impl_ValidIndex_f l0_0))
  have HADR := Aside0.mk (fun (W : World) => impl_isAddress.calls a1 (okAddr a1) W (impl_isAddress_f a1))
  have HB := Aside0.mk hb
  have hc1 : ((w.alloc (.cells #[.slice A0_0 l0_0.length c0_0] 26)).alloc (.cells #[.int .i64 a1] 2)).cell? ⟨w.heap.size, 0, none⟩ = some (.slice A0_0 l0_0.length c0_0) := by simp
  have hc2 : ((w.alloc (.cells #[.slice A0_0 l0_0.length c0_0] 26)).alloc (.cells #[.int .i64 a1] 2)).cell? ⟨w.heap.size + 1, 0, none⟩ = some (.int .i64 a1) := by simp
  have HG := Aside0.mk (show ∀ w', Below ((w.alloc (.cells #[.slice A0_0 l0_0.length c0_0] 26)).alloc (.cells #[.int .i64 a1] 2)).heap.size ((w.alloc (.cells #[.slice A0_0 l0_0.length c0_0] 26)).alloc (.cells #[.int .i64 a1] 2)) w' → w'.cell? ⟨w.heap.size, 0, none⟩ = some (.slice A0_0 l0_0.length c0_0) ∧ w'.cell? ⟨w.heap.size + 1, 0, none⟩ = some (.int .i64 a1) from fun w' hb => ⟨(hb.cell (World.block_lt_of_cell? _ _ hc1)).trans hc1, (hb.cell (World.block_lt_of_cell? _ _ hc2)).trans hc2⟩)
  have hu := Tryz.underlying26
  cases hg0 : okRows l0_0 with
  | false =>
    have h' : (some ([], false) : Option (List Int × Bool)) = some (r1, r2) := by rw [hg0] at h; simpa using h
    have h2 := Option.some.inj h'
    obtain ⟨rfl, rfl⟩ := Prod.mk.inj h2
    rw [hg0] at HV
    clear h h' h2 hr0_0 hc0_0 hb hc1 hc2 hg0
    go_enter Tryz.func13, Tryz.ntmps13
    go_wp2_with (go_at_call 23; refine HV.out.mono ?_; rintro e w' ⟨rfl, hb⟩; have HB9 := Aside0.mk (below_step HB.out (hb.mono (by simp))); clear hb)
    go_ret2
    exact ⟨.slice none 0 0, rfl, Kd.R_nil _ _ _ _ _, HB9.out⟩
  | true =>
    rw [hg0] at HV
    cases hg1 : okAddr a1 with
    | false =>
      have h' : (some ([], false) : Option (List Int × Bool)) = some (r1, r2) := by rw [hg0, hg1] at h; simpa using h
      have h2 := Option.some.inj h'
      obtain ⟨rfl, rfl⟩ := Prod.mk.inj h2
      rw [hg1] at HADR
      clear h h' h2 hr0_0 hc0_0 hb hc1 hc2 hg0 hg1
      go_enter Tryz.func13, Tryz.ntmps13
      go_wp2_with (first | (go_at_call 23; refine HV.out.mono ?_; rintro e w' ⟨rfl, hb⟩; have hc2_ := (HG.out _ hb).2; have HB9 := Aside0.mk (below_step HB.out (hb.mono (by simp))); clear hb) | (go_at_call 30; refine (HADR.out _).mono ?_; rintro e w' ⟨rfl, ⟨nd, rfl⟩⟩))
      go_ret2
      exact ⟨.slice none 0 0, rfl, Kd.R_nil _ _ _ _ _, by repeat (first | (with_reducible first | exact HB9.out | apply below_alloc | apply pw_below_drewN | apply below_drew1) | exact HB9.out)⟩
    | true =>
      have h' : (some (((upto (fun j => (j : Int)) 64).filter fun a => !(!decide (setVal l0_0 a = setVal l0_0 a1))), true) : Option (List Int × Bool)) = some (r1, r2) := by rw [hg0, hg1] at h; simpa using h
      have h2 := Option.some.inj h'
      obtain ⟨rfl, rfl⟩ := Prod.mk.inj h2
      rw [hg1] at HADR
      obtain ⟨K, hK⟩ := ev_ascending 64 (by omega)
      have HA := Aside0.mk (fun (W : World) => impl_ascending.calls K 64 _ W (hK K (Nat.le_refl _)))
      have eg : ∀ args w, (callFunc 33 args).run Tryz.prog w = .ok (.enter 33 args) w := enters_of Tryz.func33 (by kernel_rfl) rfl
      have HD : Aside0 (∀ (v : Value) (w2 : World), Kd.R (Kd.int .i64) 2 w2 ((w.alloc (.cells #[.slice A0_0 l0_0.length c0_0] 26)).alloc (.cells #[.int .i64 a1] 2)).heap.size (fun _ => True) v (upto (fun j => (j : Int)) 64) → Below ((w.alloc (.cells #[.slice A0_0 l0_0.length c0_0] 26)).alloc (.cells #[.int .i64 a1] 2)).heap.size ((w.alloc (.cells #[.slice A0_0 l0_0.length c0_0] 26)).alloc (.cells #[.int .i64 a1] 2)) w2 →
          Calls Tryz.prog 31 #[v, .func (.func 33) #[] #[.pointer (some ⟨w.heap.size, 0, none⟩), .pointer (some ⟨w.heap.size + 1, 0, none⟩)]] w2 fun e w' => ∃ v', e = .returned v' ∧ Kd.R (Kd.int .i64) 2 w' w.heap.size (fun _ => True) v' ((upto (fun j => (j : Int)) 64).filter fun a => !(!decide (setVal l0_0 a = setVal l0_0 a1))) ∧ Below w.heap.size w w') := ⟨fun v w2 hv hb2 => by
        have ho := own_of_R hv
        have hblk : ∀ k, v.ownBlock = some k → w.heap.size + 1 < k := by
          intro k hk
          rcases ho.2 with ⟨rfl, _⟩ | ⟨g, cap, cur, rfl, hbase, _⟩
          · simp [Value.ownBlock] at hk
          · have : g = k := by simpa [Value.ownBlock] using hk
            simp at hbase; omega
        have hbw : Below w.heap.size w w2 := hb.trans (hb2.mono (by simp; omega))
        have hd1 := (hb2.cell (World.block_lt_of_cell? _ _ hc1)).trans hc1
        have hd2 := (hb2.cell (World.block_lt_of_cell? _ _ hc2)).trans hc2
        have hn1 : v.ownBlock ≠ some w.heap.size := fun e => by have := hblk _ e; omega
        have hn2 : v.ownBlock ≠ some (w.heap.size + 1) := fun e => by have := hblk _ e; omega
        refine (slices_DeleteFunc_i64 33 #[.pointer (some ⟨w.heap.size, 0, none⟩), .pointer (some ⟨w.heap.size + 1, 0, none⟩)] eg (fun a => !decide (setVal l0_0 a = setVal l0_0 a1)) _ v _ w2 ho
          (setMembers_1.pred A0_0 c0_0 l0_0 a1 hg0 hg1 hc0_0 _ (fun x hx => upto64_mem hx) w2 v.ownBlock w.heap.size (w.heap.size + 1) (fun W hW => ⟨?_, ?_, ?_⟩))).mono ?_
        · rw [← hd1]
          exact World.cell?_of_block (hW.block w.heap.size (World.block_lt_of_cell? _ _ hd1) (fun e => hn1 e.symm))
        · rw [← hd2]
          exact World.cell?_of_block (hW.block (w.heap.size + 1) (World.block_lt_of_cell? _ _ hd2) (fun e => hn2 e.symm))
        · exact Kd.C_below hr0_0 (hbw.grown hW hbw.size (fun k hk => by have := hblk k hk; omega))
        · rintro e w' ⟨v', rfl, h1, h2, h3⟩
          exact ⟨v', rfl, Kd.R_lower (R_of_own h1) (by simp; omega), hbw.grown h2 hbw.size (fun k hk => by have := hblk k hk; omega)⟩⟩
      clear hK hb eg hr0_0 hc0_0 hg0 hg1 h h' h2 hc1 hc2
      go_enter Tryz.func13, Tryz.ntmps13
      go_wp2_with (first | (go_at_call 23; refine HV.out.mono ?_; rintro e w' ⟨rfl, hb⟩; have hc2_ := (HG.out _ hb).2; have HB9 := Aside0.mk hb; clear hb) | (go_at_call 30; refine (HADR.out _).mono ?_; rintro e w' ⟨rfl, ⟨nd, rfl⟩⟩) | (go_at_call 32; refine (HA.out _).mono ?_; rintro e w2 ⟨v, rfl, hv, hb2⟩; have HQ := Aside0.mk (HD.out v w2 (Kd.R_lower hv (below_size (by repeat (first | (with_reducible first | exact HB9.out | apply below_alloc | apply pw_below_drewN | apply below_drew1) | exact HB9.out)))) (below_step (by repeat (first | (with_reducible first | exact HB9.out | apply below_alloc | apply pw_below_drewN | apply below_drew1) | exact HB9.out)) hb2)); clear hv hb2) | (go_at_call 31; refine HQ.out.mono ?_; rintro e w3 ⟨v', rfl, h1, h2⟩; have H1 := Aside0.mk h1; have H2 := Aside0.mk h2; clear h1 h2))
      go_ret2
      exact ⟨_, rfl, H1.out, H2.out⟩
end Go.Proofs.YtdhkcnhmmiigoaaGreatDoor.Q
