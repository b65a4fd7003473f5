/- The kernel of a valid index: the addresses whose set is 0; no conditions. -/
import Derived.Test.YtdhkcnhmmiigoaaGreatDoorQx0
import Derived.Test.YtdhkcnhmmiigoaaGreatDoorQx1
import Derived.Test.YtdhkcnhmmiigoaaGreatDoorSlu
import Derived.Test.YtdhkcnhmmiigoaaGreatDoorSupto
import Derived.Test.YtdhkcnhmmiigoaaGreatDoorSidxi64
import Derived.Test.YtdhkcnhmmiigoaaGreatDoorStxtdef
import Derived.Test.YtdhkcnhmmiigoaaGreatDoorSsetval
namespace Go.Proofs.YtdhkcnhmmiigoaaGreatDoor.Q
open Go.RowKit Go.Proofs.YtdhkcnhmmiigoaaGreatDoorW.PrintWords Go.Proofs.YtdhkcnhmmiigoaaGreatDoorW.PrintLast Go.Proofs.YtdhkcnhmmiigoaaGreatDoorW.PrintMore
attribute [local go_sem] max2_int min2_int max_two min_two max_three min_three max_four min_four   -- for this text's walks alone
set_option linter.unusedVariables false
set_option linter.unusedSimpArgs false

def impl_Index_kernel.f (l0_0 : List Int) : Option (List Int) := if okRows l0_0 = true then some ((upto (fun j => (j : Int)) 64).filter fun a => !(!decide (setVal l0_0 a = 0))) else none
set_option maxHeartbeats 2000000 in
set_option maxRecDepth 100000 in
theorem kernel_1.pred (A : Option Addr) (c : Nat) (l0 : List Int) (hok : okRows l0 = true) (hc : l0.length ≤ c) (l : List Int) (hl : ∀ x ∈ l, 0 ≤ x ∧ x ≤ 63) (w : World) (row : Option Nat) (B : Nat)
    (hB : ∀ W, w.grownBy W row → W.cell? ⟨B, 0, none⟩ = some (.slice A l0.length c) ∧ Kd.C (Kd.int .i64) W A l0.length l0) :
    PredOverI 45 #[.pointer (some ⟨B, 0, none⟩)] l (fun a => !decide (setVal l0 a = 0)) w row := fun W x hW hx => by
  obtain ⟨hcell, hC⟩ := hB W hW
  obtain ⟨K, hK⟩ := ev_Index_set l0 x ((okRows_iff l0).1 hok).2 ((okRows_iff l0).1 hok).1 (hl x hx).1 (hl x hx).2
  have HC := Aside0.mk (impl_Index_set.calls K A c l0 x (setVal l0 x) W hC hc (hK K (Nat.le_refl _)))
  have hu := Tryz.underlying26
  clear hK hB hC
  show Calls Tryz.prog 45 #[.int .i64 x, .pointer (some ⟨B, 0, none⟩)] W _
  obtain ⟨q, hq⟩ : ∃ q, q = setVal l0 x := ⟨_, rfl⟩
  rw [← hq] at HC
  have HQ := Aside0.mk hq
  clear hq
  go_enter Tryz.func45, Tryz.ntmps45
  go_wp2_with (go_at_call 34; refine HC.out.mono ?_; rintro e w' ⟨rfl, hb⟩; have HB1 := Aside0.mk hb; clear hb)
  go_ret
  exact ⟨ret_bool (by rw [← HQ.out]; by_cases h : q = 0 <;> simp [h]), HB1.out⟩
set_option maxHeartbeats 2000000 in
set_option maxRecDepth 100000 in
theorem impl_Index_kernel.calls (A0_0 : Option Addr) (c0_0 : Nat) (l0_0 : List Int) (r : List Int) (w : World) (hr0_0 : Kd.C (Kd.int .i64) w A0_0 l0_0.length l0_0) (hc0_0 : l0_0.length ≤ c0_0) (h : impl_Index_kernel.f l0_0 = some r) :
    Calls Tryz.prog 27 #[.agg #[.slice A0_0 l0_0.length c0_0]] w fun e w' => ∃ v0_ : Value, e = .returned v0_ ∧ Kd.R (Kd.int .i64) 2 w' w.heap.size (fun _ => True) v0_ r ∧ Below w.heap.size w w' := by
  unfold impl_Index_kernel.f at h
  split at h
  · rename_i hok
    obtain rfl := Option.some.inj h
    clear h
    obtain ⟨K, hK⟩ := ev_ascending 64 (by omega)
    have hb : Below w.heap.size w (w.alloc (.cells #[.slice A0_0 l0_0.length c0_0] 26)) := (Below.refl w.heap.size w).alloc (Nat.le_refl _) _
    have HA := Aside0.mk (impl_ascending.calls K 64 _ (w.alloc (.cells #[.slice A0_0 l0_0.length c0_0] 26)) (hK K (Nat.le_refl _)))
    have eg : ∀ args w, (callFunc 45 args).run Tryz.prog w = .ok (.enter 45 args) w := enters_of Tryz.func45 (by kernel_rfl) rfl
    have HD : Aside0 (∀ (v : Value) (w2 : World), Kd.R (Kd.int .i64) 2 w2 (w.alloc (.cells #[.slice A0_0 l0_0.length c0_0] 26)).heap.size (fun _ => True) v (upto (fun j => (j : Int)) 64) → Below (w.alloc (.cells #[.slice A0_0 l0_0.length c0_0] 26)).heap.size (w.alloc (.cells #[.slice A0_0 l0_0.length c0_0] 26)) w2 →
        Calls Tryz.prog 31 #[v, .func (.func 45) #[] #[.pointer (some ⟨w.heap.size, 0, none⟩)]] w2 fun e w' => ∃ v', e = .returned v' ∧ Kd.R (Kd.int .i64) 2 w' w.heap.size (fun _ => True) v' ((upto (fun j => (j : Int)) 64).filter fun a => !(!decide (setVal l0_0 a = 0))) ∧ Below w.heap.size w w') := ⟨fun v w2 hv hb2 => by
      have ho := own_of_R hv
      have hblk : ∀ k, v.ownBlock = some k → w.heap.size < k := by
        intro k hk
        rcases ho.2 with ⟨rfl, _⟩ | ⟨g, cap, cur, rfl, hbase, _⟩
        · simp [Value.ownBlock] at hk
        · have : g = k := by simpa [Value.ownBlock] using hk
          simp at hbase; omega
      have hbw : Below w.heap.size w w2 := hb.trans (hb2.mono (by simp))
      have hc1 : (w.alloc (.cells #[.slice A0_0 l0_0.length c0_0] 26)).cell? ⟨w.heap.size, 0, none⟩ = some (.slice A0_0 l0_0.length c0_0) := by simp
      have hc2 := (hb2.cell (World.block_lt_of_cell? _ _ hc1)).trans hc1
      have hn : v.ownBlock ≠ some w.heap.size := fun e => by have := hblk _ e; omega
      refine (slices_DeleteFunc_i64 45 #[.pointer (some ⟨w.heap.size, 0, none⟩)] eg (fun a => !decide (setVal l0_0 a = 0)) _ v _ w2 ho
        (kernel_1.pred A0_0 c0_0 l0_0 hok hc0_0 _ (fun x hx => upto64_mem hx) w2 v.ownBlock w.heap.size (fun W hW => ⟨?_, ?_⟩))).mono ?_
      · rw [← hc2]
        exact World.cell?_of_block (hW.block w.heap.size (World.block_lt_of_cell? _ _ hc2) (fun e => hn e.symm))
      · exact Kd.C_below hr0_0 (hbw.grown hW hbw.size (fun k hk => by have := hblk k hk; omega))
      · rintro e w' ⟨v', rfl, h1, h2, h3⟩
        exact ⟨v', rfl, Kd.R_lower (R_of_own h1) (by simp), hbw.grown h2 hbw.size (fun k hk => by have := hblk k hk; omega)⟩⟩
    clear hK hb eg hr0_0 hc0_0 hok
    go_enter Tryz.func27, Tryz.ntmps27
    go_wp2_with (first | (go_at_call 32; refine HA.out.mono ?_; rintro e w2 ⟨v, rfl, hv, hb2⟩; have HQ := Aside0.mk (HD.out v w2 hv hb2); clear hv hb2) | (go_at_call 31; refine HQ.out.mono ?_; rintro e w3 ⟨v', rfl, h1, h2⟩; have H1 := Aside0.mk h1; have H2 := Aside0.mk h2; clear h1 h2))
    go_ret
    exact ⟨_, rfl, H1.out, H2.out⟩
  · exact absurd h (by simp)
end Go.Proofs.YtdhkcnhmmiigoaaGreatDoor.Q
