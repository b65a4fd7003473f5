/- impl.ReadIndex answers the index with a text, not empty and short enough. -/
import Derived.Test.YtdhkcnhmmiigoaaGreatDoorQx0
import Derived.Test.YtdhkcnhmmiigoaaGreatDoorQx2
import Derived.Test.YtdhkcnhmmiigoaaGreatDoorSupto
import Derived.Test.YtdhkcnhmmiigoaaGreatDoorSlu
import Derived.Test.YtdhkcnhmmiigoaaGreatDoorSidxtext
import Derived.Test.YtdhkcnhmmiigoaaGreatDoorStxtdef
import Derived.Test.YtdhkcnhmmiigoaaGreatDoorShelf
namespace Go.Proofs.YtdhkcnhmmiigoaaGreatDoor.Q
open Go.RowKit Go.Proofs.YtdhkcnhmmiigoaaGreatDoorW.PrintWords Go.Proofs.YtdhkcnhmmiigoaaGreatDoorW.PrintLast Go.Proofs.YtdhkcnhmmiigoaaGreatDoorW.PrintMore
attribute [local go_sem] max2_int min2_int max_two min_two max_three min_three max_four min_four   -- for this text's walks alone
set_option linter.unusedVariables false
set_option linter.unusedSimpArgs false

def wordN (x : ByteArray) : Nat → Int
  | 0 => 0
  | i + 1 => (wrap64 (wrap64 (2 * wordN x i) + wrap64 (Go.bits .and .u8 (bt x i) 1))).tmod 64
def wordRow (x : ByteArray) : Int := wordN x x.size
set_option maxRecDepth 100000 in
theorem and_bit : ∀ n : Fin 256, Go.bits .and .u8 (n.val : Int) 1 = (n.val : Int) % 2 := by decide +kernel
theorem and_bt (x : ByteArray) (i : Nat) : Go.bits .and .u8 (bt x i) 1 = bt x i % 2 := by
  have h := bt_range x i
  have := and_bit ⟨(bt x i).toNat, by omega⟩
  rwa [show (((⟨(bt x i).toNat, by omega⟩ : Fin 256).val : Nat) : Int) = bt x i from by show ((bt x i).toNat : Int) = _; omega] at this
theorem wordN_val (x : ByteArray) (i : Nat) : (0 ≤ wordN x i ∧ wordN x i ≤ 63) ∧ wordN x (i + 1) = (2 * wordN x i + bt x i % 2) % 64 := by
  induction i with
  | zero =>
    have h := bt_range x 0
    refine ⟨⟨Int.le_refl _, by show (0 : Int) ≤ 63; decide⟩, ?_⟩
    show (wrap64 (wrap64 (2 * wordN x 0) + wrap64 (Go.bits .and .u8 (bt x 0) 1))).tmod 64 = _
    rw [and_bt, show wordN x 0 = 0 from rfl, wrap64_id (x := 2 * 0) (by omega) (by omega), wrap64_id (x := bt x 0 % 2) (by omega) (by omega), wrap64_id (by omega) (by omega), Int.tmod_eq_emod_of_nonneg (by omega)]
  | succ i ih =>
    have h := bt_range x (i + 1)
    have hr : 0 ≤ wordN x (i + 1) ∧ wordN x (i + 1) ≤ 63 := by rw [ih.2]; omega
    refine ⟨hr, ?_⟩
    show (wrap64 (wrap64 (2 * wordN x (i + 1)) + wrap64 (Go.bits .and .u8 (bt x (i + 1)) 1))).tmod 64 = _
    rw [and_bt, wrap64_id (x := 2 * wordN x (i + 1)) (by omega) (by omega), wrap64_id (x := bt x (i + 1) % 2) (by omega) (by omega), wrap64_id (by omega) (by omega), Int.tmod_eq_emod_of_nonneg (by omega)]
theorem wordN_range (x : ByteArray) (i : Nat) : 0 ≤ wordN x i ∧ wordN x i ≤ 63 := (wordN_val x i).1
theorem splitB_size (sep : ByteArray) (h1 : 1 ≤ sep.size) : ∀ (k : Nat) (s : ByteArray), ∀ x ∈ Go.Lib.splitB sep 0 k s, x.size ≤ s.size
  | 0, s, x, hx => by rw [Go.Lib.splitB_zero, List.mem_singleton] at hx; rw [hx]; exact Nat.le_refl _
  | k + 1, s, x, hx => by
    rcases Go.Lib.indexB_cases s sep with hix | ⟨i, hix, _⟩
    · rw [Go.Lib.splitB_miss sep 0 _ s hix, List.mem_singleton] at hx; rw [hx]; exact Nat.le_refl _
    · rw [Go.Lib.splitB_hit sep 0 k s i hix] at hx
      rcases List.mem_cons.1 hx with rfl | hx
      · rw [ByteArray.size_extract]; omega
      · have := splitB_size sep h1 k _ x hx
        rw [ByteArray.size_extract] at this
        omega
def irdL (s : ByteArray) : List ByteArray := Go.Lib.splitB ⟨#[47]⟩ 0 (Go.Lib.countB s ⟨#[47]⟩) s
def irdF (s : ByteArray) : List Int × Bool := if (irdL s).length ≤ 3 ∧ txtTo ((irdL s).map wordRow) (irdL s).length = s then ((irdL s).map wordRow, true) else ([], false)
set_option maxHeartbeats 4000000 in
set_option maxRecDepth 100000 in
theorem impl_ReadIndex.calls (s : ByteArray) (m : Int) (w : World) (hs : s.size ≤ 1048576) (hm : w.cell? ⟨0, 0, none⟩ = some (.int .i64 m)) (h0 : s ≠ ⟨#[]⟩) :
    Calls Tryz.prog 16 #[.string s] w fun e w' => ∃ v, e = .returned (.tuple #[.agg #[v], .bool (irdF s).2]) ∧ Kd.R (Kd.int .i64) 2 w' w.heap.size (fun _ => True) v (irdF s).1 ∧ Below w.heap.size w w' := by
  have hu := Tryz.underlying26
  have hb0 : (s.toList == ([] : List UInt8)) = false := beq_eq_false_iff_ne.mpr (fun e => h0 (rd_ba_ext (by rw [← rd_toList, e])))
  obtain ⟨w1, hw1⟩ : ∃ w1, w1 = (w.alloc (.cells #[.slice none 0 0] 26)).alloc (.cells #[.slice none 0 0] 26) := ⟨_, rfl⟩
  have hb1 : Below w.heap.size w w1 := by rw [hw1]; exact below_alloc (below_alloc (Below.refl _ _) _) _
  have hm1 : w1.cell? ⟨0, 0, none⟩ = some (.int .i64 m) := (hb1.cell (World.block_lt_of_cell? _ _ hm)).trans hm
  have HS1 : Aside0 (w1.heap.size = w.heap.size + 2) := ⟨by rw [hw1]; simp⟩
  have HSP := Aside0.mk (Tryz.strings_Split s ⟨#[47]⟩ m w1 (by omega) hm1 (by decide))
  obtain ⟨L, hL⟩ : ∃ L, L = Go.Lib.splitB ⟨#[47]⟩ 0 (Go.Lib.countB s ⟨#[47]⟩) s := ⟨_, rfl⟩
  have hLn : L.length = Go.Lib.countB s ⟨#[47]⟩ + 1 := by rw [hL]; exact Go.Lib.splitB_all ⟨#[47]⟩ (by decide) 0 _ s rfl
  rw [← hL, ← hLn] at HSP
  have HL := Aside0.mk hL
  have HLN := Aside0.mk hLn
  clear hL hLn
  have HW1 : Aside0 (BoxW w.heap.size (w.heap.size + 1) w w1 (.slice none 0 0) []) := ⟨by
    subst hw1
    have h1 := blk_new w (.cells #[.slice none 0 0] 26)
    have h2 := blk_alloc h1 (.cells #[.slice none 0 0] 26)
    have h3 := blk_new (w.alloc (.cells #[.slice none 0 0] 26)) (.cells #[.slice none 0 0] 26)
    exact ⟨h2, by simpa using h3, Kd.R_nil _ _ _ _ _, hb1, ⟨by omega, by omega, by omega⟩⟩⟩
  go_enter Tryz.func16, Tryz.ntmps16
  go_wp2_with (go_at_call 36; rw [← hw1]; (with_reducible refine HSP.out.mono ?_); rintro e w2 ⟨rfl, hw2⟩; have hb2 : Below w1.heap.size w1 w2 := (by rw [hw2]; exact below_alloc (Below.refl _ _) _); have HW2 := Aside0.mk (HW1.out.below hb2); have HS2 := Aside0.mk hw2; clear hw2 hw1)
  have HWB : Aside0 (w2.heap[w1.heap.size]? = some (.cells ((L.map Value.string).toArray) 9 (0, 0))) := ⟨by rw [HS2.out]; exact blk_new w1 _⟩
  go_loopg [16] L.length (fun gg s16 wr => ∃ (i : Nat) (v : Value), s16 = .int .i64 i ∧ Aside0 (i ≤ L.length ∧ L.length - i ≤ gg) ∧ Aside0 (BoxW w.heap.size (w.heap.size + 1) w wr v ((L.take i).map wordRow)) ∧ Aside0 (wr.heap[w1.heap.size]? = some (.cells ((L.map Value.string).toArray) 9 (0, 0))) ∧ Aside0 (i ≤ 3))
  case atStart => exact ⟨0, _, rfl, ⟨⟨Nat.zero_le _, by omega⟩⟩, ⟨HW2.out⟩, ⟨HWB.out⟩, ⟨by omega⟩⟩
  case round =>
    clear HW2
    obtain ⟨i, v, rfl, HK, HW, HB, H3⟩ := hrel
    have hcell := HW.out.cell
    by_cases hlt : i < L.length
    · have hltz : (i : Int) < (L.length : Int) := by omega
      have h0z : (0 : Int) ≤ (i : Int) := by omega
      have hx : wr.cell? ⟨w1.heap.size, i, none⟩ = some (.string (L[i]'hlt)) := by rw [blk_cell HB.out]; simp [hlt]
      obtain ⟨x, hxx⟩ : ∃ x, x = L[i]'hlt := ⟨_, rfl⟩
      rw [← hxx] at hx
      have HX := Aside0.mk hxx
      have HXS : Aside0 (x.size ≤ 1048576) := ⟨by have := splitB_size ⟨#[47]⟩ (by decide) _ s x (by rw [← HL.out, HX.out]; exact List.getElem_mem hlt); omega⟩
      clear hxx
      go_wp2_with (fail)
      go_loopg [7, 22] x.size (fun gg s7 s22 wr2 => ∃ (p : Nat), s7 = .int .i64 (wordN x p) ∧ s22 = .int .i64 p ∧ wr2 = wr ∧ Aside0 (p ≤ x.size ∧ x.size - p ≤ gg))
      case atStart => exact ⟨0, rfl, rfl, rfl, ⟨⟨Nat.zero_le _, by omega⟩⟩⟩
      case round =>
        obtain ⟨p, rfl, rfl, rfl, HP⟩ := hrel
        by_cases hp : p < x.size
        · have hpz : (p : Int) < (x.size : Int) := by omega
          have hp0 : (0 : Int) ≤ (p : Int) := by omega
          have hst : wordN x (p + 1) = (wrap64 (wrap64 (2 * wordN x p) + wrap64 (Go.bits .and .u8 ((x[p]'hp).toNat : Int) 1))).tmod 64 := by rw [bt_at]; rfl
          have HST := Aside0.mk hst
          clear hst
          go_wp2_with (fail)
          go_roundg (x.size - (p + 1))
          case measure => have := HP.out; omega
          case rel => exact ⟨p + 1, by rw [HST.out], by have := HXS.out; rw [wrap64_succ (by omega)], rfl, ⟨by have := HP.out; omega⟩⟩
        · have hpz : ¬ (p : Int) < (x.size : Int) := by omega
          have hpe : p = x.size := by have := HP.out; omega
          subst hpe
          obtain ⟨A, c, eqv, hc, hC⟩ := Kd.R_reads HW.out.row
          subst eqv
          obtain ⟨R, hR⟩ : ∃ R, R = (L.take i).map wordRow := ⟨_, rfl⟩
          have HRL : Aside0 (R.length ≤ 3) := ⟨by rw [hR, List.length_map, List.length_take]; have := H3.out; omega⟩
          have HRI : Aside0 (R.length = i) := ⟨by rw [hR, List.length_map, List.length_take]; omega⟩
          rw [← hR] at HW hcell hc hC
          have HR := Aside0.mk hR
          obtain ⟨y, hy⟩ : ∃ y, y = wordN x x.size := ⟨_, rfl⟩
          rw [← hy]
          have HY := Aside0.mk hy
          clear hc hC hR hy
          by_cases h3 : R.length + 1 > 3
          · have h3z : ((R.length : Int) + 1 > 3) := by omega
            go_wp2_with ((with_reducible refine gate_builtin (b := .append) (xs := #[.tmp 36, .tmp 38]) rfl ?_); at_builtin; refine Kd.R_append (Kd.int .i64) (w0 := w) w.heap.size rfl (.tmp 36) (.tmp 38) 24 2 (.int .i64 0) 8 rfl Tryz.underlying24 infoI rfl (by decide) (by omega) (.slice A R.length c) R y [.int .i64 y] (fun _ => True) (fun _ => False) rfl rfl ?aP (fun _ hk => hk.elim) ?aF ?aO ?aB ?aS ?aL ?_; (case aP => exact rfl); (case aB => exact HW.out.bel); (case aF => exact (fun _ _ => trivial)); (case aO => exact HW.out.row); (case aS => exact HW.out.bel.size); (case aL => have := HRL.out; omega); intro vap wap ho hb hg hat; obtain ⟨A5, c5, evap, _, _⟩ := Kd.R_reads ho; rw [List.length_append, List.length_singleton] at evap; subst evap; have hcell3 : wap.cell? ⟨w.heap.size + 1, 0, none⟩ = some _ := blk_cell (HW.out.grown hg).2 0; have hf3 : wap.frozen? ⟨w.heap.size + 1, 0, none⟩ = false := blk_frozen (HW.out.grown hg).2 0; have HW3 := Aside0.mk (HW.out.app ho hb hg); have hcell4 := HW3.out.cell; have hf4 : wap.frozen? ⟨w.heap.size, 0, none⟩ = false := blk_frozen (HW.out.grown hg).1 0; have hrc3 : wap.cell? ⟨w.heap.size, 0, none⟩ = some (.slice none 0 0) := (by rw [blk_cell (HW.out.grown hg).1]; rfl); have hrc4 := HW3.out.rescell; have HB3 := Aside0.mk (blk_far (p := ⟨w.heap.size + 1, 0, none⟩) (blk_grown HB.out hg (Kd.R_ne HW.out.row HB.out (by decide))) (by show w1.heap.size ≠ w.heap.size + 1; have := HS1.out; omega) (.slice A5 (R.length + 1) c5)); clear ho hb hg hat)
            refine bodyPost_ret (results_ct rfl _ _ w.heap.size 26 #[.slice none 0 0] (0, 0) _ rfl (HW3.out.resset _) Tryz.underlying26 rfl (by kernel_rfl)) rfl ?_
            rw [show irdF s = ([], false) by unfold irdF irdL; rw [← HL.out, if_neg (fun h => by have := h.1; have := HRI.out; omega)]]
            exact ⟨.slice none 0 0, rfl, Kd.R_nil _ _ _ _ _, HW3.out.bel.setCell (p := ⟨w.heap.size, 0, none⟩) (Nat.le_refl _) _⟩
          · have h3z : ¬ ((R.length : Int) + 1 > 3) := by omega
            go_wp2_with ((with_reducible refine gate_builtin (b := .append) (xs := #[.tmp 36, .tmp 38]) rfl ?_); at_builtin; refine Kd.R_append (Kd.int .i64) (w0 := w) w.heap.size rfl (.tmp 36) (.tmp 38) 24 2 (.int .i64 0) 8 rfl Tryz.underlying24 infoI rfl (by decide) (by omega) (.slice A R.length c) R y [.int .i64 y] (fun _ => True) (fun _ => False) rfl rfl ?aP (fun _ hk => hk.elim) ?aF ?aO ?aB ?aS ?aL ?_; (case aP => exact rfl); (case aB => exact HW.out.bel); (case aF => exact (fun _ _ => trivial)); (case aO => exact HW.out.row); (case aS => exact HW.out.bel.size); (case aL => have := HRL.out; omega); intro vap wap ho hb hg hat; obtain ⟨A5, c5, evap, _, _⟩ := Kd.R_reads ho; rw [List.length_append, List.length_singleton] at evap; subst evap; have hcell3 : wap.cell? ⟨w.heap.size + 1, 0, none⟩ = some _ := blk_cell (HW.out.grown hg).2 0; have hf3 : wap.frozen? ⟨w.heap.size + 1, 0, none⟩ = false := blk_frozen (HW.out.grown hg).2 0; have HW3 := Aside0.mk (HW.out.app ho hb hg); have hcell4 := HW3.out.cell; have hf4 : wap.frozen? ⟨w.heap.size, 0, none⟩ = false := blk_frozen (HW.out.grown hg).1 0; have hrc3 : wap.cell? ⟨w.heap.size, 0, none⟩ = some (.slice none 0 0) := (by rw [blk_cell (HW.out.grown hg).1]; rfl); have hrc4 := HW3.out.rescell; have HB3 := Aside0.mk (blk_far (p := ⟨w.heap.size + 1, 0, none⟩) (blk_grown HB.out hg (Kd.R_ne HW.out.row HB.out (by decide))) (by show w1.heap.size ≠ w.heap.size + 1; have := HS1.out; omega) (.slice A5 (R.length + 1) c5)); clear ho hb hg hat)
            go_roundg (L.length - (i + 1))
            case measure => have := HK.out; omega
            case rel => exact ⟨i + 1, _, by rw [wrap64_succ (by have := H3.out; omega)], ⟨by have := HK.out; omega⟩, ⟨by rw [List.take_succ_eq_append_getElem hlt, List.map_append, List.map_singleton, ← HR.out, ← HX.out]; rw [HY.out] at HW3; exact HW3.out⟩, ⟨HB3.out⟩, ⟨by have := HRI.out; omega⟩⟩
    · have hltz : ¬ (i : Int) < (L.length : Int) := by omega
      have hi2 : i = L.length := by have := HK.out; omega
      have h3 := H3.out
      subst hi2
      rw [List.take_length] at HW
      obtain ⟨R, hR⟩ : ∃ R, R = L.map wordRow := ⟨_, rfl⟩
      have hRl : R.length = L.length := by rw [hR, List.length_map]
      have hok : okRows R = true := (okRows_iff R).2 ⟨fun n hn => by rw [hR] at hn; obtain ⟨x, _, rfl⟩ := List.mem_map.1 hn; exact wordN_range x x.size, by omega⟩
      rw [← hR] at HW
      obtain ⟨A, c, eqv, hc, hC⟩ := Kd.R_reads HW.out.row
      subst eqv
      have hev := ev_indexText R hok
      have HIT := Aside0.mk (impl_indexText.calls hev.choose A c R _ wr hC hc (hev.choose_spec _ (Nat.le_refl _)))
      have HR := Aside0.mk hR
      have HRL := Aside0.mk hRl
      clear hR hRl hok hc hC hev
      by_cases ht : txtTo R R.length = s
      · have hF : Aside0 (irdF s = (R, true)) := ⟨by unfold irdF irdL; rw [← HL.out, ← HR.out, ← HRL.out, if_pos ⟨by have := HRL.out; omega, ht⟩]⟩
        go_wp2_with (go_at_call 35; (with_reducible refine HIT.out.mono ?_); rintro e w9 ⟨rfl, hb9⟩; have HW9 := Aside0.mk (HW.out.below hb9); have hc9 := HW9.out.cell; have hrc9 := HW9.out.rescell; have hf9 : w9.frozen? ⟨w.heap.size, 0, none⟩ = false := blk_frozen HW9.out.res 0; clear hb9)
        refine bodyPost_ret (results_ct rfl _ _ w.heap.size 26 #[.slice A R.length c] (0, 0) _ rfl (HW9.out.resset _) Tryz.underlying26 rfl (by kernel_rfl)) rfl ?_
        rw [hF.out]
        exact ⟨.slice A R.length c, rfl, Kd.R_set HW9.out.row HW9.out.res (by decide) 0 _, HW9.out.bel.setCell (p := ⟨w.heap.size, 0, none⟩) (Nat.le_refl _) _⟩
      · have hF : Aside0 (irdF s = ([], false)) := ⟨by unfold irdF irdL; rw [← HL.out, ← HR.out, ← HRL.out, if_neg (fun h => ht h.2)]⟩
        have htb : ((txtTo R R.length).toList == s.toList) = false := beq_eq_false_iff_ne.mpr (fun e => ht (rd_ba_ext (by rw [← rd_toList, ← rd_toList]; exact e)))
        go_wp2_with (go_at_call 35; (with_reducible refine HIT.out.mono ?_); rintro e w9 ⟨rfl, hb9⟩; have HW9 := Aside0.mk (HW.out.below hb9); have hc9 := HW9.out.cell; have hrc9 := HW9.out.rescell; have hf9 : w9.frozen? ⟨w.heap.size, 0, none⟩ = false := blk_frozen HW9.out.res 0; clear hb9)
        refine bodyPost_ret (results_ct rfl _ _ w.heap.size 26 #[.slice none 0 0] (0, 0) _ rfl (HW9.out.resset _) Tryz.underlying26 rfl (by kernel_rfl)) rfl ?_
        rw [hF.out]
        exact ⟨.slice none 0 0, rfl, Kd.R_nil _ _ _ _ _, HW9.out.bel.setCell (p := ⟨w.heap.size, 0, none⟩) (Nat.le_refl _) _⟩
set_option maxHeartbeats 1000000 in
set_option maxRecDepth 100000 in
theorem impl_ReadIndex.empty (w : World) : Calls Tryz.prog 16 #[.string ⟨#[]⟩] w fun e w' => e = .returned (.tuple #[.agg #[.slice none 0 0], .bool true]) ∧ Below w.heap.size w w' := by
  have hu := Tryz.underlying26
  go_enter Tryz.func16, Tryz.ntmps16
  go_wp2_with (fail)
  refine bodyPost_ret (results_ct rfl _ _ w.heap.size 26 #[.slice none 0 0] (0, 0) _ rfl (blk_alloc (blk_new w (.cells #[.slice none 0 0] 26)) _) Tryz.underlying26 rfl (by kernel_rfl)) rfl ?_
  exact ⟨rfl, below_alloc (below_alloc (Below.refl _ _) _) _⟩
end Go.Proofs.YtdhkcnhmmiigoaaGreatDoor.Q
