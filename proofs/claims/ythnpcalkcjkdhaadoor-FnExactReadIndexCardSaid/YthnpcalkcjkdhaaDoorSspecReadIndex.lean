/- spec.ReadIndex answers the index with a text; the text is short enough. -/
import Derived.Test.YthnpcalkcjkdhaaDoorQx0
import Derived.Test.YthnpcalkcjkdhaaDoorSbase
import Derived.Test.YthnpcalkcjkdhaaDoorSl06Is
import Derived.Test.YthnpcalkcjkdhaaDoorSl06Text
import Derived.Test.YthnpcalkcjkdhaaDoorSokrows
import Derived.Test.YthnpcalkcjkdhaaDoorSown
namespace Go.Proofs.YthnpcalkcjkdhaaDoor.Q
open Go.RowKit Go.Proofs.YthnpcalkcjkdhaaDoorW.PrintWords Go.Proofs.YthnpcalkcjkdhaaDoorW.PrintLast Go.Proofs.YthnpcalkcjkdhaaDoorW.PrintMore
attribute [local go_sem] max2_int min2_int max_two min_two max_three min_three max_four min_four   -- for this text's walks alone
set_option linter.unusedVariables false
set_option linter.unusedSimpArgs false

/-- A struct with one row, in a box, and the result's box. -/
structure BoxW (g1 g2 : Nat) (w W : World) (v : Value) (S : List Int) : Prop where
  res : W.heap[g1]? = some (.cells #[.slice none 0 0] 24 (0, 0))
  box : W.heap[g2]? = some (.cells #[v] 24 (0, 0))
  row : Kd.R (Kd.int .i64) 2 W w.heap.size (fun _ => True) v S
  bel : Below w.heap.size w W
  far : w.heap.size ≤ g1 ∧ w.heap.size ≤ g2 ∧ g1 ≠ g2
section
variable {g1 g2 : Nat} {w W : World} {v : Value} {S : List Int}
theorem BoxW.below {W' : World} (h : BoxW g1 g2 w W v S) (hb : Below W.heap.size W W') : BoxW g1 g2 w W' v S :=
  ⟨blk_below h.res hb, blk_below h.box hb, Kd.R_below h.row hb, h.bel.trans (hb.mono h.bel.size), h.far⟩
theorem BoxW.cell (h : BoxW g1 g2 w W v S) : W.cell? ⟨g2, 0, none⟩ = some v := by rw [blk_cell h.box]; rfl
theorem BoxW.rescell (h : BoxW g1 g2 w W v S) : W.cell? ⟨g1, 0, none⟩ = some (.slice none 0 0) := by rw [blk_cell h.res]; rfl
theorem BoxW.resset (h : BoxW g1 g2 w W v S) (u : Value) : (W.setCell ⟨g1, 0, none⟩ u).heap[g1]? = some (.cells #[u] 24 (0, 0)) := blk_set h.res 0 u
theorem BoxW.grown {w1 : World} (h : BoxW g1 g2 w W v S) (hg : W.grownBy w1 v.ownBlock) : w1.heap[g1]? = some (.cells #[.slice none 0 0] 24 (0, 0)) ∧ w1.heap[g2]? = some (.cells #[v] 24 (0, 0)) :=
  ⟨blk_grown h.res hg (Kd.R_ne h.row h.res (by decide)), blk_grown h.box hg (Kd.R_ne h.row h.box (by decide))⟩
theorem BoxW.app {w1 : World} {v1 : Value} {S1 : List Int} (h : BoxW g1 g2 w W v S) (ho : Kd.R (Kd.int .i64) 2 w1 w.heap.size (fun _ => True) v1 S1) (hb : Below w.heap.size w w1) (hg : W.grownBy w1 v.ownBlock) : BoxW g1 g2 w (w1.setCell ⟨g2, 0, none⟩ v1) v1 S1 := by
  have h1 := blk_grown h.res hg (Kd.R_ne h.row h.res (by decide))
  have h2 := blk_grown h.box hg (Kd.R_ne h.row h.box (by decide))
  exact ⟨blk_far h1 (by show g1 ≠ g2; exact h.far.2.2) v1, blk_set h2 0 v1, Kd.R_set ho h2 (by decide) 0 v1, hb.setCell (p := ⟨g2, 0, none⟩) (by show w.heap.size ≤ g2; exact h.far.2.1) v1, h.far⟩
end
theorem rd_ba_ext {a b : ByteArray} (h : a.data.toList = b.data.toList) : a = b := by
  obtain ⟨⟨x⟩⟩ := a
  obtain ⟨⟨y⟩⟩ := b
  have e : x = y := h
  rw [e]
theorem rd_toList (s : ByteArray) : s.toList = s.data.toList := by
  first | exact ByteArray.toList_eq s | exact Go.ByteArray.toList_eq s
theorem infoI : (Tryd.prog.info? 2).map (fun i => (i.zero, i.size, i.bytes)) = some (some (.int .i64 0), 1, 8) := by kernel_rfl
def bt (s : ByteArray) (i : Nat) : Int := if h : i < s.size then ((s[i]'h).toNat : Int) else 0
theorem bt_at (s : ByteArray) (i : Nat) (h : i < s.size) : ((s[i]'h).toNat : Int) = bt s i := by unfold bt; rw [dif_pos h]
theorem bt_range (s : ByteArray) (i : Nat) : 0 ≤ bt s i ∧ bt s i ≤ 255 := by
  unfold bt
  split
  · rename_i h
    have := (s[i]'h).toNat_lt
    omega
  · omega
def srdN (s : ByteArray) : Nat → Int
  | 0 => 0
  | i + 1 => if i % 7 = 5 then 0 else if i % 7 = 6 then 0 else (2 * srdN s i) % 128 + bt s i % 2
def srdR (s : ByteArray) : Nat → List Int
  | 0 => []
  | i + 1 => if i % 7 = 5 then srdR s i ++ [((2 * srdN s i) % 128 + bt s i % 2) % 64] else srdR s i
theorem srd_range (s : ByteArray) (i : Nat) : 0 ≤ srdN s i ∧ srdN s i ≤ 128 := by
  induction i with
  | zero => exact ⟨Int.le_refl _, by show (0 : Int) ≤ 128; decide⟩
  | succ i ih =>
    have := bt_range s i
    unfold srdN
    split
    · omega
    · split <;> omega
theorem srdR_len (s : ByteArray) (i : Nat) : (srdR s i).length ≤ i := by
  induction i with
  | zero => exact Nat.le_refl _
  | succ i ih =>
    unfold srdR
    split
    · rw [List.length_append, List.length_singleton]; omega
    · omega
theorem srd_val (s : ByteArray) (i : Nat) : wrap64 ((wrap64 (2 * srdN s i)).tmod 128 + bt s i % 2) = (2 * srdN s i) % 128 + bt s i % 2 := by
  have h1 := srd_range s i
  have h2 := bt_range s i
  rw [wrap64_id (x := 2 * srdN s i) (by omega) (by omega), Int.tmod_eq_emod_of_nonneg (by omega), wrap64_id (by omega) (by omega)]
def srdF (s : ByteArray) : List Int × Bool := if s.size ≤ 21 ∧ okRows (srdR s s.size) = true ∧ txtTo (srdR s s.size) (srdR s s.size).length = s then (srdR s s.size, true) else ([], false)
set_option maxHeartbeats 4000000 in
set_option maxRecDepth 100000 in
theorem spec_ReadIndex.calls (s : ByteArray) (w : World) (hs : s.size ≤ 1048576) :
    Calls Tryd.prog 4 #[.string s] w fun e w' => ∃ v, e = .returned (.tuple #[.agg #[v], .bool (srdF s).2]) ∧ Kd.R (Kd.int .i64) 2 w' w.heap.size (fun _ => True) v (srdF s).1 ∧ Below w.heap.size w w' := by
  have hu := Tryd.underlying24
  by_cases hl : s.size > 21
  · have hlz : (s.size : Int) > 21 := by omega
    go_enter Tryd.func4, Tryd.ntmps4
    go_wp2_with (fail)
    refine bodyPost_ret (results_ct rfl _ _ w.heap.size 24 #[.slice none 0 0] (0, 0) _ rfl (blk_alloc (blk_alloc (blk_new w (.cells #[.slice none 0 0] 24)) _) _) Tryd.underlying24 rfl (by kernel_rfl)) rfl ?_
    rw [show srdF s = ([], false) by unfold srdF; rw [if_neg (fun h => by have := h.1; omega)]]
    exact ⟨.slice none 0 0, rfl, Kd.R_nil _ _ _ _ _, below_alloc (below_alloc (below_alloc (Below.refl _ _) _) _) _⟩
  · have hlz : ¬ (s.size : Int) > 21 := by omega
    have HW0 : Aside0 (BoxW w.heap.size (w.heap.size + 1 + 1) w (((w.alloc (.cells #[.slice none 0 0] 24)).alloc (.cells #[] 2)).alloc (.cells #[.slice (some ⟨w.heap.size + 1, 0, none⟩) 0 0] 24)) (.slice (some ⟨w.heap.size + 1, 0, none⟩) 0 0) []) := ⟨⟨by
        have h1 := blk_new w (.cells #[.slice none 0 0] 24)
        have h2 := blk_alloc (blk_alloc h1 (.cells #[] 2)) (.cells #[.slice (some ⟨w.heap.size + 1, 0, none⟩) 0 0] 24)
        simpa using h2, by
        have h1 := blk_new ((w.alloc (.cells #[.slice none 0 0] 24)).alloc (.cells #[] 2)) (.cells #[.slice (some ⟨w.heap.size + 1, 0, none⟩) 0 0] 24)
        simpa using h1, by
        have ho := own_lit (w.alloc (.cells #[.slice none 0 0] 24)) w.heap.size 2 .i64 [] (by simp) (by simp)
        have hr := R_of_own ho
        simpa [nums] using Kd.R_alloc hr (.cells #[.slice (some ⟨w.heap.size + 1, 0, none⟩) 0 0] 24), below_alloc (below_alloc (below_alloc (Below.refl _ _) _) _) _, ⟨by omega, by omega, by omega⟩⟩⟩
    go_enter Tryd.func4, Tryd.ntmps4
    go_wp2_with (fail)
    go_loopg [5, 6] s.size (fun gg s5 s6 wr => ∃ (i : Nat) (v : Value), s5 = .int .i64 (srdN s i) ∧ s6 = .int .i64 i ∧ Aside0 (i ≤ s.size ∧ s.size - i ≤ gg) ∧ Aside0 (BoxW w.heap.size (w.heap.size + 1 + 1) w wr v (srdR s i)))
    case atStart => exact ⟨0, _, rfl, rfl, ⟨⟨Nat.zero_le _, by omega⟩⟩, ⟨HW0.out⟩⟩
    case round =>
      clear HW0
      obtain ⟨i, v, rfl, rfl, HK, HW⟩ := hrel
      have hcell := HW.out.cell
      obtain ⟨A, c, eqv, hc, hC⟩ := Kd.R_reads HW.out.row
      subst eqv
      by_cases hlt : i < s.size
      · have hltz : (i : Int) < (s.size : Int) := by omega
        have h0z : (0 : Int) ≤ (i : Int) := by omega
        have hbt := bt_at s i hlt
        have hval := srd_val s i
        have hrg := srd_range s i
        have hbr := bt_range s i
        have hN : srdN s (i + 1) = if i % 7 = 5 then 0 else if i % 7 = 6 then 0 else (2 * srdN s i) % 128 + bt s i % 2 := rfl
        have hR : srdR s (i + 1) = if i % 7 = 5 then srdR s i ++ [((2 * srdN s i) % 128 + bt s i % 2) % 64] else srdR s i := rfl
        have HRL := Aside0.mk (show (srdR s i).length ≤ 21 by have := srdR_len s i; omega)
        obtain ⟨q, hq⟩ : ∃ q, q = (2 * srdN s i) % 128 + bt s i % 2 := ⟨_, rfl⟩
        rw [← hq] at hval hN hR
        obtain ⟨m, hm⟩ : ∃ m, m = q % 64 := ⟨_, rfl⟩
        rw [← hm] at hR
        have hqm : q.tmod 64 = m := by rw [hm, Int.tmod_eq_emod_of_nonneg (by omega)]
        rw [← hbt] at hval
        obtain ⟨R, hRr⟩ : ∃ R, R = srdR s i := ⟨_, rfl⟩
        rw [← hRr] at HW hR HRL hcell hc hC
        have HN := Aside0.mk hN
        have HR := Aside0.mk hR
        have hsz : s.size ≤ 21 := by omega
        obtain ⟨y, hy⟩ : ∃ y, y = srdN s i := ⟨_, rfl⟩
        rw [← hy] at hval ⊢
        clear hbt hrg hbr hN hR hq hm hRr hc hC hy
        by_cases h5 : i % 7 = 5
        · have h5a : ((i : Int) % 7 == 5) = true := by rw [beq_iff_eq]; omega
          have h6a : ((i : Int) % 7 == 6) = false := by rw [beq_eq_false_iff_ne]; omega
          have HN2 : Aside0 (srdN s (i + 1) = 0) := ⟨by rw [HN.out, if_pos h5]⟩
          have HR2 : Aside0 (srdR s (i + 1) = R ++ [m]) := ⟨by rw [HR.out, if_pos h5]⟩
          clear h5
          go_wp2_with ((with_reducible refine gate_builtin (b := .append) (xs := #[.tmp 32, .tmp 35]) rfl ?_); at_builtin; refine Kd.R_append (Kd.int .i64) (w0 := w) w.heap.size rfl (.tmp 32) (.tmp 35) 22 2 (.int .i64 0) 8 rfl Tryd.underlying22 infoI rfl (by decide) (by omega) (.slice A R.length c) R m [.int .i64 m] (fun _ => True) (fun _ => False) rfl rfl ?aP (fun _ hk => hk.elim) ?aF ?aO ?aB ?aS ?aL ?_; (case aP => exact rfl); (case aB => exact HW.out.bel); (case aF => exact (fun _ _ => trivial)); (case aO => exact HW.out.row); (case aS => exact HW.out.bel.size); (case aL => have := HRL.out; omega); intro vap wap ho hb hg hat; obtain ⟨A5, c5, evap, _, _⟩ := Kd.R_reads ho; rw [List.length_append, List.length_singleton] at evap; subst evap; have hcell3 : wap.cell? ⟨w.heap.size + 1 + 1, 0, none⟩ = some _ := blk_cell (HW.out.grown hg).2 0; have hf3 : wap.frozen? ⟨w.heap.size + 1 + 1, 0, none⟩ = false := blk_frozen (HW.out.grown hg).2 0; have HW3 := Aside0.mk (HW.out.app ho hb hg); clear ho hb hg hat)
          go_roundg (s.size - (i + 1))
          case measure => have := HK.out; omega
          case rel => exact ⟨i + 1, _, by rw [HN2.out], by go_num, ⟨by have := HK.out; omega⟩, ⟨by rw [HR2.out]; exact HW3.out⟩⟩
        · have h5a : ((i : Int) % 7 == 5) = false := by rw [beq_eq_false_iff_ne]; omega
          have HR2 : Aside0 (srdR s (i + 1) = R) := ⟨by rw [HR.out, if_neg h5]⟩
          by_cases h6 : i % 7 = 6
          · have h6a : ((i : Int) % 7 == 6) = true := by rw [beq_iff_eq]; omega
            have HN2 : Aside0 (srdN s (i + 1) = 0) := ⟨by rw [HN.out, if_neg h5, if_pos h6]⟩
            clear h5 h6
            go_wp2_with (fail)
            go_roundg (s.size - (i + 1))
            case measure => have := HK.out; omega
            case rel => exact ⟨i + 1, _, by rw [HN2.out], by go_num, ⟨by have := HK.out; omega⟩, ⟨by rw [HR2.out]; exact HW.out⟩⟩
          · have h6a : ((i : Int) % 7 == 6) = false := by rw [beq_eq_false_iff_ne]; omega
            have HN2 : Aside0 (srdN s (i + 1) = q) := ⟨by rw [HN.out, if_neg h5, if_neg h6]⟩
            clear h5 h6
            go_wp2_with (fail)
            go_roundg (s.size - (i + 1))
            case measure => have := HK.out; omega
            case rel => exact ⟨i + 1, _, by rw [HN2.out, hval], by go_num, ⟨by have := HK.out; omega⟩, ⟨by rw [HR2.out]; exact HW.out⟩⟩
      · have hltz : ¬ (i : Int) < (s.size : Int) := by omega
        have hi2 : i = s.size := by have := HK.out; omega
        subst hi2
        obtain ⟨R, hRr⟩ : ∃ R, R = srdR s s.size := ⟨_, rfl⟩
        rw [← hRr] at HW hcell hc hC
        have HIS := Aside0.mk (spec_l06Is.calls (w.heap.size + 1 + 1) A c R wr hcell hC)
        have HRR := Aside0.mk hRr
        clear hRr
        cases hok : okRows R with
        | false =>
          rw [hok] at HIS
          have hF : Aside0 (srdF s = ([], false)) := ⟨by unfold srdF; rw [if_neg (fun h => by have h2 := h.2.1; rw [← HRR.out, hok] at h2; cases h2)]⟩
          clear hok hc hC hcell
          go_wp2_with (go_at_call 9; (with_reducible refine HIS.out.mono ?_); rintro e w5 ⟨rfl, ⟨nd, hw⟩⟩; have HW5 := Aside0.mk (HW.out.below (below_at hw.symm (Below.refl _ _))); have hcell5 := HW5.out.cell; have hrc5 := HW5.out.rescell; have hf5 : w5.frozen? ⟨w.heap.size, 0, none⟩ = false := blk_frozen HW5.out.res 0; clear hw)
          refine bodyPost_ret (results_ct rfl _ _ w.heap.size 24 #[.slice none 0 0] (0, 0) _ rfl (HW5.out.resset _) Tryd.underlying24 rfl (by kernel_rfl)) rfl ?_
          rw [hF.out]
          exact ⟨.slice none 0 0, rfl, Kd.R_nil _ _ _ _ _, HW5.out.bel.setCell (p := ⟨w.heap.size, 0, none⟩) (Nat.le_refl _) _⟩
        | true =>
          rw [hok] at HIS
          have HOK := Aside0.mk hok
          obtain ⟨_, hl3⟩ := (okRows_iff R).1 hok
          have HTX := Aside0.mk (fun (m : Nat) => spec_l06Text.calls (w.heap.size + 1 + 1) A c R (wr.drewN m) (by first | exact hcell | simpa using hcell) (Kd.C_drewN hC m) hl3)
          have hrc := HW.out.rescell
          have hfz : wr.frozen? ⟨w.heap.size, 0, none⟩ = false := blk_frozen HW.out.res 0
          clear hok hc hC hl3
          by_cases ht : txtTo R R.length = s
          · have hF : Aside0 (srdF s = (R, true)) := ⟨by unfold srdF; rw [← HRR.out, if_pos ⟨by omega, HOK.out, ht⟩]⟩
            go_wp2_with (first | (go_at_call 9; (with_reducible refine HIS.out.mono ?_); rintro e w5 ⟨rfl, ⟨nd, rfl⟩⟩) | (go_at_call 10; (with_reducible refine (HTX.out _).mono ?_); rintro e w6 ⟨rfl, ⟨nd2, rfl⟩⟩))
            refine bodyPost_ret (results_ct rfl _ _ w.heap.size 24 #[.slice A R.length c] (0, 0) _ rfl (blk_set (blk_drewN HW.out.res _) 0 _) Tryd.underlying24 rfl (by kernel_rfl)) rfl ?_
            rw [hF.out]
            exact ⟨.slice A R.length c, rfl, Kd.R_set (Kd.R_drewN HW.out.row _) (blk_drewN HW.out.res _) (by decide) 0 _, (pw_below_drewN HW.out.bel _).setCell (p := ⟨w.heap.size, 0, none⟩) (Nat.le_refl _) _⟩
          · have hF : Aside0 (srdF s = ([], false)) := ⟨by unfold srdF; rw [← HRR.out, if_neg (fun h => ht h.2.2)]⟩
            have htb : ((txtTo R R.length).toList == s.toList) = false := beq_eq_false_iff_ne.mpr (fun e => ht (rd_ba_ext (by rw [← rd_toList, ← rd_toList]; exact e)))
            go_wp2_with (first | (go_at_call 9; (with_reducible refine HIS.out.mono ?_); rintro e w5 ⟨rfl, ⟨nd, rfl⟩⟩) | (go_at_call 10; (with_reducible refine (HTX.out _).mono ?_); rintro e w6 ⟨rfl, ⟨nd2, rfl⟩⟩))
            refine bodyPost_ret (results_ct rfl _ _ w.heap.size 24 #[.slice none 0 0] (0, 0) _ rfl (blk_set (blk_drewN HW.out.res _) 0 _) Tryd.underlying24 rfl (by kernel_rfl)) rfl ?_
            rw [hF.out]
            exact ⟨.slice none 0 0, rfl, Kd.R_nil _ _ _ _ _, (pw_below_drewN HW.out.bel _).setCell (p := ⟨w.heap.size, 0, none⟩) (Nat.le_refl _) _⟩
end Go.Proofs.YthnpcalkcjkdhaaDoor.Q
