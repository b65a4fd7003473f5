/- The reduced index of a valid index by elimination; no conditions. -/
import Derived.Test.YtdhkcnhmmiigoaaQx0
import Derived.Test.YtdhkcnhmmiigoaaHsorti64
import Derived.Test.YtdhkcnhmmiigoaaQx1
import Derived.Test.YtdhkcnhmmiigoaaSupto
import Derived.Test.YtdhkcnhmmiigoaaSlead
import Derived.Test.YtdhkcnhmmiigoaaSokrows
import Derived.Test.YtdhkcnhmmiigoaaSred
namespace Go.Proofs.Ytdhkcnhmmiigoaa.Q
open Go.RowKit Go.Proofs.YtdhkcnhmmiigoaaW.PrintWords Go.Proofs.YtdhkcnhmmiigoaaW.PrintLast Go.Proofs.YtdhkcnhmmiigoaaW.PrintMore
attribute [local go_sem] max2_int min2_int max_two min_two max_three min_three max_four min_four   -- for this text's walks alone
set_option linter.unusedVariables false
set_option linter.unusedSimpArgs false

def impl_Index_reduced.f (l0_0 : List Int) : Option (List Int) := if okRows l0_0 = true then some (desc (redN (l0_0.map Int.toNat))) else none
/-- What lies in memory while the rows are gone through: the result's box, the variable's box and its own row. -/
structure RedW (w W : World) (v : Value) (S : List Int) : Prop where
  res : W.heap[w.heap.size + 1]? = some (.cells #[.slice none 0 0] 26 (0, 0))
  box : W.heap[w.heap.size + 1 + 1]? = some (.cells #[v] 26 (0, 0))
  row : Kd.R (Kd.int .i64) 2 W w.heap.size (fun _ => True) v S
  bel : Below w.heap.size w W
theorem RedW.below {w W W' : World} {v : Value} {S : List Int} (h : RedW w W v S) (hb : Below W.heap.size W W') : RedW w W' v S :=
  ⟨blk_below h.res hb, blk_below h.box hb, Kd.R_below h.row hb, h.bel.trans (hb.mono h.bel.size)⟩
theorem RedW.cell {w W : World} {v : Value} {S : List Int} (h : RedW w W v S) : W.cell? ⟨w.heap.size + 1 + 1, 0, none⟩ = some v := by rw [blk_cell h.box]; rfl
theorem RedW.rescell {w W : World} {v : Value} {S : List Int} (h : RedW w W v S) : W.cell? ⟨w.heap.size + 1, 0, none⟩ = some (.slice none 0 0) := by rw [blk_cell h.res]; rfl
theorem RedW.resset {w W : World} {v : Value} {S : List Int} (h : RedW w W v S) (u : Value) : (W.setCell ⟨w.heap.size + 1, 0, none⟩ u).heap[w.heap.size + 1]? = some (.cells #[u] 26 (0, 0)) := blk_set h.res 0 u
theorem RedW.slice {w W : World} {v : Value} {S : List Int} (h : RedW w W v S) : ∃ A c, v = .slice A S.length c ∧ S.length ≤ c ∧ Kd.C (Kd.int .i64) W A S.length S := Kd.R_reads h.row
theorem RedW.len {w W : World} {g : Option Addr} {n cap : Nat} {S : List Int} (h : RedW w W (.slice g n cap) S) : n = S.length := by
  obtain ⟨_, _, e, _⟩ := Kd.R_reads h.row
  exact (Value.slice.inj e).2.1
theorem RedW.store {w W : World} {g n cap : Nat} {S : List Int} (h : RedW w W (.slice (some ⟨g, 0, none⟩) n cap) S) (i : Nat) (y : Int) : RedW w (W.setCell ⟨g, i, none⟩ (.int .i64 y)) (.slice (some ⟨g, 0, none⟩) n cap) (S.set i y) := by
  have ho := own_of_R h.row
  have hn := h.len
  subst hn
  have hs := own_store ho (i : Int) y
  rw [Int.toNat_natCast] at hs
  have n1 := Kd.R_ne h.row h.res (by decide)
  have n2 := Kd.R_ne h.row h.box (by decide)
  refine ⟨blk_grown h.res hs.2 (fun e => n1 (by rw [e]; rfl)), blk_grown h.box hs.2 (fun e => n2 (by rw [e]; rfl)), ?_, h.bel.grown hs.2 h.bel.size (fun k hk => own_base ho k (by rw [← hk]; rfl))⟩
  have hl : (S.set i y).length = S.length := by simp
  have h1 := hs.1
  exact R_of_own (by rw [hl]; exact h1)
theorem RedW.thaw {w W : World} {g n cap : Nat} {S : List Int} (h : RedW w W (.slice (some ⟨g, 0, none⟩) n cap) S) (i : Nat) (hi : i < S.length) : W.frozen? ⟨g, i, none⟩ = false := by
  have ho := own_of_R h.row
  have hn := h.len
  subst hn
  have := (own_at ho (i : Int) (by omega) (by omega)).2
  rwa [Int.toNat_natCast] at this
theorem RedW.grown {w W w1 : World} {v : Value} {S : List Int} (h : RedW w W v S) (hg : W.grownBy w1 v.ownBlock) : w1.heap[w.heap.size + 1]? = some (.cells #[.slice none 0 0] 26 (0, 0)) ∧ w1.heap[w.heap.size + 1 + 1]? = some (.cells #[v] 26 (0, 0)) :=
  ⟨blk_grown h.res hg (Kd.R_ne h.row h.res (by decide)), blk_grown h.box hg (Kd.R_ne h.row h.box (by decide))⟩
theorem RedW.app {w W w1 : World} {v v1 : Value} {S S1 : List Int} (h : RedW w W v S) (ho : Kd.R (Kd.int .i64) 2 w1 w.heap.size (fun _ => True) v1 S1) (hb : Below w.heap.size w w1) (hg : W.grownBy w1 v.ownBlock) : RedW w (w1.setCell ⟨w.heap.size + 1 + 1, 0, none⟩ v1) v1 S1 := by
  obtain ⟨h1, h2⟩ := h.grown hg
  exact ⟨blk_far h1 (by show w.heap.size + 1 ≠ w.heap.size + 1 + 1; omega) v1, blk_set h2 0 v1, Kd.R_set ho h2 (by decide) 0 v1, hb.setCell (p := ⟨w.heap.size + 1 + 1, 0, none⟩) (by show w.heap.size ≤ w.heap.size + 1 + 1; omega) v1⟩
/-- Blocks that a callee which writes the row leaves alone. -/
def RedOk (w : World) (k : Nat) : Prop := (True ∧ k ≠ w.heap.size + 1) ∧ k ≠ w.heap.size + 1 + 1
theorem RedW.tight {w W : World} {v : Value} {S : List Int} (h : RedW w W v S) : Kd.R (Kd.int .i64) 2 W w.heap.size (RedOk w) v S := Kd.R_types (Kd.R_types h.row h.res (by decide)) h.box (by decide)
theorem RedW.wrote {w W W' : World} {v : Value} {S S' : List Int} {ok : Nat → Prop} (h : RedW w W v S) (hr : Kd.R (Kd.int .i64) 2 W' w.heap.size ok v S') (hb : Below w.heap.size w W') (hk : Kept W W' (RedOk w)) : RedW w W' v S' :=
  ⟨blk_kept h.res hk (fun e => e.1.2 rfl), blk_kept h.box hk (fun e => e.2 rfl), Kd.R_mono hr (fun _ _ => trivial), hb⟩
theorem rev_small : ∀ l : List Int, l.length ≤ 3 → slices_Reverse_int64_int64.f 5 l = some l.reverse
  | [], _ => by kernel_rfl
  | [a], _ => by kernel_rfl
  | [a, b], _ => by kernel_rfl
  | [a, b, c], _ => by kernel_rfl
  | _ :: _ :: _ :: _ :: _, h => by simp at h
set_option maxHeartbeats 4000000 in
set_option maxRecDepth 100000 in
theorem impl_Index_reduced.calls (A0_0 : Option Addr) (c0_0 : Nat) (l0_0 : List Int) (r : List Int) (w : World) (hr0_0 : Kd.C (Kd.int .i64) w A0_0 l0_0.length l0_0) (hc0_0 : l0_0.length ≤ c0_0) (h : impl_Index_reduced.f l0_0 = some r) :
    Calls Try.prog 53 #[.agg #[.slice A0_0 l0_0.length c0_0]] w fun e w' => ∃ v0_ : Value, e = .returned (.agg #[v0_]) ∧ Kd.R (Kd.int .i64) 2 w' w.heap.size (fun _ => True) v0_ r ∧ Below w.heap.size w w' := by
  unfold impl_Index_reduced.f at h
  cases hok : okRows l0_0 with
  | false => rw [hok, if_neg (by simp)] at h; cases h
  | true =>
  rw [hok, if_pos rfl] at h
  obtain rfl := Option.some.inj h
  clear h
  obtain ⟨hrows, hlen⟩ := (okRows_iff l0_0).1 hok
  clear hok
  have hu := Try.underlying26
  have HR0 := Aside0.mk hr0_0
  have HROWS := Aside0.mk hrows
  have HLEN := Aside0.mk hlen
  have HW0 : Aside0 (RedW w (((w.alloc (.cells #[.slice A0_0 l0_0.length c0_0] 26)).alloc (.cells #[.slice none 0 0] 26)).alloc (.cells #[.slice none 0 0] 26)) (.slice none 0 0) []) := ⟨⟨by
      have h1 := blk_new (w.alloc (.cells #[.slice A0_0 l0_0.length c0_0] 26)) (.cells #[.slice none 0 0] 26)
      have h2 := blk_alloc h1 (.cells #[.slice none 0 0] 26)
      simpa using h2, by
      have h1 := blk_new ((w.alloc (.cells #[.slice A0_0 l0_0.length c0_0] 26)).alloc (.cells #[.slice none 0 0] 26)) (.cells #[.slice none 0 0] 26)
      simpa using h1, Kd.R_nil _ _ _ _ _, below_alloc (below_alloc (below_alloc (Below.refl _ _) _) _) _⟩⟩
  clear hr0_0 hc0_0 hrows hlen
  go_enter Try.func53, Try.ntmps53
  go_wp2_with (fail)
  go_loopg [14] l0_0.length (fun gg s14 wr => ∃ (i : Nat) (v : Value), s14 = .int .i64 i ∧ Aside0 (i ≤ l0_0.length ∧ l0_0.length - i ≤ gg) ∧ Aside0 (RedW w wr v (nI (rowsTo l0_0 i))))
  case atStart => exact ⟨0, .slice none 0 0, rfl, ⟨⟨Nat.zero_le _, by omega⟩⟩, ⟨HW0.out⟩⟩
  case round =>
    clear HW0
    obtain ⟨i, v, rfl, HK, HW⟩ := hrel
    have hcell := HW.out.cell
    obtain ⟨A, c, eqv, hc, hC⟩ := Kd.R_reads HW.out.row
    rw [nI_length] at eqv hc hC
    subst eqv
    by_cases hlt : i < l0_0.length
    · have hltz : (i : Int) < (l0_0.length : Int) := by omega
      have h0z : (0 : Int) ≤ (i : Int) := by omega
      obtain ⟨ad, e, hx0⟩ := Kd.at_int HR0.out (i : Int) h0z hltz
      cases e
      simp only [Int.toNat_natCast] at hx0
      have hx := (HW.out.bel.cell (World.block_lt_of_cell? _ _ hx0)).trans hx0
      clear hx0
      have hrow : 0 ≤ rd l0_0 (i : Int) ∧ rd l0_0 (i : Int) ≤ 63 := by rw [rd_lt l0_0 i hlt]; exact HROWS.out _ (List.getElem_mem hlt)
      obtain ⟨row, hrow2⟩ : ∃ n : Nat, rd l0_0 (i : Int) = (n : Int) := ⟨(rd l0_0 (i : Int)).toNat, by omega⟩
      have hst := rowsTo_succ l0_0 i hlt
      rw [hrow2, Int.toNat_natCast] at hst
      rw [hrow2] at hx hrow
      have HST := Aside0.mk hst
      have HROW := Aside0.mk (show row < 64 by omega)
      have HS64 := Aside0.mk (rowsTo_lt l0_0 i HROWS.out)
      have HSL := Aside0.mk (show (rowsTo l0_0 i).length ≤ 3 by have := rowsTo_length l0_0 i; have := HLEN.out; omega)
      obtain ⟨S, hS⟩ : ∃ S, S = rowsTo l0_0 i := ⟨_, rfl⟩
      rw [← hS] at HW HST HS64 HSL hC hc hcell
      have HC := Aside0.mk hC
      have HS := Aside0.mk hS
      have HKO := HK
      clear hS hst hrow hrow2 hC HK
      go_wp2_with (fail)
      go_loopg [5, 21] S.length (fun gg s5 s21 wr => ∃ j : Nat, s21 = .int .i64 j ∧ s5 = .int .i64 (redXto S row j : Nat) ∧ Aside0 (j ≤ S.length ∧ S.length - j ≤ gg) ∧ Aside0 (RedW w wr (.slice A S.length c) (nI S)))
      case atStart => exact ⟨0, rfl, rfl, ⟨⟨Nat.zero_le _, by omega⟩⟩, ⟨HW.out⟩⟩
      case round =>
        clear hx HW HC hcell
        obtain ⟨j, rfl, rfl, HK, HW⟩ := hrel
        have hcell := HW.out.cell
        obtain ⟨A2, c2, eqv, hc2, hC⟩ := Kd.R_reads HW.out.row
        rw [nI_length] at eqv hc2 hC
        injection eqv with e1 e2 e3
        subst e1 e3
        clear e2
        by_cases hj : j < S.length
        · have hjz : (j : Int) < (S.length : Int) := by omega
          have h0j : (0 : Int) ≤ (j : Int) := by omega
          obtain ⟨ad2, e, hx⟩ := Kd.at_int hC (j : Int) h0j hjz
          cases e
          rw [rd_nI S j hj] at hx
          simp only [Int.toNat_natCast] at hx
          have hst := redXto_succ S row j hj
          have h64 := HS64.out _ (List.getElem_mem hj)
          have hr64 := redXto_lt S row j HROW.out HS64.out
          obtain ⟨o, ho⟩ : ∃ o, o = S[j] := ⟨_, rfl⟩
          rw [← ho] at hx hst h64
          obtain ⟨q, hq⟩ : ∃ q, q = redXto S row j := ⟨_, rfl⟩
          rw [← hq] at hst hr64 ⊢
          have HL := Aside0.mk (fun (W : World) => impl_lead.calls 8 (o : Int) _ W (impl_lead_f h64))
          have hand := and_nat hr64 (ldN_lt h64)
          have hxor := xor_nat hr64 h64
          have HST2 := Aside0.mk hst
          clear hst ho hq hC
          by_cases h0 : q &&& ldN o = 0
          · have hb0 : Go.bits .and .i64 (q : Int) (ldN o : Int) = 0 := by rw [hand, h0]; rfl
            have HS2 : Aside0 (redXto S row (j + 1) = q) := ⟨by rw [HST2.out, if_pos h0]⟩
            clear HST2 h0 hand hxor
            go_wp2_with (go_at_call 86; with_reducible refine (HL.out _).mono ?_; rintro e wl ⟨rfl, ⟨nd, hwl⟩⟩; have HW2 := Aside0.mk (HW.out.below (below_at hwl.symm (Below.refl _ _))); clear hwl)
            go_roundg (S.length - (j + 1))
            case measure => have := HK.out; omega
            case rel => exact ⟨j + 1, by have := HSL.out; have := HLEN.out; rw [wrap64_succ (by omega)], by rw [HS2.out], ⟨by have := HK.out; omega⟩, ⟨HW2.out⟩⟩
          · have hb0 : ¬ (Go.bits .and .i64 (q : Int) (ldN o : Int) = 0) := by rw [hand]; omega
            have HS2 : Aside0 (redXto S row (j + 1) = q ^^^ o) := ⟨by rw [HST2.out, if_neg h0]⟩
            have HX := Aside0.mk hxor
            clear HST2 h0 hand hxor
            go_wp2_with (go_at_call 86; with_reducible refine (HL.out _).mono ?_; rintro e wl ⟨rfl, ⟨nd, hwl⟩⟩; have HW2 := Aside0.mk (HW.out.below (below_at hwl.symm (Below.refl _ _))); clear hwl)
            go_roundg (S.length - (j + 1))
            case measure => have := HK.out; omega
            case rel => exact ⟨j + 1, by have := HSL.out; have := HLEN.out; rw [wrap64_succ (by omega)], by rw [HS2.out, ← HX.out], ⟨by have := HK.out; omega⟩, ⟨HW2.out⟩⟩
        · have hjz : ¬ (j : Int) < (S.length : Int) := by omega
          have hje : j = S.length := by have := HK.out; omega
          have hq64 := redXto_lt S row j HROW.out HS64.out
          rw [hje] at hq64 ⊢
          rw [hje] at hjz
          rw [redXto_all] at hq64 ⊢
          obtain ⟨q, hq⟩ : ∃ q, q = redX S row := ⟨_, rfl⟩
          rw [← hq] at hq64 ⊢
          have HQ := Aside0.mk hq
          have HST2 : Aside0 (rowsTo l0_0 (i + 1) = if q = 0 then S else S.map (redOne q) ++ [q]) := ⟨by rw [HST.out, hq]; rfl⟩
          clear hC hq hj hje
          by_cases h0 : q = 0
          · have HS2 : Aside0 (rowsTo l0_0 (i + 1) = S) := ⟨by rw [HST2.out, if_pos h0]⟩
            have hb0 : ((q : Nat) : Int) = 0 := by omega
            clear HST2
            go_wp2_with (fail)
            go_roundg (l0_0.length - (i + 1))
            case measure => have := HKO.out; omega
            case rel => exact ⟨i + 1, _, by have := HSL.out; have := HLEN.out; rw [wrap64_succ (by omega)], ⟨by have := HKO.out; omega⟩, ⟨by rw [HS2.out]; exact HW.out⟩⟩
          · have HS2 : Aside0 (rowsTo l0_0 (i + 1) = S.map (redOne q) ++ [q]) := ⟨by rw [HST2.out, if_neg h0]⟩
            have hb0 : ¬ ((q : Nat) : Int) = 0 := by omega
            clear HST2
            go_wp2_with (fail)
            go_loopg [39] S.length (fun gg s39 wr => ∃ t : Nat, s39 = .int .i64 t ∧ Aside0 (t ≤ S.length ∧ S.length - t ≤ gg) ∧ Aside0 (RedW w wr (.slice A S.length c) (nI (redMto S q t))))
            case atStart => exact ⟨0, rfl, ⟨⟨Nat.zero_le _, by omega⟩⟩, ⟨by show RedW w wr _ (nI ([] ++ S.drop 0)); rw [List.nil_append, List.drop_zero]; exact HW.out⟩⟩
            case round =>
              clear HW hcell
              obtain ⟨t, rfl, HK, HW⟩ := hrel
              have hcell := HW.out.cell
              obtain ⟨A3, c3, eqv, hc3, hC⟩ := Kd.R_reads HW.out.row
              rw [nI_length, redMto_length] at eqv hc3 hC
              injection eqv with e1 e2 e3
              subst e1 e3
              clear e2
              by_cases ht : t < S.length
              · have htz : (t : Int) < (S.length : Int) := by omega
                have h0t : (0 : Int) ≤ (t : Int) := by omega
                obtain ⟨ad2, e, hx⟩ := Kd.at_int hC (t : Int) h0t htz
                cases e
                have hfrm := own_of_R HW.out.row
                have hml := redMto_length S q t
                obtain ⟨gb, cap, eform, _, _⟩ := hfrm.form (by rw [nI_length]; omega)
                injection eform with e1 e2 e3
                injection e1 with e1
                subst e1 e3
                clear e2
                rw [rd_nI _ t (by omega), redMto_get S q t ht] at hx
                rw [add_plain] at hx
                simp only [Int.toNat_natCast] at hx
                have h64 := HS64.out _ (List.getElem_mem ht)
                have hsame := redMto_same S q t ht
                have hsucc := redMto_succ S q t ht
                obtain ⟨o, ho⟩ : ∃ o, o = S[t] := ⟨_, rfl⟩
                rw [← ho] at hx h64 hsame hsucc
                have HL := Aside0.mk (fun (W : World) => impl_lead.calls 8 (q : Int) _ W (impl_lead_f hq64))
                have hand := and_nat h64 (ldN_lt hq64)
                have hxor := xor_nat h64 hq64
                have HX := Aside0.mk hxor
                have HSAME := Aside0.mk hsame
                have HSUCC := Aside0.mk hsucc
                have HCX := Aside0.mk (And.intro hx hcell)
                have HTL := Aside0.mk (show t < (nI (redMto S q t)).length by rw [nI_length]; omega)
                clear hml ho hC hxor hsame hsucc hfrm
                by_cases h1 : o &&& ldN q = 0
                · have hb1 : Go.bits .and .i64 (o : Int) (ldN q : Int) = 0 := by rw [hand, h1]; rfl
                  have HR1 : Aside0 (redOne q o = o) := ⟨by unfold redOne; rw [if_pos h1]⟩
                  clear hand h1
                  go_wp2_with (go_at_call 86; with_reducible refine (HL.out _).mono ?_; rintro e wl ⟨rfl, ⟨nd, hwl⟩⟩; have HW2 := Aside0.mk (HW.out.below (below_at hwl.symm (Below.refl _ _))); clear hwl)
                  go_roundg (S.length - (t + 1))
                  case measure => have := HK.out; omega
                  case rel => exact ⟨t + 1, by have := HSL.out; have := HLEN.out; rw [wrap64_succ (by omega)], ⟨by have := HK.out; omega⟩, ⟨by rw [HSAME.out HR1.out]; exact HW2.out⟩⟩
                · have hb1 : ¬ (Go.bits .and .i64 (o : Int) (ldN q : Int) = 0) := by rw [hand]; omega
                  have HR1 : Aside0 (redOne q o = o ^^^ q) := ⟨by unfold redOne; rw [if_neg h1]⟩
                  clear hand h1
                  go_wp2_with (go_at_call 86; with_reducible refine (HL.out _).mono ?_; rintro e wl ⟨rfl, ⟨nd, hwl⟩⟩; have HW2 := Aside0.mk (HW.out.below (below_at hwl.symm (Below.refl _ _))); have hcell2 := HW2.out.cell; have hx2 := cell_at hwl.symm HCX.out.1; have hf2 := HW2.out.thaw t HTL.out; clear hwl)
                  go_roundg (S.length - (t + 1))
                  case measure => have := HK.out; omega
                  case rel => exact ⟨t + 1, by have := HSL.out; have := HLEN.out; rw [wrap64_succ (by omega)], ⟨by have := HK.out; omega⟩, ⟨by rw [HSUCC.out, ← nI_set, HR1.out, ← HX.out]; exact HW2.out.store t _⟩⟩
              · have htz : ¬ (t : Int) < (S.length : Int) := by omega
                have hte : t = S.length := by have := HK.out; omega
                rw [hte, redMto_all] at HW
                rw [hte] at htz ⊢
                obtain ⟨M, hM⟩ : ∃ M, M = S.map (redOne q) := ⟨_, rfl⟩
                rw [← hM] at HW HS2
                have HML : Aside0 (M.length = S.length) := ⟨by rw [hM, List.length_map]⟩
                clear hC hte hM ht
                go_wp2_with ((with_reducible refine gate_builtin (b := .append) (xs := #[.tmp 59, .tmp 61]) rfl ?_); at_builtin; refine Kd.R_append (Kd.int .i64) (w0 := w) w.heap.size rfl (.tmp 59) (.tmp 61) 24 2 (.int .i64 0) 8 rfl Try.underlying24 info2 rfl (by decide) (by omega) (.slice A S.length c) (nI M) (q : Int) [.int .i64 (q : Int)] (fun _ => True) (fun _ => False) rfl rfl ?aP (fun _ hk => hk.elim) ?aF ?aO ?aB ?aS ?aL ?_; (case aP => exact rfl); (case aB => exact HW.out.bel); (case aF => exact (fun _ _ => trivial)); (case aO => exact HW.out.row); (case aS => exact HW.out.bel.size); (case aL => have := HML.out; have := HSL.out; rw [nI_length]; omega); intro vap wap ho hb hg hat; obtain ⟨A5, c5, evap, _, _⟩ := Kd.R_reads ho; rw [List.length_append, List.length_singleton] at evap; subst evap; have hcell3 : wap.cell? ⟨w.heap.size + 1 + 1, 0, none⟩ = some _ := blk_cell (HW.out.grown hg).2 0; have hf3 : wap.frozen? ⟨w.heap.size + 1 + 1, 0, none⟩ = false := blk_frozen (HW.out.grown hg).2 0; have HW3 := Aside0.mk (HW.out.app ho hb hg); clear ho hb hg hat)
                go_roundg (l0_0.length - (i + 1))
                case measure => have := HKO.out; omega
                case rel => exact ⟨i + 1, _, by have := HSL.out; have := HLEN.out; rw [wrap64_succ (by omega)], ⟨by have := HKO.out; omega⟩, ⟨by rw [HS2.out, nI_append]; exact HW3.out⟩⟩
    · have hltz : ¬ (i : Int) < (l0_0.length : Int) := by omega
      have hi2 : i = l0_0.length := by have := HK.out; omega
      rw [hi2] at HW hcell hltz ⊢
      rw [rowsTo_all] at HW hcell
      have hRl : (redN (l0_0.map Int.toNat)).length ≤ 3 := by have := redN_len (l0_0.map Int.toNat); rw [List.length_map] at this; have := HLEN.out; omega
      obtain ⟨S, hS⟩ : ∃ S, S = nI (redN (l0_0.map Int.toNat)) := ⟨_, rfl⟩
      have hSl : S.length ≤ 3 := by rw [hS, nI_length]; exact hRl
      have hD : desc (redN (l0_0.map Int.toNat)) = (sortL S).reverse := by rw [hS]; rfl
      have hsl : (sortL S).length ≤ 3 := by rw [show (sortL S).length = S.length from List.length_mergeSort _]; exact hSl
      have HD := Aside0.mk hD
      rw [← hS] at HW
      have HSO := Aside0.mk (slices_Sort_int64_int64.calls (RedOk w) (.slice A (redN (l0_0.map Int.toNat)).length c) S (sortL S) w wr HW.out.bel HW.out.tight (by unfold slices_Sort_int64_int64.f; rw [if_pos (by omega)]))
      have HSL := Aside0.mk hsl
      obtain ⟨n, hn⟩ : ∃ n, n = (redN (l0_0.map Int.toNat)).length := ⟨_, rfl⟩
      rw [← hn] at HW hcell HSO
      clear hS hSl hD hsl hRl hC hc hi2 hn hlt
      go_wp2_with (first | (go_at_call 87; with_reducible refine HSO.out.mono ?_; rintro e w5 ⟨rfl, hr5, hb5, hk5⟩; have HW5 := Aside0.mk (HW.out.wrote hr5 hb5 hk5); have hcell5 := HW5.out.cell; clear hr5 hb5 hk5) | (go_at_call 88; with_reducible refine (slices_Reverse_int64_int64.calls 5 (RedOk w) (.slice A n c) (sortL S) _ w w5 HW5.out.bel HW5.out.tight (rev_small _ HSL.out)).mono ?_; rintro e w6 ⟨rfl, hr6, hb6, hk6⟩; have HW6 := Aside0.mk (HW5.out.wrote hr6 hb6 hk6); have hcell6 := HW6.out.cell; have hcell7 := HW6.out.rescell; have hf7 : w6.frozen? ⟨w.heap.size + 1, 0, none⟩ = false := blk_frozen HW6.out.res 0; clear hr6 hb6 hk6))
      refine bodyPost_ret (results_cell_row rfl _ _ (w.heap.size + 1) 26 #[.slice A n c] (0, 0) _ rfl (HW6.out.resset _) Try.underlying26 rfl (by kernel_rfl)) rfl ?_
      exact ⟨_, rfl, by rw [HD.out]; exact Kd.R_set HW6.out.row HW6.out.res (by decide) 0 _, HW6.out.bel.setCell (p := ⟨w.heap.size + 1, 0, none⟩) (by show w.heap.size ≤ w.heap.size + 1; omega) _⟩
end Go.Proofs.Ytdhkcnhmmiigoaa.Q
