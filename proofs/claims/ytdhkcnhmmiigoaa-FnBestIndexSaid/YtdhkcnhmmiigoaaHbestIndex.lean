/- impl.BestIndex answers the best reduced index and its misses; no conditions. -/
import Derived.Test.YtdhkcnhmmiigoaaQx0
import Derived.Test.YtdhkcnhmmiigoaaHclonei64
import Derived.Test.YtdhkcnhmmiigoaaHsetmisses
import Derived.Test.YtdhkcnhmmiigoaaQx1
import Derived.Test.YtdhkcnhmmiigoaaQx2
import Derived.Test.YtdhkcnhmmiigoaaSupto
import Derived.Test.YtdhkcnhmmiigoaaSplaced
import Derived.Test.YtdhkcnhmmiigoaaSbidw
import Derived.Test.YtdhkcnhmmiigoaaSokrows
import Derived.Test.YtdhkcnhmmiigoaaSlead
import Derived.Test.YtdhkcnhmmiigoaaSred
namespace Go.Proofs.Ytdhkcnhmmiigoaa.Q
open Go.RowKit Go.Proofs.YtdhkcnhmmiigoaaW.PrintWords Go.Proofs.YtdhkcnhmmiigoaaW.PrintLast Go.Proofs.YtdhkcnhmmiigoaaW.PrintMore
attribute [local go_sem] max2_int min2_int max_two min_two max_three min_three max_four min_four   -- for this text's walks alone
set_option linter.unusedVariables false
set_option linter.unusedSimpArgs false

def impl_BestIndex.f (a0 a1 : Int) (l2 : List Int) : Option (List Int × Int × Bool) := if (isIn 0 3 a0 && (isIn 1 4 a1 && okUses l2)) = true then some (nI (bfold (misI a1 l2) ([], -1) (rAll a0.toNat [])).1, (bfold (misI a1 l2) ([], -1) (rAll a0.toNat [])).2, true) else some ([], 0, false)
set_option maxHeartbeats 4000000 in
set_option maxRecDepth 100000 in
theorem bestIndex_1.calls (w W : World) (bP bU bL bB : Nat) (A2 : Option Addr) (c2 : Nat) (l2 : List Int) (p : Int) (s : List Nat × Int) (h : BidW w bP bU bL bB A2 c2 l2 p s W) (x : List Nat) (A : Option Addr) (c : Nat) (hR : BidR w bL bB W A c x) (hx : okRows (nI x) = true) (hu : okUses l2 = true) :
    Calls Try.prog 57 #[.agg #[.slice A (nI x).length c], .pointer (some ⟨bP, 0, none⟩), .pointer (some ⟨bU, 0, none⟩), .pointer (some ⟨bL, 0, none⟩), .pointer (some ⟨bB, 0, none⟩)] W fun e W' => (∃ v, e = .returned v) ∧ BidW w bP bU bL bB A2 c2 l2 p (bstep (misI p l2) s x) W' ∧ Kept W W' (BidS bL bB) := by
  have hul := Try.underlying26
  have hb1 : Below W.heap.size W (W.alloc (.cells #[.slice A (nI x).length c] 26)) := below_alloc (Below.refl _ _) _
  have hP1 : (W.alloc (.cells #[.slice A (nI x).length c] 26)).cell? ⟨bP, 0, none⟩ = some (.int .i64 p) := blk_cell (blk_alloc h.hP _) 0
  have hU1 : (W.alloc (.cells #[.slice A (nI x).length c] 26)).cell? ⟨bU, 0, none⟩ = some (.slice A2 l2.length c2) := blk_cell (blk_alloc h.hU _) 0
  have hX0 := blk_new W (.cells #[.slice A (nI x).length c] 26)
  have hX1 : (W.alloc (.cells #[.slice A (nI x).length c] 26)).cell? ⟨W.heap.size, 0, none⟩ = some (.slice A (nI x).length c) := blk_cell hX0 0
  have HX0 := Aside0.mk hX0
  have HB1 := Aside0.mk hb1
  have HSM := Aside0.mk (impl_Index_setMisses.calls A c (nI x) p A2 c2 l2 (misI p l2 x) (W.alloc (.cells #[.slice A (nI x).length c] 26)) (Kd.C_below hR.reads.2 hb1) hR.reads.1 (Kd.C_below h.row hb1) h.len (by unfold impl_Index_setMisses.f; rw [hx, hu, if_pos rfl, if_pos rfl]; rfl))
  have HW := Aside0.mk h
  have HRX := Aside0.mk hR
  have HST : Aside0 (bstep (misI p l2) s x = if s.2 < 0 ∨ misI p l2 x < s.2 then (x, misI p l2 x) else s) := ⟨rfl⟩
  obtain ⟨q, hq⟩ : ∃ q, q = misI p l2 x := ⟨_, rfl⟩
  rw [← hq] at HSM HST
  obtain ⟨n, hn⟩ : ∃ n, n = (nI x).length := ⟨_, rfl⟩
  rw [← hn] at HSM hP1 hU1 hX1 HX0 HB1
  rw [← hn]
  have HN := Aside0.mk hn
  obtain ⟨z, hz⟩ : ∃ z, z = s.2 := ⟨_, rfl⟩
  have HZ := Aside0.mk hz
  rw [← hz] at HST
  clear hb1 hX0 h hR hx hu hq hn hz
  by_cases h1 : z < 0
  · have HS2 : Aside0 (bstep (misI p l2) s x = (x, q)) := ⟨by rw [HST.out, if_pos (.inl h1)]⟩
    go_enter Try.func57, Try.ntmps57
    go_wp2_with (go_at_call 58; (with_reducible refine HSM.out.mono ?_); rintro e w2 ⟨rfl, hb2⟩; have HB2 := Aside0.mk hb2; have HW2 := Aside0.mk ((HW.out.below HB1.out).below hb2); have hL2 : w2.cell? ⟨bL, 0, none⟩ = some (.int .i64 z) := (by rw [HZ.out]; exact blk_cell HW2.out.hL 0); have hfL := blk_frozen HW2.out.hL 0; have hX2 : w2.cell? ⟨W.heap.size, 0, none⟩ = some (.slice A n c) := blk_cell (blk_below HX0.out hb2) 0; obtain ⟨A9, c9, hB9, _⟩ := HW2.out.hB; have hB2 : w2.cell? ⟨bB, 0, none⟩ = some _ := blk_cell hB9 0; have hfB := blk_frozen hB9 0; have hL3 : (w2.setCell ⟨bB, 0, none⟩ (.slice A n c)).cell? ⟨bL, 0, none⟩ = some (.int .i64 z) := (by rw [HZ.out]; exact blk_cell (blk_far HW2.out.hL (p := ⟨bB, 0, none⟩) HW2.out.ty.2.2.2.2 _) 0); have hfL3 : (w2.setCell ⟨bB, 0, none⟩ (.slice A n c)).frozen? ⟨bL, 0, none⟩ = false := blk_frozen (blk_far HW2.out.hL (p := ⟨bB, 0, none⟩) HW2.out.ty.2.2.2.2 _) 0; clear hb2 hB9)
    go_end0
    have hk2 : Kept W w2 (BidS bL bB) := (Kept.of_below HB1.out _).below HB2.out
    have hst := HW2.out.store x A c (HRX.out.kept hk2) q
    rw [HS2.out]
    rw [← HN.out] at hst
    exact ⟨⟨_, rfl⟩, hst.1, hk2.then_ hst.2 (fun _ h => .inl h)⟩
  · by_cases h2 : q < z
    · have HS2 : Aside0 (bstep (misI p l2) s x = (x, q)) := ⟨by rw [HST.out, if_pos (.inr h2)]⟩
      go_enter Try.func57, Try.ntmps57
      go_wp2_with (go_at_call 58; (with_reducible refine HSM.out.mono ?_); rintro e w2 ⟨rfl, hb2⟩; have HB2 := Aside0.mk hb2; have HW2 := Aside0.mk ((HW.out.below HB1.out).below hb2); have hL2 : w2.cell? ⟨bL, 0, none⟩ = some (.int .i64 z) := (by rw [HZ.out]; exact blk_cell HW2.out.hL 0); have hfL := blk_frozen HW2.out.hL 0; have hX2 : w2.cell? ⟨W.heap.size, 0, none⟩ = some (.slice A n c) := blk_cell (blk_below HX0.out hb2) 0; obtain ⟨A9, c9, hB9, _⟩ := HW2.out.hB; have hB2 : w2.cell? ⟨bB, 0, none⟩ = some _ := blk_cell hB9 0; have hfB := blk_frozen hB9 0; have hL3 : (w2.setCell ⟨bB, 0, none⟩ (.slice A n c)).cell? ⟨bL, 0, none⟩ = some (.int .i64 z) := (by rw [HZ.out]; exact blk_cell (blk_far HW2.out.hL (p := ⟨bB, 0, none⟩) HW2.out.ty.2.2.2.2 _) 0); have hfL3 : (w2.setCell ⟨bB, 0, none⟩ (.slice A n c)).frozen? ⟨bL, 0, none⟩ = false := blk_frozen (blk_far HW2.out.hL (p := ⟨bB, 0, none⟩) HW2.out.ty.2.2.2.2 _) 0; clear hb2 hB9)
      go_end0
      have hk2 : Kept W w2 (BidS bL bB) := (Kept.of_below HB1.out _).below HB2.out
      have hst := HW2.out.store x A c (HRX.out.kept hk2) q
      rw [HS2.out]
      rw [← HN.out] at hst
      exact ⟨⟨_, rfl⟩, hst.1, hk2.then_ hst.2 (fun _ h => .inl h)⟩
    · have HS2 : Aside0 (bstep (misI p l2) s x = s) := ⟨by rw [HST.out, if_neg (by rintro (h | h) <;> contradiction)]⟩
      go_enter Try.func57, Try.ntmps57
      go_wp2_with (go_at_call 58; (with_reducible refine HSM.out.mono ?_); rintro e w2 ⟨rfl, hb2⟩; have HB2 := Aside0.mk hb2; have HW2 := Aside0.mk ((HW.out.below HB1.out).below hb2); have hL2 : w2.cell? ⟨bL, 0, none⟩ = some (.int .i64 z) := (by rw [HZ.out]; exact blk_cell HW2.out.hL 0); clear hb2)
      go_end0
      rw [HS2.out]
      exact ⟨⟨_, rfl⟩, HW2.out, (Kept.of_below HB1.out _).below HB2.out⟩
theorem okRows_nI (x : List Nat) (h : ∀ r ∈ x, r < 64) (hl : x.length ≤ 3) : okRows (nI x) = true := by
  refine (okRows_iff _).2 ⟨fun y hy => ?_, by rw [nI_length]; exact hl⟩
  unfold nI at hy
  obtain ⟨r, hr, rfl⟩ := List.mem_map.1 hy
  have := h r hr
  omega
set_option maxHeartbeats 16000000 in
set_option maxRecDepth 100000 in
theorem reducedIndices.rec_ (w : World) (bP bU bL bB : Nat) (A2 : Option Addr) (c2 : Nat) (l2 : List Int) (p : Int) (hu : okUses l2 = true) (bits : Nat) (hbits : bits ≤ 3) :
    ∀ (d : Nat) (rows : List Nat) (A : Option Addr) (c : Nat) (s : List Nat × Int) (W : World), rows.length + d = bits → (∀ r ∈ rows, r < 64) → BidW w bP bU bL bB A2 c2 l2 p s W → BidR w bL bB W A c rows →
    Calls Try.prog 56 #[.slice A (nI rows).length c, .int .i64 bits, .func (.func 57) #[] #[.pointer (some ⟨bP, 0, none⟩), .pointer (some ⟨bU, 0, none⟩), .pointer (some ⟨bL, 0, none⟩), .pointer (some ⟨bB, 0, none⟩)]] W fun e W' => (∃ v, e = .returned v) ∧ BidW w bP bU bL bB A2 c2 l2 p (bfold (misI p l2) s (rAll d rows)) W' ∧ Kept W W' (BidS bL bB) := by
  have eg : ∀ args w, (callFunc 57 args).run Try.prog w = .ok (.enter 57 args) w := enters_of Try.func57 (by kernel_rfl) rfl
  have hul := Try.underlying26
  intro d
  induction d with
  | zero =>
    intro rows A c s W hrd h64 hW hR
    have hbe : (nI rows).length = bits := by rw [nI_length]; omega
    have HLN := Aside0.mk (impl_length_int64.calls A c (nI rows) ((nI rows).length : Int) W hR.reads.2 hR.reads.1 rfl)
    have HBI := Aside0.mk (fun (W1 : World) (hb : Below W.heap.size W W1) => bestIndex_1.calls w W1 bP bU bL bB A2 c2 l2 p s (hW.below hb) rows A c (hR.below hb) (okRows_nI rows h64 (by omega)) hu)
    have hbb : (((nI rows).length : Int) == (bits : Int)) = true := by simp [hbe]
    have hbd : ((nI rows).length : Int) = (bits : Int) := by rw [hbe]
    have HBR := Aside0.mk (Below.refl W.heap.size W)
    obtain ⟨n, hn⟩ : ∃ n, n = (nI rows).length := ⟨_, rfl⟩
    rw [← hn] at HLN HBI hbb hbd
    rw [← hn]
    clear hn hbe hR hW h64 hrd
    go_enter Try.func56, Try.ntmps56
    go_wp2_with (first | (go_at_call 52; (with_reducible refine HLN.out.mono ?_); rintro e w1 ⟨rfl, ⟨nd1, hw1⟩⟩; have HB := Aside0.mk (below_at hw1.symm HBR.out); clear hw1) | (go_at_fn 57; refine (HBI.out _ HB.out).mono ?_; rintro e w2 ⟨⟨v2, rfl⟩, hw2, hk2⟩; have HW2 := Aside0.mk hw2; have HK2 := Aside0.mk hk2; clear hw2 hk2))
    refine bodyPost_ret (results_none rfl _ _ _) rfl ?_
    exact ⟨⟨_, rfl⟩, HW2.out, ((Kept.refl W _).below HB.out).then_ HK2.out (fun _ h => .inl h)⟩
  | succ d ih =>
    intro rows A c s W hrd h64 hW hR
    have hnl : (nI rows).length = rows.length := nI_length rows
    have HLN := Aside0.mk (impl_length_int64.calls A c (nI rows) ((nI rows).length : Int) W hR.reads.2 hR.reads.1 rfl)
    have hbb : (((nI rows).length : Int) == (bits : Int)) = false := by simp; omega
    have hbd : ¬ ((nI rows).length : Int) = (bits : Int) := by omega
    have HBR := Aside0.mk (Below.refl W.heap.size W)
    have HW0 := Aside0.mk hW
    have HRR := Aside0.mk hR
    have H64 := Aside0.mk h64
    have HRD := Aside0.mk (show rows.length + (d + 1) ≤ 3 ∧ rows.length + (d + 1) = bits from ⟨by omega, hrd⟩)
    obtain ⟨n, hn⟩ : ∃ n, n = (nI rows).length := ⟨_, rfl⟩
    rw [← hn] at HLN hbb hbd
    rw [← hn]
    have HN := Aside0.mk (show n = rows.length from hn.trans hnl)
    have HIH := Aside0.mk ih
    clear hn hnl hR hW h64 hrd ih
    go_enter Try.func56, Try.ntmps56
    go_wp2_with (go_at_call 52; (with_reducible refine HLN.out.mono ?_); rintro e w1 ⟨rfl, ⟨nd1, hw1⟩⟩; have HB := Aside0.mk (below_at hw1.symm HBR.out); clear hw1)
    go_loopg [6] 63 (fun gg s6 wr => ∃ i : Nat, s6 = .int .i64 ((i + 1 : Nat) : Int) ∧ Aside0 (i ≤ 63 ∧ 63 - i ≤ gg) ∧ Aside0 (BidW w bP bU bL bB A2 c2 l2 p (bfold (misI p l2) s (rTo d rows i)) wr) ∧ Aside0 (Kept W wr (BidS bL bB)))
    case atStart => exact ⟨0, rfl, ⟨⟨Nat.zero_le _, by omega⟩⟩, ⟨HW0.out.below HB.out⟩, ⟨(Kept.refl W _).below HB.out⟩⟩
    case round =>
      clear HB HW0
      obtain ⟨i, rfl, HK, HW, HKP⟩ := hrel
      obtain ⟨wo, hwo⟩ : ∃ wo, wo = wr := ⟨_, rfl⟩
      rw [← hwo] at HW HKP ⊢
      clear hwo
      by_cases hlt : i < 63
      · have hltz : ((i + 1 : Nat) : Int) < 64 := by omega
        have HR64 := Aside0.mk (show i + 1 < 64 by omega)
        have HLR := Aside0.mk (fun (W : World) => impl_lead.calls 8 ((i + 1 : Nat) : Int) _ W (impl_lead_f (show i + 1 < 64 by omega)))
        obtain ⟨r, hr⟩ : ∃ r, r = i + 1 := ⟨_, rfl⟩
        rw [← hr] at hltz HR64 HLR ⊢
        have HR := Aside0.mk hr
        clear hr hlt
        go_wp2_with (fail)
        go_loopg [7, 24] n (fun gg s7 s24 wr => ∃ j : Nat, s24 = .int .i64 j ∧ s7 = .bool (fitsTo rows r j) ∧ Aside0 (j ≤ n ∧ n - j ≤ gg) ∧ Aside0 (Below wo.heap.size wo wr))
        case atStart => exact ⟨0, rfl, rfl, ⟨⟨Nat.zero_le _, by omega⟩⟩, ⟨Below.refl _ _⟩⟩
        case round =>
          obtain ⟨j, rfl, rfl, HJ, HB⟩ := hrel
          have hRr := HRR.out.kept (HKP.out.below HB.out)
          have hCr := hRr.reads.2
          rw [nI_length, ← HN.out] at hCr
          by_cases hj : j < n
          · have hjz : (j : Int) < (n : Int) := by omega
            have h0j : (0 : Int) ≤ (j : Int) := by omega
            have hjr : j < rows.length := by have := HN.out; omega
            obtain ⟨ad2, e, hx⟩ := Kd.at_int hCr (j : Int) h0j hjz
            cases e
            rw [rd_nI rows j hjr] at hx
            simp only [Int.toNat_natCast] at hx
            have h64 := H64.out _ (List.getElem_mem hjr)
            have hfs : fitsTo rows r (j + 1) = (fitsTo rows r j && (decide (r &&& ldN rows[j] = 0) && (decide (rows[j] &&& ldN r = 0) && (decide (j + 1 < n) || decide (r < rows[j]))))) := by
              rw [fitsTo_succ]
              unfold fit1
              rw [List.getD_eq_getElem?_getD, List.getElem?_eq_getElem hjr, Option.getD_some, HN.out]
            obtain ⟨o, ho⟩ : ∃ o, o = rows[j] := ⟨_, rfl⟩
            rw [← ho] at hx h64 hfs
            have HL := Aside0.mk (fun (W : World) => impl_lead.calls 8 (o : Int) _ W (impl_lead_f h64))
            have hand1 := and_nat HR64.out (ldN_lt h64)
            have hand2 := and_nat h64 (ldN_lt HR64.out)
            have hsub : wrap64 ((n : Int) - 1) = (n : Int) - 1 := wrap64_id (by omega) (by have := HN.out; have := HRD.out; omega)
            have HFS := Aside0.mk hfs
            have HJN := Aside0.mk (show (j : Int) < 9223372036854775807 by have := HN.out; have := HRD.out; omega)
            clear hfs ho hCr hRr h64 hjr
            cases hf : fitsTo rows r j with
            | false =>
              rw [hf] at HFS
              have HF2 : Aside0 (fitsTo rows r (j + 1) = false) := ⟨HFS.out⟩
              clear HFS hand1 hand2 hf
              go_wp2_with (fail)
              go_roundg (n - (j + 1))
              case measure => have := HJ.out; omega
              case rel => exact ⟨j + 1, by rw [wrap64_succ (by have := HJN.out; omega)], by rw [HF2.out], ⟨by have := HJ.out; omega⟩, ⟨HB.out⟩⟩
            | true =>
              rw [hf, Bool.true_and] at HFS
              clear hf
              by_cases h1 : r &&& ldN o = 0
              · have hb1 : Go.bits .and .i64 (r : Int) (ldN o : Int) = 0 := by rw [hand1, h1]; rfl
                rw [decide_eq_true h1, Bool.true_and] at HFS
                by_cases h2 : o &&& ldN r = 0
                · have hb2 : Go.bits .and .i64 (o : Int) (ldN r : Int) = 0 := by rw [hand2, h2]; rfl
                  rw [decide_eq_true h2, Bool.true_and] at HFS
                  by_cases h3 : j + 1 < n
                  · have hb3 : (j : Int) < (n : Int) - 1 := by omega
                    have HF2 : Aside0 (fitsTo rows r (j + 1) = true) := ⟨by rw [HFS.out, decide_eq_true h3, Bool.true_or]⟩
                    clear HFS hand1 hand2 h1 h2 h3
                    go_wp2_with (go_at_call 86; (first | (with_reducible refine (HL.out _).mono ?_) | (with_reducible refine (HLR.out _).mono ?_)); rintro e wl ⟨rfl, ⟨nd, hwl⟩⟩; have HBn := Aside0.mk (below_at hwl.symm HB.out); clear HB; have HB := HBn; clear HBn hwl)
                    go_roundg (n - (j + 1))
                    case measure => have := HJ.out; omega
                    case rel => exact ⟨j + 1, by rw [wrap64_succ (by have := HJN.out; omega)], by rw [HF2.out], ⟨by have := HJ.out; omega⟩, ⟨HB.out⟩⟩
                  · have hb3 : ¬ (j : Int) < (n : Int) - 1 := by omega
                    rw [decide_eq_false h3, Bool.false_or] at HFS
                    by_cases h4 : r < o
                    · have hb4 : (r : Int) < (o : Int) := by omega
                      have HF2 : Aside0 (fitsTo rows r (j + 1) = true) := ⟨by rw [HFS.out, decide_eq_true h4]⟩
                      clear HFS hand1 hand2 h1 h2 h3 h4
                      go_wp2_with (go_at_call 86; (first | (with_reducible refine (HL.out _).mono ?_) | (with_reducible refine (HLR.out _).mono ?_)); rintro e wl ⟨rfl, ⟨nd, hwl⟩⟩; have HBn := Aside0.mk (below_at hwl.symm HB.out); clear HB; have HB := HBn; clear HBn hwl)
                      go_roundg (n - (j + 1))
                      case measure => have := HJ.out; omega
                      case rel => exact ⟨j + 1, by rw [wrap64_succ (by have := HJN.out; omega)], by rw [HF2.out], ⟨by have := HJ.out; omega⟩, ⟨HB.out⟩⟩
                    · have hb4 : ¬ (r : Int) < (o : Int) := by omega
                      have HF2 : Aside0 (fitsTo rows r (j + 1) = false) := ⟨by rw [HFS.out, decide_eq_false h4]⟩
                      clear HFS hand1 hand2 h1 h2 h3 h4
                      go_wp2_with (go_at_call 86; (first | (with_reducible refine (HL.out _).mono ?_) | (with_reducible refine (HLR.out _).mono ?_)); rintro e wl ⟨rfl, ⟨nd, hwl⟩⟩; have HBn := Aside0.mk (below_at hwl.symm HB.out); clear HB; have HB := HBn; clear HBn hwl)
                      go_roundg (n - (j + 1))
                      case measure => have := HJ.out; omega
                      case rel => exact ⟨j + 1, by rw [wrap64_succ (by have := HJN.out; omega)], by rw [HF2.out]; exact congrArg Value.bool (by simp; omega), ⟨by have := HJ.out; omega⟩, ⟨HB.out⟩⟩
                · have hb2 : ¬ Go.bits .and .i64 (o : Int) (ldN r : Int) = 0 := by rw [hand2]; omega
                  have HF2 : Aside0 (fitsTo rows r (j + 1) = false) := ⟨by rw [HFS.out, decide_eq_false h2, Bool.false_and]⟩
                  clear HFS hand1 hand2 h1 h2
                  go_wp2_with (go_at_call 86; (first | (with_reducible refine (HL.out _).mono ?_) | (with_reducible refine (HLR.out _).mono ?_)); rintro e wl ⟨rfl, ⟨nd, hwl⟩⟩; have HBn := Aside0.mk (below_at hwl.symm HB.out); clear HB; have HB := HBn; clear HBn hwl)
                  go_roundg (n - (j + 1))
                  case measure => have := HJ.out; omega
                  case rel => exact ⟨j + 1, by rw [wrap64_succ (by have := HJN.out; omega)], by rw [HF2.out], ⟨by have := HJ.out; omega⟩, ⟨HB.out⟩⟩
              · have hb1 : ¬ Go.bits .and .i64 (r : Int) (ldN o : Int) = 0 := by rw [hand1]; omega
                have HF2 : Aside0 (fitsTo rows r (j + 1) = false) := ⟨by rw [HFS.out, decide_eq_false h1, Bool.false_and]⟩
                clear HFS hand1 hand2 h1
                go_wp2_with (go_at_call 86; (first | (with_reducible refine (HL.out _).mono ?_) | (with_reducible refine (HLR.out _).mono ?_)); rintro e wl ⟨rfl, ⟨nd, hwl⟩⟩; have HBn := Aside0.mk (below_at hwl.symm HB.out); clear HB; have HB := HBn; clear HBn hwl)
                go_roundg (n - (j + 1))
                case measure => have := HJ.out; omega
                case rel => exact ⟨j + 1, by rw [wrap64_succ (by have := HJN.out; omega)], by rw [HF2.out], ⟨by have := HJ.out; omega⟩, ⟨HB.out⟩⟩
          · have hjz : ¬ (j : Int) < (n : Int) := by omega
            have hjn : j = rows.length := by have := HJ.out; have := HN.out; omega
            have hfr : fitsTo rows r j = fitsR rows r := by rw [hjn]; rfl
            rw [hfr]
            have HRS := Aside0.mk (rTo_succ d rows i)
            rw [← HR.out] at HRS
            have HW2 := Aside0.mk (HW.out.below HB.out)
            have HKP2 := Aside0.mk (HKP.out.below HB.out)
            clear hfr hj hjn hCr hRr
            cases hf : fitsR rows r with
            | false =>
              rw [hf, if_neg (by simp), List.append_nil] at HRS
              clear hf
              go_wp2_with (fail)
              go_roundg (63 - (i + 1))
              case measure => have := HK.out; have := HR64.out; have := HR.out; omega
              case rel => exact ⟨i + 1, by have h64_ := HR64.out; have hr_ := HR.out; (try rw [wrap64_succ (by omega)]); exact congrArg (Value.int .i64) (by omega), ⟨by have := HK.out; have := HR64.out; have := HR.out; omega⟩, ⟨by rw [show i + 1 = r from HR.out.symm, HRS.out]; exact HW2.out⟩, ⟨HKP2.out⟩⟩
            | true =>
              rw [hf, if_pos rfl] at HRS
              clear hf
              obtain ⟨wc, hwc⟩ : ∃ wc, wc = wr := ⟨_, rfl⟩
              rw [← hwc] at HB HW2 HKP2 ⊢
              clear hwc
              have HCL := Aside0.mk (slices_Clone_int64_int64.calls A c (nI rows) (nI rows) wc (HRR.out.kept HKP2.out).reads.2 (HRR.out.kept HKP2.out).reads.1 (by unfold slices_Clone_int64_int64.f; rw [if_pos (by rw [nI_length]; have := HRD.out; omega)]))
              rw [show (nI rows).length = n by rw [nI_length, HN.out]] at HCL
              go_wp2_with (first | (go_at_call 89; (with_reducible refine HCL.out.mono ?_); rintro e w5 ⟨v5, rfl, hv5, hb5⟩; have HV5 := Aside0.mk hv5; have HB5 := Aside0.mk hb5; clear hv5 hb5) | ((with_reducible refine gate_builtin (b := .append) (xs := #[.tmp 59, .tmp 61]) rfl ?_); at_builtin; refine Kd.R_append (Kd.int .i64) (w0 := wc) wc.heap.size rfl (.tmp 59) (.tmp 61) 24 2 (.int .i64 0) 8 rfl Try.underlying24 info2 rfl (by decide) (by omega) v5 (nI rows) (r : Int) [.int .i64 (r : Int)] (fun _ => True) (fun _ => False) rfl rfl ?aP (fun _ hk => hk.elim) ?aF ?aO ?aB ?aS ?aL ?_; (case aP => exact rfl); (case aB => exact (by repeat (first | (with_reducible first | exact HB5.out | apply below_alloc | apply pw_below_drewN | apply below_drew1) | exact HB5.out))); (case aF => exact (fun _ _ => trivial)); (case aO => exact (by (with_reducible repeat (first | apply Kd.R_alloc | apply Kd.R_drewN | apply Kd.R_drew)); exact HV5.out)); (case aS => exact (below_size (by repeat (first | (with_reducible first | exact HB5.out | apply below_alloc | apply pw_below_drewN | apply below_drew1) | exact HB5.out)))); (case aL => rw [nI_length]; have := HRD.out; omega); intro vap wap ho hb hg hat; rw [show nI rows ++ [(r : Int)] = nI (rows ++ [r]) from (nI_append rows [r]).symm] at ho; obtain ⟨A6, c6, evap, hc6, _⟩ := Kd.R_reads ho; subst evap; have hlt6 := blk_lt HW2.out.hL; have hB6 := HW2.out.hB; have hC6 : BidR w bL bB wap A6 c6 (rows ++ [r]) := Kd.R_mono (Kd.R_lower (Kd.R_bound ho) (HW2.out.bel.size)) (fun k hk e => (by obtain ⟨A8, c8, hB8, _⟩ := hB6; have hlt8 := blk_lt hB8; have h9 := hk.2.1; rcases e with e | e <;> omega)); have HRC := Aside0.mk (HIH.out (rows ++ [r]) A6 c6 (bfold (misI p l2) s (rTo d rows i)) wap (by rw [List.length_append, List.length_singleton]; have := HRD.out.2; omega) (fun x hx => (List.mem_append.1 hx).elim (H64.out x) (fun h => by rw [List.mem_singleton.1 h]; exact HR64.out)) (HW2.out.below hb) hC6); have HBA := Aside0.mk hb; clear ho hb hg hat hlt6 hB6 hC6 hc6) | (go_at_call 56; (with_reducible refine HRC.out.mono ?_); rintro e w7 ⟨⟨v7, rfl⟩, hw7, hk7⟩; have HW7 := Aside0.mk hw7; have HK7 := Aside0.mk hk7; clear hw7 hk7))
              go_roundg (63 - (i + 1))
              case measure => have := HK.out; have := HR64.out; have := HR.out; omega
              case rel => exact ⟨i + 1, by have h64_ := HR64.out; have hr_ := HR.out; (try rw [wrap64_succ (by omega)]); exact congrArg (Value.int .i64) (by omega), ⟨by have := HK.out; have := HR64.out; have := HR.out; omega⟩, ⟨by rw [show i + 1 = r from HR.out.symm, HRS.out, bfold_append]; exact HW7.out⟩, ⟨(HKP2.out.below HBA.out).then_ HK7.out (fun _ h => .inl h)⟩⟩
      · have hltz : ¬ ((i + 1 : Nat) : Int) < 64 := by omega
        have hi : i = 63 := by have := HK.out; omega
        rw [hi, rTo_all] at HW
        rw [hi] at hltz ⊢
        clear hlt hi
        go_wp2_with (fail)
        go_end0
        exact ⟨⟨_, rfl⟩, HW.out, HKP.out⟩
theorem best_start {w w3 : World} {A2 : Option Addr} {c2 : Nat} {l2 : List Int} {p : Int} (kP : w3.heap[w.heap.size]? = some (.cells #[.int .i64 p] 2 (0, 0))) (kU : w3.heap[w.heap.size + 1]? = some (.cells #[.slice A2 l2.length c2] 24 (0, 0))) (hb : Below w.heap.size w w3) (hr : Kd.C (Kd.int .i64) w A2 l2.length l2) (hc : l2.length ≤ c2) (hlt : w.heap.size + 1 + 1 < w3.heap.size) :
    BidW w w.heap.size (w.heap.size + 1) (w3.heap.size + 1) w3.heap.size A2 c2 l2 p ([], -1) ((w3.alloc (.cells #[.slice none 0 0] 26)).alloc (.cells #[.int .i64 (-1)] 2)) := by
  have hb4 : Below w.heap.size w ((w3.alloc (.cells #[.slice none 0 0] 26)).alloc (.cells #[.int .i64 (-1)] 2)) := below_alloc (below_alloc hb _) _
  have hL := blk_new (w3.alloc (.cells #[.slice none 0 0] 26)) (.cells #[.int .i64 (-1)] 2)
  rw [World.size_alloc] at hL
  exact ⟨blk_alloc (blk_alloc kP _) _, blk_alloc (blk_alloc kU _) _, hL, ⟨none, 0, blk_alloc (blk_new w3 _) _, Kd.R_nil _ _ _ _ _⟩, ⟨by omega, by omega, by omega⟩, Kd.C_below hr hb4, hc, hb4, hr⟩
set_option maxHeartbeats 8000000 in
set_option maxRecDepth 100000 in
theorem impl_BestIndex.calls (a0 a1 : Int) (A2 : Option Addr) (c2 : Nat) (l2 : List Int) (r1 : List Int) (r2 : Int) (r3 : Bool) (w : World) (hr2 : Kd.C (Kd.int .i64) w A2 l2.length l2) (hc2 : l2.length ≤ c2) (h : impl_BestIndex.f a0 a1 l2 = some (r1, r2, r3)) :
    Calls Try.prog 18 #[.int .i64 a0, .int .i64 a1, .slice A2 l2.length c2] w fun e w' => ∃ v0_ : Value, e = .returned (.tuple #[.agg #[v0_], .int .i64 r2, .bool r3]) ∧ Kd.R (Kd.int .i64) 2 w' w.heap.size (fun _ => True) v0_ r1 ∧ Below w.heap.size w w' := by
  unfold impl_BestIndex.f at h
  have hul := Try.underlying26
  have HIR := Aside0.mk (fun (W : World) => impl_inRange.calls a0 0 3 (isIn 0 3 a0) W (impl_inRange_f a0 0 3))
  have HPL := Aside0.mk (fun (W : World) (hb : Below w.heap.size w W) => (show Calls Try.prog 55 #[.agg #[.slice none 0 0], .int .i64 a1, .slice A2 l2.length c2] W _ from impl_isPlaced.calls none 0 [] a1 A2 c2 l2 (okRows [] && (isIn 1 4 a1 && okUses l2)) W (Kd.C_nil _ _) (Nat.le_refl _) (Kd.C_below hr2 hb) hc2 (impl_isPlaced_f [] a1 l2)))
  rw [okRows_nil, Bool.true_and] at HPL
  have hb1 : Below w.heap.size w (((w.alloc (.cells #[.int .i64 a1] 2)).alloc (.cells #[.slice A2 l2.length c2] 24)).alloc (.cells #[.slice none 0 0] 26)) := below_alloc (below_alloc (below_alloc (Below.refl _ _) _) _) _
  have kP := blk_alloc (blk_alloc (blk_new w (.cells #[.int .i64 a1] 2)) (.cells #[.slice A2 l2.length c2] 24)) (.cells #[.slice none 0 0] 26)
  have kU := blk_alloc (blk_new (w.alloc (.cells #[.int .i64 a1] 2)) (.cells #[.slice A2 l2.length c2] 24)) (.cells #[.slice none 0 0] 26)
  have kX := blk_new ((w.alloc (.cells #[.int .i64 a1] 2)).alloc (.cells #[.slice A2 l2.length c2] 24)) (.cells #[.slice none 0 0] 26)
  rw [World.size_alloc] at kU kX
  rw [World.size_alloc] at kX
  have HR2 := Aside0.mk hr2
  have HC2 := Aside0.mk hc2
  have HB0 := Aside0.mk hb1
  have KP := Aside0.mk kP
  have KU := Aside0.mk kU
  have KX := Aside0.mk kX
  clear hb1 kP kU kX hr2 hc2
  cases hg : isIn 0 3 a0 && (isIn 1 4 a1 && okUses l2) with
  | false =>
    rw [hg, if_neg (by simp)] at h
    obtain ⟨e1, e2⟩ := Prod.mk.inj (Option.some.inj h)
    obtain ⟨e3, e4⟩ := Prod.mk.inj e2
    subst e1 e3 e4
    clear h e2
    cases h0 : isIn 0 3 a0 with
    | false =>
      rw [h0] at HIR
      clear hg h0
      go_enter Try.func18, Try.ntmps18
      go_wp2_with (go_at_call 54; (with_reducible refine (HIR.out _).mono ?_); rintro e w2 ⟨rfl, ⟨nd2, hw2⟩⟩; have HB := Aside0.mk (below_at hw2.symm HB0.out); have KX2 := Aside0.mk (blk_at hw2.symm KX.out); have hcx := blk_cell KX2.out 0; have hfx := blk_frozen KX2.out 0; clear hw2)
      refine bodyPost_ret (results_ctt rfl _ _ (w.heap.size + 1 + 1) 26 #[.slice none 0 0] (0, 0) _ rfl (blk_set KX2.out 0 _) Try.underlying26 rfl (by kernel_rfl)) rfl ?_
      exact ⟨.slice none 0 0, rfl, Kd.R_nil _ _ _ _ _, HB.out.setCell (p := ⟨w.heap.size + 1 + 1, 0, none⟩) (by show w.heap.size ≤ w.heap.size + 1 + 1; omega) _⟩
    | true =>
      rw [h0] at HIR hg
      rw [Bool.true_and] at hg
      rw [hg] at HPL
      clear hg h0
      go_enter Try.func18, Try.ntmps18
      go_wp2_with (first | (go_at_call 54; (with_reducible refine (HIR.out _).mono ?_); rintro e w2 ⟨rfl, ⟨nd2, hw2⟩⟩; have HB := Aside0.mk (below_at hw2.symm HB0.out); have KX2 := Aside0.mk (blk_at hw2.symm KX.out); have hcp := blk_cell (blk_at hw2.symm KP.out) 0; have hcu := blk_cell (blk_at hw2.symm KU.out) 0; clear hw2) | (go_at_call 55; (with_reducible refine (HPL.out _ HB.out).mono ?_); rintro e w3 ⟨rfl, hb3⟩; have HBn := Aside0.mk (below_step HB.out hb3); clear HB; have HB := HBn; have KX3 := Aside0.mk (blk_below KX2.out hb3); have hcx := blk_cell KX3.out 0; have hfx := blk_frozen KX3.out 0; clear HBn hb3))
      refine bodyPost_ret (results_ctt rfl _ _ (w.heap.size + 1 + 1) 26 #[.slice none 0 0] (0, 0) _ rfl (blk_set KX3.out 0 _) Try.underlying26 rfl (by kernel_rfl)) rfl ?_
      exact ⟨.slice none 0 0, rfl, Kd.R_nil _ _ _ _ _, HB.out.setCell (p := ⟨w.heap.size + 1 + 1, 0, none⟩) (by show w.heap.size ≤ w.heap.size + 1 + 1; omega) _⟩
  | true =>
    rw [hg, if_pos rfl] at h
    obtain ⟨e1, e2⟩ := Prod.mk.inj (Option.some.inj h)
    obtain ⟨e3, e4⟩ := Prod.mk.inj e2
    subst e1 e3 e4
    obtain ⟨g0, g1⟩ := Bool.and_eq_true_iff.1 hg
    obtain ⟨g2, g3⟩ := Bool.and_eq_true_iff.1 g1
    rw [g0] at HIR
    rw [g1] at HPL
    have ha0 : 0 ≤ a0 ∧ a0 ≤ 3 := by simpa [isIn] using g0
    obtain ⟨bits, rfl⟩ : ∃ b : Nat, a0 = (b : Int) := ⟨a0.toNat, by omega⟩
    rw [Int.toNat_natCast]
    have HREC := Aside0.mk (fun (bL bB : Nat) (W : World) (hW : BidW w w.heap.size (w.heap.size + 1) bL bB A2 c2 l2 a1 ([], -1) W) => (show Calls Try.prog 56 #[.slice none 0 0, .int .i64 bits, .func (.func 57) #[] #[.pointer (some ⟨w.heap.size, 0, none⟩), .pointer (some ⟨w.heap.size + 1, 0, none⟩), .pointer (some ⟨bL, 0, none⟩), .pointer (some ⟨bB, 0, none⟩)]] W _ from reducedIndices.rec_ w w.heap.size (w.heap.size + 1) bL bB A2 c2 l2 a1 g3 bits (by omega) bits [] none 0 ([], -1) W (by simp) (by simp) hW (Kd.R_nil _ _ _ _ _)))
    obtain ⟨BF, hBF⟩ : ∃ BF, BF = bfold (misI a1 l2) ([], -1) (rAll bits []) := ⟨_, rfl⟩
    rw [← hBF] at HREC ⊢
    clear h hg g0 g1 g2 g3 ha0 hBF e2
    go_enter Try.func18, Try.ntmps18
    go_wp2_with (first | (go_at_call 54; (with_reducible refine (HIR.out _).mono ?_); rintro e w2 ⟨rfl, ⟨nd2, hw2⟩⟩; have HB := Aside0.mk (below_at hw2.symm HB0.out); have KX2 := Aside0.mk (blk_at hw2.symm KX.out); have KP2 := Aside0.mk (blk_at hw2.symm KP.out); have KU2 := Aside0.mk (blk_at hw2.symm KU.out); have hcp := blk_cell KP2.out 0; have hcu := blk_cell KU2.out 0; clear hw2) | (go_at_call 55; (with_reducible refine (HPL.out _ HB.out).mono ?_); rintro e w3 ⟨rfl, hb3⟩; have HBn := Aside0.mk (below_step HB.out hb3); clear HB; have HB := HBn; have KX3 := Aside0.mk (blk_below KX2.out hb3); have KP3 := Aside0.mk (blk_below KP2.out hb3); have KU3 := Aside0.mk (blk_below KU2.out hb3); clear HBn hb3) | (go_at_call 56; refine (HREC.out (w3.heap.size + 1) w3.heap.size _ (best_start KP3.out KU3.out HB.out HR2.out HC2.out (blk_lt KX3.out))).mono ?_; rintro e w5 ⟨⟨v5, rfl⟩, hw5, hk5⟩; have hlt3 := blk_lt KX3.out; have HW5 := Aside0.mk hw5; have KX5 := Aside0.mk (blk_kept (blk_alloc (blk_alloc KX3.out _) _) hk5 (fun e => by rcases e with e | e <;> omega)); have hcx : w5.cell? ⟨w.heap.size + 1 + 1, 0, none⟩ = some (.slice none 0 0) := blk_cell KX5.out 0; have hfx := blk_frozen KX5.out 0; obtain ⟨A9, c9, hB9, hR9⟩ := hw5.hB; have hcB : w5.cell? ⟨w3.heap.size, 0, none⟩ = some (.slice A9 (nI BF.1).length c9) := blk_cell hB9 0; have hcL : w5.cell? ⟨w3.heap.size + 1, 0, none⟩ = some (.int .i64 BF.2) := blk_cell hw5.hL 0; have hcL2 : (w5.setCell ⟨w.heap.size + 1 + 1, 0, none⟩ (.slice A9 (nI BF.1).length c9)).cell? ⟨w3.heap.size + 1, 0, none⟩ = some (.int .i64 BF.2) := blk_cell (blk_far hw5.hL (p := ⟨w.heap.size + 1 + 1, 0, none⟩) (by show w3.heap.size + 1 ≠ w.heap.size + 1 + 1; omega) _) 0; have HR9 := Aside0.mk hR9; clear hw5 hk5 hB9 hR9 hlt3))
    go_region
    go_wp2_with (fail)
    refine bodyPost_ret (results_ctt rfl _ _ (w.heap.size + 1 + 1) 26 #[.slice A9 (nI BF.1).length c9] (0, 0) _ rfl (blk_drew (blk_set KX5.out 0 _)) Try.underlying26 rfl (by kernel_rfl)) rfl ?_
    exact ⟨_, rfl, Kd.R_drew (Kd.R_mono (Kd.R_set HR9.out KX5.out (by decide) 0 _) (fun _ _ => trivial)), below_drew (HW5.out.bel.setCell (p := ⟨w.heap.size + 1 + 1, 0, none⟩) (by show w.heap.size ≤ w.heap.size + 1 + 1; omega) _)⟩
end Go.Proofs.Ytdhkcnhmmiigoaa.Q
