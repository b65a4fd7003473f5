/- spec.ReducedIndex: the least numbers of the span with each greatest bit; no conditions. -/
import Derived.Test.YtdhkcnhmmiigoaaQx0
import Derived.Test.YtdhkcnhmmiigoaaQx7
import Derived.Test.YtdhkcnhmmiigoaaQx8
import Derived.Test.YtdhkcnhmmiigoaaSbase
import Derived.Test.YtdhkcnhmmiigoaaSl06Is
import Derived.Test.YtdhkcnhmmiigoaaSoutto
import Derived.Test.YtdhkcnhmmiigoaaSred
import Derived.Test.YtdhkcnhmmiigoaaSsetl
import Derived.Test.YtdhkcnhmmiigoaaSsetldef
import Derived.Test.YtdhkcnhmmiigoaaSspans
namespace Go.Proofs.Ytdhkcnhmmiigoaa.Q
open Go.RowKit Go.Proofs.YtdhkcnhmmiigoaaW.PrintWords Go.Proofs.YtdhkcnhmmiigoaaW.PrintLast Go.Proofs.YtdhkcnhmmiigoaaW.PrintMore
attribute [local go_sem] max2_int min2_int max_two min_two max_three min_three max_four min_four   -- for this text's walks alone
set_option linter.unusedVariables false
set_option linter.unusedSimpArgs false

def spec_ReducedIndex.f (l0_0 : List Int) : Option (List Int × Bool) := if okRows l0_0 = true then some (specRed (setL (spI l0_0 l0_0.length)), true) else some ([], false)
theorem nextTop (p : Nat) : 0 ≤ topAt (p + 1) ∧ topAt (p + 1) ≤ 32 := by
  unfold topAt
  have h : (0 : Int) < 2 ^ (p + 1) := Int.pow_pos (by decide)
  exact ⟨Int.ediv_nonneg (by decide) (by omega), Int.ediv_le_self _ (by decide)⟩
set_option maxHeartbeats 4000000 in
set_option maxRecDepth 100000 in
theorem spec_ReducedIndex.calls (A0_0 : Option Addr) (c0_0 : Nat) (l0_0 : List Int) (r1 : List Int) (r2 : Bool) (w : World) (hr0_0 : Kd.C (Kd.int .i64) w A0_0 l0_0.length l0_0) (hc0_0 : l0_0.length ≤ c0_0) (h : spec_ReducedIndex.f l0_0 = some (r1, r2)) :
    Calls Try.prog 32 #[.agg #[.slice A0_0 l0_0.length c0_0]] w fun e w' => ∃ v0_ : Value, e = .returned (.tuple #[.agg #[v0_], .bool r2]) ∧ Kd.R (Kd.int .i64) 2 w' w.heap.size (fun _ => True) v0_ r1 ∧ Below w.heap.size w w' := by
  unfold spec_ReducedIndex.f at h
  have hu := Try.underlying26
  have HS := Aside0.mk (spec_l06Is.calls w.heap.size A0_0 c0_0 l0_0 ((w.alloc (.cells #[.slice A0_0 l0_0.length c0_0] 26)).alloc (.cells #[.slice none 0 0] 26)) (by simp [World.cell?_alloc_lt]) (Kd.C_below hr0_0 (below_alloc (below_alloc (Below.refl _ _) _) _)))
  have HRES : Aside0 (((w.alloc (.cells #[.slice A0_0 l0_0.length c0_0] 26)).alloc (.cells #[.slice none 0 0] 26)).heap[w.heap.size + 1]? = some (.cells #[.slice none 0 0] 26 (0, 0))) := ⟨by
    have h1 := blk_new (w.alloc (.cells #[.slice A0_0 l0_0.length c0_0] 26)) (.cells #[.slice none 0 0] 26)
    simpa using h1⟩
  have HB : Aside0 (Below w.heap.size w ((w.alloc (.cells #[.slice A0_0 l0_0.length c0_0] 26)).alloc (.cells #[.slice none 0 0] 26))) := ⟨below_alloc (below_alloc (Below.refl _ _) _) _⟩
  have HR0 := Aside0.mk hr0_0
  have HC0 := Aside0.mk hc0_0
  clear hr0_0 hc0_0
  cases hg0 : okRows l0_0 with
  | false =>
    rw [hg0] at HS
    rw [hg0, if_neg (by simp)] at h
    obtain ⟨rfl, rfl⟩ := Prod.mk.inj (Option.some.inj h)
    clear h hg0
    go_enter Try.func32, Try.ntmps32
    go_wp2_with (go_at_call 60; refine HS.out.mono ?_; rintro e w' ⟨rfl, ⟨nd, rfl⟩⟩)
    refine bodyPost_ret (results_ct rfl _ _ (w.heap.size + 1) 26 #[.slice none 0 0] (0, 0) _ rfl (blk_set (blk_drewN HRES.out nd) 0 _) Try.underlying26 rfl (by kernel_rfl)) rfl ?_
    exact ⟨_, rfl, Kd.R_nil _ _ _ _ _, (pw_below_drewN HB.out nd).setCell (p := ⟨w.heap.size + 1, 0, none⟩) (by show w.heap.size ≤ w.heap.size + 1; omega) _⟩
  | true =>
    rw [hg0] at HS
    rw [hg0, if_pos rfl] at h
    obtain ⟨rfl, rfl⟩ := Prod.mk.inj (Option.some.inj h)
    obtain ⟨hrows, hlen⟩ := (okRows_iff l0_0).1 hg0
    obtain ⟨K, hK⟩ := ev_spec_span l0_0 hlen hrows
    rw [← setL_congr (sp_mem l0_0 l0_0.length)] at hK
    have hspl : (setL (spI l0_0 l0_0.length)).length ≤ 8 := by
      have h1 := setL_length_le (spI l0_0 l0_0.length)
      have h2 := spI_length l0_0 l0_0.length
      have h3 : 2 ^ l0_0.length ≤ 2 ^ 3 := Nat.pow_le_pow_right (by decide) hlen
      omega
    have hspr : ∀ x ∈ setL (spI l0_0 l0_0.length), 0 ≤ x ∧ x ≤ 63 := fun x hx => spI_range l0_0 hrows _ (Nat.le_refl _) x (((setL_facts _).2 x).1 hx)
    have HSP := Aside0.mk (fun (W : World) (hb : Below w.heap.size w W) => spec_l06Span.calls K A0_0 c0_0 l0_0 _ W (Kd.C_below HR0.out hb) HC0.out (hK K (Nat.le_refl _)))
    rw [← outTo_all]
    obtain ⟨s, hs⟩ : ∃ s, s = setL (spI l0_0 l0_0.length) := ⟨_, rfl⟩
    rw [← hs] at HSP hspl hspr ⊢
    have HSL := Aside0.mk hspl
    have HSR := Aside0.mk hspr
    clear h hg0 hrows hlen hK hspl hspr hs
    go_enter Try.func32, Try.ntmps32
    go_wp2_with (first | (go_at_call 60; refine HS.out.mono ?_; rintro e w' ⟨rfl, ⟨nd, hwl⟩⟩; have HB1 := Aside0.mk (below_at hwl.symm HB.out); have HRES1 := Aside0.mk (blk_at hwl.symm HRES.out); have hbx : w'.cell? ⟨w.heap.size, 0, none⟩ = some (.slice A0_0 l0_0.length c0_0) := cell_at hwl.symm (by simp [World.cell?_alloc_lt]); clear HB HRES hwl) | (go_at_call 66; refine (HSP.out _ HB1.out).mono ?_; rintro e w2 ⟨v, rfl, hv, hb2⟩; obtain ⟨Av, cv, rfl, hcv, hCv⟩ := Kd.R_reads hv; have HCV := Aside0.mk hCv; have HB2 := Aside0.mk (below_step HB1.out hb2); have HRES2 := Aside0.mk (blk_below HRES1.out hb2); clear hv hb2 hCv hbx HSP HS HB1 HRES1) | ((with_reducible refine gate_dst (N := 14) rfl ?_); refine Kd.R_lit (Kd.int .i64) _ 2 ?hg (N := 14) ?hd (xs := ([] : List Int)) (inner := []) (ok := fun _ => True) (okp := fun _ => True) ?hr ?hp (fun _ hk => hk) trivial (Below.refl _ _) (Nat.le_refl _) (by simp) ?_; (case hd => rfl); (case hg => rfl); (case hr => first | (go_simp; done) | (go_simp; rfl)); (case hp => exact (Reps.none _ _)); intro vin wi ho4 hb4 hg_ hnew_; clear hg_ hnew_; have HO := Aside0.mk ho4; have HBo := Aside0.mk hb4; clear ho4 hb4))
    go_loopg [5, 6] 6 (fun gg s5 s6 wr => ∃ p : Nat, s6 = .int .i64 (topAt p) ∧ Aside0 (p ≤ 6 ∧ 6 - p ≤ gg) ∧ Aside0 (Kd.R (Kd.int .i64) 2 wr w2.heap.size (fun _ => True) s5 (outTo s p)) ∧ Aside0 (Below w2.heap.size w2 wr))
    case atStart => exact ⟨0, rfl, ⟨⟨by omega, by omega⟩⟩, ⟨HO.out⟩, ⟨HBo.out⟩⟩
    case round =>
      clear HO HBo
      obtain ⟨p, rfl, HK, HO, HB⟩ := hrel
      have hK := HK.out
      by_cases hp : p < 6
      · have ht0 := (topAt_facts ⟨p, hp⟩).1
        have HQUO := Aside0.mk (topAt_facts ⟨p, hp⟩)
        have hst : outTo s (p + 1) = outTo s p ++ oneTo s (topAt p) := rfl
        have HST := Aside0.mk hst
        have HOL := Aside0.mk (outTo_length s p)
        obtain ⟨t, htp⟩ : ∃ t, t = topAt p := ⟨_, rfl⟩
        rw [← htp] at ht0 HST ⊢
        have HTP := Aside0.mk htp
        obtain ⟨Ao, co, eqo, hco, hCo⟩ := Kd.R_reads HO.out
        subst eqo
        have HKO := HK
        clear hst htp hCo hK HK
        go_wp2_with (fail)
        go_loopg [5, 7] s.length (fun gg s5 s7 wr => ∃ i : Nat, s5 = .slice Ao (outTo s p).length co ∧ s7 = .int .i64 i ∧ Aside0 (i ≤ s.length ∧ s.length - i ≤ gg) ∧ Aside0 (Kd.R (Kd.int .i64) 2 wr w2.heap.size (fun _ => True) (.slice Ao (outTo s p).length co) (outTo s p)) ∧ Aside0 (Below w2.heap.size w2 wr) ∧ Aside0 ((s.drop i).find? (isTop t) = s.find? (isTop t)))
        case atStart => exact ⟨0, rfl, rfl, ⟨⟨by omega, by omega⟩⟩, ⟨HO.out⟩, ⟨HB.out⟩, ⟨rfl⟩⟩
        case round =>
          clear HO HB
          obtain ⟨i, rfl, rfl, HK, HO, HB, HF⟩ := hrel
          have hK := HK.out
          by_cases hi : i < s.length
          · have hiz : (i : Int) < (s.length : Int) := by omega
            have h0i : (0 : Int) ≤ (i : Int) := by omega
            obtain ⟨ad, e, hx0⟩ := Kd.at_int HCV.out (i : Int) h0i hiz
            cases e
            simp only [Int.toNat_natCast] at hx0
            have hx := (HB.out.cell (World.block_lt_of_cell? _ _ hx0)).trans hx0
            have hy := HSR.out _ (List.getElem_mem hi)
            rw [← rd_lt s i hi] at hy
            have hstep := find_step s (isTop t) i hi HF.out
            have hhit := find_hit s (isTop t) i hi HF.out
            obtain ⟨y, hyy⟩ : ∃ y, y = rd s (i : Int) := ⟨_, rfl⟩
            rw [← hyy] at hx hy hstep hhit
            have HSTEP := Aside0.mk hstep
            have HHIT := Aside0.mk hhit
            have HY := Aside0.mk hy
            clear hx0 hyy hstep hhit
            by_cases hy0 : y > 0
            · have htopf : spec_l06Top.f 8 y = some ((ldN y.toNat : Nat) : Int) := by
                have h1 := top_small ⟨y.toNat, by omega⟩ (by show y.toNat ≠ 0; omega)
                rwa [show ((y.toNat : Nat) : Int) = y by omega] at h1
              have HT := Aside0.mk (fun (W : World) => spec_l06Top.calls 8 y _ W htopf)
              clear htopf
              by_cases hyt : ((ldN y.toNat : Nat) : Int) = t
              · have hP : isTop t y = true := by unfold isTop; rw [decide_eq_true hyt, decide_eq_true (by omega)]; rfl
                have HS2 : Aside0 (oneTo s t = [y]) := ⟨by unfold oneTo; rw [HHIT.out hP]⟩
                clear hP HSTEP HHIT
                go_wp2_with (first | (go_at_call 67; with_reducible refine (HT.out _).mono ?_; rintro e wl ⟨rfl, ⟨nd, hwl⟩⟩; have HO2 := Aside0.mk (Kd.R_at hwl.symm HO.out); have HB2_ := Aside0.mk (below_at hwl.symm HB.out); have hx2 := cell_at hwl.symm hx; clear hwl) | ((with_reducible refine gate_builtin (b := .append) (xs := #[.tmp 39, .tmp 44]) rfl ?_); at_builtin; refine Kd.R_append (Kd.int .i64) (w0 := w2) w2.heap.size rfl (.tmp 39) (.tmp 44) 24 2 (.int .i64 0) 8 rfl Try.underlying24 info2 rfl (by decide) (by omega) (.slice Ao (outTo s p).length co) (outTo s p) y [.int .i64 y] (fun _ => True) (fun _ => False) rfl rfl ?aP (fun _ hk => hk.elim) ?aF ?aO ?aB ?aS ?aL ?_; (case aP => exact rfl); (case aB => exact HB2_.out); (case aF => exact (fun _ _ => trivial)); (case aO => exact HO2.out); (case aS => exact HB2_.out.size); (case aL => have := HOL.out; omega); intro vap wap ho hb hg hat; have HO3 := Aside0.mk ho; have HB3 := Aside0.mk hb; clear ho hb hg hat))
                go_roundg (6 - (p + 1))
                case measure => have := HKO.out; omega
                case rel => exact ⟨p + 1, by rw [HTP.out, HQUO.out.2.2.1, wrap64_id (by have := nextTop p; omega) (by have := nextTop p; omega)], ⟨by have := HKO.out; omega⟩, ⟨by rw [HST.out, HS2.out]; exact HO3.out⟩, ⟨HB3.out⟩⟩
              · have hP : isTop t y = false := by unfold isTop; rw [decide_eq_false hyt, Bool.and_false]
                have HS2 := Aside0.mk (HSTEP.out hP)
                clear hP HSTEP HHIT
                go_wp2_with (go_at_call 67; with_reducible refine (HT.out _).mono ?_; rintro e wl ⟨rfl, ⟨nd, hwl⟩⟩; have HO2 := Aside0.mk (Kd.R_at hwl.symm HO.out); have HB2_ := Aside0.mk (below_at hwl.symm HB.out); clear hwl)
                go_roundg (s.length - (i + 1))
                case measure => have := HK.out; omega
                case rel => exact ⟨i + 1, rfl, by have := HSL.out; rw [wrap64_succ (by omega)], ⟨by have := HK.out; omega⟩, ⟨HO2.out⟩, ⟨HB2_.out⟩, ⟨HS2.out⟩⟩
            · have hP : isTop t y = false := by unfold isTop; rw [decide_eq_false (show ¬ (0 < y) from hy0), Bool.false_and]
              have HS2 := Aside0.mk (HSTEP.out hP)
              clear hP HSTEP HHIT
              go_wp2_with (fail)
              go_roundg (s.length - (i + 1))
              case measure => have := HK.out; omega
              case rel => exact ⟨i + 1, rfl, by have := HSL.out; rw [wrap64_succ (by omega)], ⟨by have := HK.out; omega⟩, ⟨by (with_reducible repeat (first | apply Kd.R_alloc | apply Kd.R_drewN | apply Kd.R_drew)); exact HO.out⟩, ⟨by repeat (first | (with_reducible first | exact HB.out | apply below_alloc | apply pw_below_drewN | apply below_drew1) | exact HB.out)⟩, ⟨HS2.out⟩⟩
          · have hiz : ¬ (i : Int) < (s.length : Int) := by omega
            have hie : i = s.length := by omega
            have hfe := HF.out
            rw [hie] at hfe
            have HS2 : Aside0 (oneTo s t = []) := ⟨by unfold oneTo; rw [find_end s _ hfe]⟩
            clear hfe HF hie hK
            go_wp2_with (fail)
            go_roundg (6 - (p + 1))
            case measure => have := HKO.out; omega
            case rel => exact ⟨p + 1, by rw [HTP.out, HQUO.out.2.2.1, wrap64_id (by have := nextTop p; omega) (by have := nextTop p; omega)], ⟨by have := HKO.out; omega⟩, ⟨by rw [HST.out, HS2.out, List.append_nil]; (with_reducible repeat (first | apply Kd.R_alloc | apply Kd.R_drewN | apply Kd.R_drew)); exact HO.out⟩, ⟨by repeat (first | (with_reducible first | exact HB.out | apply below_alloc | apply pw_below_drewN | apply below_drew1) | exact HB.out)⟩⟩
      · have hp6 : p = 6 := by omega
        subst hp6
        have ht0 : ¬ topAt 6 > 0 := by decide +kernel
        obtain ⟨Ao, co, eqo, hco, hCo⟩ := Kd.R_reads HO.out
        subst eqo
        have HRES3 := Aside0.mk (blk_below HRES2.out HB.out)
        have hc3 : wr.cell? ⟨w.heap.size + 1, 0, none⟩ = some (.slice none 0 0) := by have := blk_cell HRES3.out 0; exact this
        have hf3 : wr.frozen? ⟨w.heap.size + 1, 0, none⟩ = false := blk_frozen HRES3.out 0
        clear hCo hco hK hp
        go_wp2_with (fail)
        refine bodyPost_ret (results_ct rfl _ _ (w.heap.size + 1) 26 #[.slice Ao (outTo s 6).length co] (0, 0) _ rfl (blk_set HRES3.out 0 _) Try.underlying26 rfl (by kernel_rfl)) rfl ?_
        exact ⟨_, rfl, Kd.R_lower (Kd.R_set HO.out HRES3.out (by decide) 0 _) HB2.out.size, (below_step HB2.out HB.out).setCell (p := ⟨w.heap.size + 1, 0, none⟩) (by show w.heap.size ≤ w.heap.size + 1; omega) _⟩
end Go.Proofs.Ytdhkcnhmmiigoaa.Q
