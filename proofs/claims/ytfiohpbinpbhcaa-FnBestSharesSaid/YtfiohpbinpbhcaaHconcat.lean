/- The library's slices.Concat over int64: a row of one's own with the numbers of all rows; no conditions beyond those written. -/
import Derived.Test.YtfiohpbinpbhcaaQx0
import Derived.Test.YtfiohpbinpbhcaaHgrowi64
import Derived.Test.YtfiohpbinpbhcaaSbase
import Derived.Lib.SliceRun
namespace Go.Proofs.Ytfiohpbinpbhcaa.Q
open Go.RowKit Go.Proofs.YtfiohpbinpbhcaaW.PrintWords Go.Proofs.YtfiohpbinpbhcaaW.PrintLast Go.Proofs.YtfiohpbinpbhcaaW.PrintMore
attribute [local go_sem] max2_int min2_int max_two min_two max_three min_three max_four min_four   -- for this text's walks alone
set_option linter.unusedVariables false
set_option linter.unusedSimpArgs false

def slices_Concat_int64_int64.f (l0 : List (List Int)) : Option (List Int) := if l0.flatten.length ≤ 1000000 then some l0.flatten else none
theorem flat_take_succ (l : List (List Int)) (i : Nat) (h : i < l.length) : (l.take (i + 1)).flatten = (l.take i).flatten ++ rd_L2 l (i : Int) := by
  rw [List.take_succ_eq_append_getElem h, List.flatten_append]
  congr 1
  show [l[i]].flatten = l.getD i []
  rw [List.getD_eq_getElem?_getD, List.getElem?_eq_getElem h]
  simp
theorem flat_take_le (l : List (List Int)) (i : Nat) : (l.take i).flatten.length ≤ l.flatten.length := by
  have h := congrArg (fun q => (List.flatten q).length) (List.take_append_drop i l)
  simp only [List.flatten_append, List.length_append] at h
  omega
set_option maxHeartbeats 8000000 in
set_option maxRecDepth 100000 in
theorem slices_Concat_int64_int64.calls (A0 : Option Addr) (c0 : Nat) (l0 : List (List Int)) (r : List Int) (w : World) (hr0 : Kd.C (Kd.slice 2 (Kd.int .i64)) w A0 l0.length l0) (hc0 : l0.length ≤ c0) (h : slices_Concat_int64_int64.f l0 = some r) :
    Calls Try.prog 65 #[.slice A0 l0.length c0] w fun e w' => ∃ v0_ : Value, e = .returned v0_ ∧ Kd.R (Kd.int .i64) 2 w' w.heap.size (fun _ => True) v0_ r ∧ Below w.heap.size w w' := by
  unfold slices_Concat_int64_int64.f at h
  split at h
  case isFalse => cases h
  rename_i hlen
  obtain rfl := Option.some.inj h
  clear h
  have hn := hr0.2.1
  have HR0 := Aside0.mk hr0
  have HLEN := Aside0.mk hlen
  have HB0 := Aside0.mk (Below.refl w.heap.size w)
  have HN := Aside0.mk hn
  have HGR := Aside0.mk (fun (W : World) => slices_Grow_nil l0.flatten.length hlen W)
  obtain ⟨n, hne⟩ : ∃ n, n = l0.length := ⟨_, rfl⟩
  rw [← hne] at HN hc0
  rw [← hne]
  have HNE := Aside0.mk hne
  clear hr0 hlen hn hne
  go_enter Try.func65, Try.ntmps65
  go_wp2_with (fail)
  go_loopg [3, 11] n (fun gg s3 s11 wr => ∃ i : Nat, s11 = .int .i64 i ∧ s3 = .int .i64 ((l0.take i).flatten.length : Nat) ∧ Aside0 (i ≤ n ∧ n - i ≤ gg) ∧ Aside0 (Below w.heap.size w wr))
  case atStart => exact ⟨0, rfl, rfl, ⟨⟨Nat.zero_le _, by omega⟩⟩, ⟨HB0.out⟩⟩
  case round =>
    obtain ⟨i, rfl, rfl, HK, HB⟩ := hrel
    by_cases hlt : i < n
    · have hltz : (i : Int) < (n : Int) := by omega
      have h0z : (0 : Int) ≤ (i : Int) := by omega
      have hlt2 : i < l0.length := by have := HNE.out; omega
      obtain ⟨ad, Ax, cx, e, hx0, hcx, hCx⟩ := at_L2 HR0.out (i : Int) h0z (by omega)
      have hx : ∀ W, Below w.heap.size w W → W.cell? (ad.add i) = some (.slice Ax (rd_L2 l0 (i : Int)).length cx) := fun W hb => by
        have := (hb.cell (World.block_lt_of_cell? _ _ hx0)).trans hx0
        simpa using this
      have hx1 := hx wr HB.out
      have hf := flat_take_succ l0 i hlt2
      have hle := flat_take_le l0 (i + 1)
      have hlen := HLEN.out
      rw [hf, List.length_append] at hle
      have HF := Aside0.mk (congrArg List.length hf)
      have hw : wrap64 (((l0.take i).flatten.length : Int) + ((rd_L2 l0 (i : Int)).length : Int)) = (((l0.take i).flatten.length + (rd_L2 l0 (i : Int)).length : Nat) : Int) := by rw [wrap64_id (by omega) (by omega)]; omega
      have hge : ¬ (((l0.take i).flatten.length + (rd_L2 l0 (i : Int)).length : Nat) : Int) < 0 := by omega
      obtain ⟨x, hxe⟩ : ∃ x, x = (rd_L2 l0 (i : Int)).length := ⟨_, rfl⟩
      obtain ⟨y, hye⟩ : ∃ y, y = (l0.take i).flatten.length := ⟨_, rfl⟩
      have hxz : x ≤ 1000000 := by omega
      have hyz : y ≤ 1000000 := by omega
      rw [List.length_append] at HF
      rw [← hxe] at hx1 hw hge HF
      rw [← hye] at hw hge HF
      rw [← hye]
      subst e
      clear hx0 hx hcx hCx hf hle hlen hxe hye hlt2
      go_wp2_with (fail)
      go_roundg (n - (i + 1))
      case measure => have := HK.out; omega
      case rel => exact ⟨i + 1, by have := HN.out; rw [wrap64_succ (by omega)], by first | (rw [hw, HF.out]; done) | (rw [HF.out]; done) | (rw [HF.out]; congr 1), ⟨by have := HK.out; omega⟩, ⟨HB.out⟩⟩
    · have hltz : ¬ (i : Int) < (n : Int) := by omega
      have hie : i = l0.length := by have := HK.out; have := HNE.out; omega
      have hall : (l0.take i).flatten = l0.flatten := by rw [hie, List.take_length]
      rw [hall]
      obtain ⟨z, hz⟩ : ∃ z, z = l0.flatten.length := ⟨_, rfl⟩
      rw [← hz] at HGR
      rw [← hz]
      clear hlt hie hall hz
      go_wp2_with (go_at_call 81; (with_reducible refine (HGR.out _).mono ?_); rintro e w2 ⟨v2, rfl, hv2, hb2⟩; have HV2 := Aside0.mk (Kd.R_lower hv2 HB.out.size); have HB2 := Aside0.mk (below_step HB.out hb2); clear hv2 hb2)
      go_loopg [6, 27] n (fun gg s6 s27 wr => ∃ (i : Nat) (v : Value), s27 = .int .i64 i ∧ s6 = v ∧ Aside0 (i ≤ n ∧ n - i ≤ gg) ∧ Aside0 (Kd.R (Kd.int .i64) 2 wr w.heap.size (fun _ => True) v (l0.take i).flatten) ∧ Aside0 (Below w.heap.size w wr))
      case atStart => exact ⟨0, _, rfl, rfl, ⟨⟨Nat.zero_le _, by omega⟩⟩, ⟨HV2.out⟩, ⟨HB2.out⟩⟩
      case round =>
        clear HB HB2 HV2
        obtain ⟨i, v, rfl, hv6, HK, HV, HB⟩ := hrel
        have hv7 := hv6.symm
        subst hv7
        by_cases hlt : i < n
        · have hltz : (i : Int) < (n : Int) := by omega
          have h0z : (0 : Int) ≤ (i : Int) := by omega
          have hlt2 : i < l0.length := by have := HNE.out; omega
          obtain ⟨ad, Ax, cx, e, hx0, hcx, hCx⟩ := at_L2 HR0.out (i : Int) h0z (by omega)
          have hx1 := (HB.out.cell (World.block_lt_of_cell? _ _ hx0)).trans hx0
          simp only [Int.toNat_natCast] at hx1
          have HCX := Aside0.mk (Kd.C_below hCx HB.out)
          have hf := flat_take_succ l0 i hlt2
          have hle := flat_take_le l0 (i + 1)
          rw [hf, List.length_append] at hle
          have HF := Aside0.mk hf
          have HLE := Aside0.mk (Nat.le_trans hle HLEN.out)
          obtain ⟨X, hX⟩ : ∃ X, X = rd_L2 l0 (i : Int) := ⟨_, rfl⟩
          obtain ⟨Y, hY⟩ : ∃ Y, Y = (l0.take i).flatten := ⟨_, rfl⟩
          rw [← hX] at hx1 HCX HF HLE
          rw [← hY] at HF HLE HV
          subst e
          clear hx0 hcx hCx hf hle hlt2 hX hY
          go_wp2_with ((with_reducible refine gate_builtin (b := .append) (xs := #[.tmp 31, .tmp 32]) rfl ?_); at_builtin; refine Kd.R_append_rows (Kd.int .i64) (w0 := w) w.heap.size rfl (.tmp 31) (.tmp 32) 22 2 (.int .i64 0) 8 rfl Try.underlying22 info2 rfl (by decide) (by omega) v Y X _ _ _ (fun _ => True) (fun _ => False) rfl rfl ?aO ?aR (fun _ _ h => h) (fun _ h => h.elim) ?aF ?aB ?aS ?aL ?_; (case aR => exact HCX.out); (case aB => exact HB.out); (case aF => exact (fun _ _ => trivial)); (case aO => exact HV.out); (case aS => exact HB.out.size); (case aL => have := HLE.out; omega); intro v9 w9 ho hb hg hat; have HV9 := Aside0.mk ho; have HB9 := Aside0.mk hb; clear ho hb hg hat)
          go_roundg (n - (i + 1))
          case measure => have := HK.out; omega
          case rel => exact ⟨i + 1, _, by have := HN.out; rw [wrap64_succ (by omega)], rfl, ⟨by have := HK.out; omega⟩, ⟨by rw [HF.out]; exact HV9.out⟩, ⟨HB9.out⟩⟩
        · have hltz : ¬ (i : Int) < (n : Int) := by omega
          have hie : i = l0.length := by have := HK.out; have := HNE.out; omega
          have hall : (l0.take i).flatten = l0.flatten := by rw [hie, List.take_length]
          rw [hall] at HV
          clear hlt hie hall
          go_wp2_with (fail)
          go_ret
          exact ⟨_, rfl, HV.out, HB.out⟩
end Go.Proofs.Ytfiohpbinpbhcaa.Q
