/- The policy that a seed tells: its rows are the seed's orders in turn; no conditions beyond those written. -/
import Derived.Test.YthaipkhgemachaaGreatDoorQx0
import Derived.Test.YthaipkhgemachaaGreatDoorQx2
import Derived.Test.YthaipkhgemachaaGreatDoorQx3
import Derived.Test.YthaipkhgemachaaGreatDoorSmakers
import Derived.Test.YthaipkhgemachaaGreatDoorSmovedk
import Derived.Test.YthaipkhgemachaaGreatDoorSpolicyOf
import Derived.Laws.EntriesVeiled
namespace Go.Proofs.YthaipkhgemachaaGreatDoor.Q
open Go.RowKit Go.Proofs.YthaipkhgemachaaGreatDoorW.PrintWords Go.Proofs.YthaipkhgemachaaGreatDoorW.PrintLast Go.Proofs.YthaipkhgemachaaGreatDoorW.PrintMore
attribute [local go_sem] max2_int min2_int max_two min_two max_three min_three max_four min_four   -- for this text's walks alone
set_option linter.unusedVariables false
set_option linter.unusedSimpArgs false

set_option maxHeartbeats 4000000 in
set_option maxRecDepth 100000 in
theorem seed1 (b0 b1 K : Nat) (hne : b0 ≠ b1) (n s r2 : Int) (r1 : List Int) (hev : impl_seedOrder.f K s n = some (r1, r2)) (w : World) (hb1 : w.heap[b1]? = some (.cells #[.int .i64 s] 2 (0, 0))) (hb0 : w.heap[b0]? = some (.cells #[.int .i64 n] 2 (0, 0))) :
    Calls Tryz.prog 22 #[.pointer (some ⟨b1, 0, none⟩), .pointer (some ⟨b0, 0, none⟩)] w fun e w' => ∃ v, e = .returned v ∧ Kd.R (Kd.int .i64) 2 w' w.heap.size (fun _ => True) v r1 ∧ w.grownBy w' (some b1) ∧ w'.heap[b1]? = some (.cells #[.int .i64 r2] 2 (0, 0)) ∧ w'.heap[b0]? = some (.cells #[.int .i64 n] 2 (0, 0)) := by
  have hc1 : w.cell? ⟨b1, 0, none⟩ = some (.int .i64 s) := (blk_cell hb1 0).trans rfl
  have hc0 : w.cell? ⟨b0, 0, none⟩ = some (.int .i64 n) := (blk_cell hb0 0).trans rfl
  have HS := Aside0.mk (fun W => impl_seedOrder.calls K s n r1 r2 W hev)
  have HB1 := Aside0.mk hb1
  have HB0 := Aside0.mk hb0
  have HNE := Aside0.mk hne
  clear hev hb1 hb0 hne
  go_enter Tryz.func22, Tryz.ntmps22
  go_wp2_with (go_at_call 23; (with_reducible refine (HS.out _).mono ?_); rintro e w2 ⟨v2, rfl, ho, hb⟩; have HO := Aside0.mk ho; have HB := Aside0.mk hb; have HC1 := Aside0.mk (blk_below HB1.out hb); have HC0 := Aside0.mk (blk_below HB0.out hb); have hd1 := (blk_cell HC1.out 0).trans rfl; have hf1 := blk_frozen HC1.out 0; clear ho hb)
  go_ret
  refine ⟨_, rfl, ?_, ?_, blk_set HC1.out 0 _, blk_far HC0.out HNE.out _⟩
  · exact Kd.R_mono (Kd.R_far (p := ⟨b1, 0, none⟩) (Kd.R_bound HO.out) (fun k hk e => by have := hk.2.1; have h2 := blk_lt HB1.out; have e2 : k = b1 := e; omega) _) (fun _ _ => trivial)
  · exact World.grownBy.trans (grown_of_below HB.out _) (grow_one w2 b1 0 _)
set_option maxHeartbeats 4000000 in
set_option maxRecDepth 100000 in
theorem seed2 (b0 b1 bf K : Nat) (hne : b0 ≠ b1) (t : TypeId) (i n s r2 : Int) (r1 : List Int) (hev : impl_seedOrder.f K s n = some (r1, r2)) (w : World) (hb1 : w.heap[b1]? = some (.cells #[.int .i64 s] 2 (0, 0))) (hb0 : w.heap[b0]? = some (.cells #[.int .i64 n] 2 (0, 0))) (hbf : w.heap[bf]? = some (.cells #[.func (.func 22) #[] #[.pointer (some ⟨b1, 0, none⟩), .pointer (some ⟨b0, 0, none⟩)]] t (0, 0))) :
    Calls Tryz.prog 25 (#[.int .i64 i] ++ #[.pointer (some ⟨bf, 0, none⟩)]) w fun e w' => ∃ v, e = .returned v ∧ Kd.R (Kd.int .i64) 2 w' w.heap.size (fun _ => True) v r1 ∧ w.grownBy w' (some b1) ∧ w'.heap[b1]? = some (.cells #[.int .i64 r2] 2 (0, 0)) ∧ w'.heap[b0]? = some (.cells #[.int .i64 n] 2 (0, 0)) := by
  have hcf := (blk_cell hbf 0).trans rfl
  have HS := Aside0.mk (seed1 b0 b1 K hne n s r2 r1 hev w hb1 hb0)
  have eg : ∀ args w, (callFunc 22 args).run Tryz.prog w = .ok (.enter 22 args) w := enters_of Tryz.func22 (by kernel_rfl) rfl
  clear hb1 hb0 hbf hev
  go_enter Tryz.func25, Tryz.ntmps25
  go_wp2_with (go_at_fn 22; refine HS.out.mono ?_; rintro e w2 ⟨v2, rfl, ho, hb⟩; have HO := Aside0.mk ho; have HB := Aside0.mk hb; clear ho hb)
  go_ret
  exact ⟨_, rfl, HO.out, HB.out⟩
theorem isSeed_ev (s : Int) (h1 : 1 ≤ s) (h2 : s ≤ 2147483646) : impl_isSeed.f s = some true := by
  show (impl_inRange.f _ 1 2147483646).bind _ = _
  unfold impl_inRange.f
  rw [if_pos h1, decide_eq_true h2]; rfl
set_option maxHeartbeats 4000000 in
set_option maxRecDepth 100000 in
theorem seed_calls (n K : Nat) (h1 : 1 ≤ n) (h6 : n ≤ 6) (st : Nat → Int) (rows : Nat → List Int) (hev : ∀ i, i ≤ n → impl_seedOrder.f K (st i) (n : Int) = some (rows i, st (i + 1))) (hs1 : 1 ≤ st 0) (hs2 : st 0 ≤ 2147483646) (w : World) :
    Calls Tryz.prog 9 #[.int .i64 (n : Int), .int .i64 (st 0)] w fun e w' => ∃ vH vM : Value, e = .returned (.tuple #[.agg #[vH, vM], .bool true]) ∧ Kd.R (Kd.slice 2 (Kd.int .i64)) 25 w' w.heap.size (fun _ => True) vH ((List.range n).map rows) ∧ Kd.R (Kd.int .i64) 2 w' w.heap.size (fun _ => True) vM (rows n) ∧ Below w.heap.size w w' := by
  have hu := Tryz.underlying27
  have hsz1 : (w.alloc (.cells #[.int .i64 (n : Int)] 2)).heap.size = w.heap.size + 1 := by simp
  obtain ⟨wa, hwa⟩ : ∃ wa, wa = (w.alloc (.cells #[.int .i64 (n : Int)] 2)).alloc (.cells #[.int .i64 (st 0)] 2) := ⟨_, rfl⟩
  have hza : wa.heap.size = w.heap.size + 1 + 1 := by rw [hwa]; simp
  have ha0 : wa.heap[w.heap.size]? = some (.cells #[.int .i64 (n : Int)] 2 (0, 0)) := by rw [hwa]; exact blk_alloc (blk_new w _) _
  have ha1 : wa.heap[w.heap.size + 1]? = some (.cells #[.int .i64 (st 0)] 2 (0, 0)) := by rw [hwa, ← hsz1]; exact blk_new _ _
  have hbla : Below w.heap.size w wa := by rw [hwa]; exact below_alloc (below_alloc (Below.refl _ _) _) _
  obtain ⟨w2, hw2⟩ : ∃ w2, w2 = wa.alloc (.cells #[.slice none 0 0, .slice none 0 0] 27) := ⟨_, rfl⟩
  have hz2 : w2.heap.size = w.heap.size + 1 + 1 + 1 := by rw [hw2]; simp [hza]
  have hb0 : w2.heap[w.heap.size]? = some (.cells #[.int .i64 (n : Int)] 2 (0, 0)) := by rw [hw2]; exact blk_alloc ha0 _
  have hb1 : w2.heap[w.heap.size + 1]? = some (.cells #[.int .i64 (st 0)] 2 (0, 0)) := by rw [hw2]; exact blk_alloc ha1 _
  have hres : w2.heap[w.heap.size + 1 + 1]? = some (.cells #[.slice none 0 0, .slice none 0 0] 27 (0, 0)) := by rw [hw2, ← hza]; exact blk_new wa _
  have hbel : Below w.heap.size w w2 := by rw [hw2]; exact below_alloc hbla _
  obtain ⟨cl, hcl⟩ : ∃ cl : Value, cl = .func (.func 22) #[] #[.pointer (some ⟨w.heap.size + 1, 0, none⟩), .pointer (some ⟨w.heap.size, 0, none⟩)] := ⟨_, rfl⟩
  have HIS := Aside0.mk (fun W => impl_isSeed.calls (st 0) true W (isSeed_ev _ hs1 hs2))
  have HP := Aside0.mk (fun (w4 : World) (hz4 : w4.heap.size = w.heap.size + 1 + 1 + 1 + 1) (hb4 : w4.heap[w.heap.size]? = some (.cells #[.int .i64 (n : Int)] 2 (0, 0))) (hd4 : w4.heap[w.heap.size + 1]? = some (.cells #[.int .i64 (st 0)] 2 (0, 0))) (hf4 : w4.heap[w.heap.size + 1 + 1 + 1]? = some (.cells #[.func (.func 22) #[] #[.pointer (some ⟨w.heap.size + 1, 0, none⟩), .pointer (some ⟨w.heap.size, 0, none⟩)]] 50 (0, 0))) =>
    policyOf_calls 25 22 #[.pointer (some ⟨w.heap.size + 1 + 1 + 1, 0, none⟩)] #[.pointer (some ⟨w.heap.size + 1, 0, none⟩), .pointer (some ⟨w.heap.size, 0, none⟩)] (enters_of Tryz.func25 (by kernel_rfl) rfl) (enters_of Tryz.func22 (by kernel_rfl) rfl) n h1 h6 (some (w.heap.size + 1)) rows (rows n) w4 (fun k h => by cases h; omega) (fun i W => W.heap[w.heap.size]? = some (.cells #[.int .i64 (n : Int)] 2 (0, 0)) ∧ W.heap[w.heap.size + 1]? = some (.cells #[.int .i64 (st i)] 2 (0, 0)) ∧ W.heap[w.heap.size + 1 + 1 + 1]? = some (.cells #[.func (.func 22) #[] #[.pointer (some ⟨w.heap.size + 1, 0, none⟩), .pointer (some ⟨w.heap.size, 0, none⟩)]] 50 (0, 0)))
      (fun i W W' h k => ⟨(k _ (by omega)).trans h.1, (k _ (by omega)).trans h.2.1, (k _ (by omega)).trans h.2.2⟩) ⟨hb4, hd4, hf4⟩
      (fun i W hi hI hs => (seed2 w.heap.size (w.heap.size + 1) (w.heap.size + 1 + 1 + 1) K (by omega) _ (i : Int) (n : Int) (st i) (st (i + 1)) (rows i) (hev i (by omega)) W hI.2.1 hI.1 hI.2.2).mono fun e W' ⟨v, he, hr, hg, hd, hn⟩ => ⟨v, he, hr, hg, hn, hd, blk_grown hI.2.2 hg (fun e2 => by injection e2 with e2; omega)⟩)
      (fun W hI hs => (seed1 w.heap.size (w.heap.size + 1) K (by omega) (n : Int) (st n) (st (n + 1)) (rows n) (hev n (Nat.le_refl _)) W hI.2.1 hI.1).mono fun e W' ⟨v, he, hr, hg, hd, hn⟩ => ⟨v, he, hr, hg, hn, hd, blk_grown hI.2.2 hg (fun e2 => by injection e2 with e2; omega)⟩))
  have HW2 : Aside0 ((((w.alloc (.cells #[.int .i64 (n : Int)] 2)).alloc (.cells #[.int .i64 (st 0)] 2)).alloc (.cells #[.slice none 0 0, .slice none 0 0] 27)) = w2) := ⟨by rw [hw2, hwa]⟩
  have HZ2 := Aside0.mk hz2
  have HB0 := Aside0.mk hb0
  have HB1 := Aside0.mk hb1
  have HRS := Aside0.mk hres
  have HBL := Aside0.mk hbel
  have hcs : w2.cell? ⟨w.heap.size + 1, 0, none⟩ = some (.int .i64 (st 0)) := (blk_cell hb1 0).trans rfl
  rw [hw2, hwa] at hcs
  clear hwa hza ha0 ha1 hbla hw2 hz2 hb0 hb1 hres hbel hcl hev hs1 hs2 h1 h6
  go_enter Tryz.func9, Tryz.ntmps9
  go_upto_region 3 with (go_at_call 21; rw [HW2.out]; (with_reducible refine (HIS.out _).mono ?_); rintro e w3 ⟨rfl, ⟨nd, hw3⟩⟩; have HW3 := Aside0.mk hw3; clear hw3)
  have hz3 : w3.heap.size = w.heap.size + 1 + 1 + 1 := by rw [HW3.out]; exact HZ2.out
  have h30 : w3.heap[w.heap.size]? = some (.cells #[.int .i64 (n : Int)] 2 (0, 0)) := by rw [HW3.out]; exact HB0.out
  have h31 : w3.heap[w.heap.size + 1]? = some (.cells #[.int .i64 (st 0)] 2 (0, 0)) := by rw [HW3.out]; exact HB1.out
  have h3r : w3.heap[w.heap.size + 1 + 1]? = some (.cells #[.slice none 0 0, .slice none 0 0] 27 (0, 0)) := by rw [HW3.out]; exact HRS.out
  have h3b : Below w.heap.size w w3 := by rw [HW3.out]; exact pw_below_drewN HBL.out _
  obtain ⟨w4, hw4⟩ : ∃ w4, w4 = w3.alloc (.cells #[.func (.func 22) #[] #[.pointer (some ⟨w.heap.size + 1, 0, none⟩), .pointer (some ⟨w.heap.size, 0, none⟩)]] 50) := ⟨_, rfl⟩
  have h40 : w4.heap[w.heap.size]? = some (.cells #[.int .i64 (n : Int)] 2 (0, 0)) := by rw [hw4]; exact blk_alloc h30 _
  have h41 : w4.heap[w.heap.size + 1]? = some (.cells #[.int .i64 (st 0)] 2 (0, 0)) := by rw [hw4]; exact blk_alloc h31 _
  have h4r : w4.heap[w.heap.size + 1 + 1]? = some (.cells #[.slice none 0 0, .slice none 0 0] 27 (0, 0)) := by rw [hw4]; exact blk_alloc h3r _
  have h4f : w4.heap[w.heap.size + 1 + 1 + 1]? = some (.cells #[.func (.func 22) #[] #[.pointer (some ⟨w.heap.size + 1, 0, none⟩), .pointer (some ⟨w.heap.size, 0, none⟩)]] 50 (0, 0)) := by rw [hw4, ← hz3]; exact blk_new w3 _
  have h4z : w4.heap.size = w.heap.size + 1 + 1 + 1 + 1 := by rw [hw4]; simp [hz3]
  have HBL4 := Aside0.mk (show Below w.heap.size w w4 from by rw [hw4]; exact below_alloc h3b _)
  have HP4 := Aside0.mk (HP.out w4 h4z h40 h41 h4f)
  have HRS4 := Aside0.mk h4r
  have HF4 := Aside0.mk h4f
  have H40 := Aside0.mk h40
  have HW4 := Aside0.mk hw4
  clear h30 h31 h3r h3b h40 h41 h4r h4f h4z hw4 HP hcs
  go_upto_region 4 with (fail)
  rw [← HW4.out]
  have hd0 : w4.cell? ⟨w.heap.size, 0, none⟩ = some (.int .i64 (n : Int)) := (blk_cell H40.out 0).trans rfl
  have hd1 := (blk_cell HF4.out 0).trans rfl
  go_wp2_with (go_at_call 24; (with_reducible refine HP4.out.mono ?_); rintro e w5 ⟨vH, vM, rfl, hH, hM, hg⟩; obtain ⟨AH, cH, eH⟩ := Kd.R_slice hH; rw [List.length_map, List.length_range] at eH; subst eH; obtain ⟨AM, cM, eM⟩ := Kd.R_slice hM; subst eM; have HH := Aside0.mk hH; have HM := Aside0.mk hM; have HG := Aside0.mk hg; have HR5 := Aside0.mk (blk_grown HRS4.out hg (fun e2 => by injection e2 with e2; omega)); have hr0 := (blk_cell HR5.out 0).trans rfl; have hr1 := (blk_cell HR5.out 1).trans rfl; have hf0 := blk_frozen HR5.out 0; have hf1 := blk_frozen HR5.out 1; clear hH hM hg)
  have hans := mk_answer HR5.out HH.out HM.out HG.out HBL4.out (fun k h => by injection h with h; omega) (by omega)
  refine bodyPost_ret (results_ct rfl _ _ (w.heap.size + 1 + 1) 27 #[.slice AH n cH, .slice AM (rows n).length cM] (0, 0) _ rfl hans.1 Tryz.underlying27 rfl (by kernel_rfl)) rfl ?_
  exact ⟨_, _, rfl, hans.2.1, hans.2.2.1, hans.2.2.2⟩
end Go.Proofs.YthaipkhgemachaaGreatDoor.Q
