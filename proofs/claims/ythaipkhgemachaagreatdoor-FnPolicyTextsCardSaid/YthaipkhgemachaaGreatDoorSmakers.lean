/- The makers of policies: LruPolicy and MruPolicy; no conditions beyond those written. -/
import Derived.Test.YthaipkhgemachaaGreatDoorQx0
import Derived.Test.YthaipkhgemachaaGreatDoorQx2
import Derived.Test.YthaipkhgemachaaGreatDoorSupto
import Derived.Test.YthaipkhgemachaaGreatDoorSpolicyOf
namespace Go.Proofs.YthaipkhgemachaaGreatDoor.Q
open Go.RowKit Go.Proofs.YthaipkhgemachaaGreatDoorW.PrintWords Go.Proofs.YthaipkhgemachaaGreatDoorW.PrintLast Go.Proofs.YthaipkhgemachaaGreatDoorW.PrintMore
attribute [local go_sem] max2_int min2_int max_two min_two max_three min_three max_four min_four   -- for this text's walks alone
set_option linter.unusedVariables false
set_option linter.unusedSimpArgs false

theorem erase2 (i : Nat) (hi : i < 2) : (ascI 2).eraseIdx i = [1 - (i : Int)] := by
  match i, hi with
  | 0, _ => rfl
  | 1, _ => rfl
set_option maxHeartbeats 4000000 in
set_option maxRecDepth 100000 in
theorem lru1 (i : Nat) (hi : i < 2) (b : Nat) (w : World) (hb : w.heap[b]? = some (.cells #[.int .i64 2] 2 (0, 0))) :
    Calls Tryz.prog 26 (#[.int .i64 (i : Int)] ++ #[.pointer (some ⟨b, 0, none⟩)]) w fun e w' => ∃ v, e = .returned v ∧ Kd.R (Kd.int .i64) 2 w' w.heap.size (fun _ => True) v [(i : Int), 1 - (i : Int)] ∧ Below w.heap.size w w' := by
  have hc : w.cell? ⟨b, 0, none⟩ = some (.int .i64 2) := (blk_cell hb 0).trans rfl
  have HM := Aside0.mk (fun W => moved_front i _ hi (erase2 i hi) W)
  clear hb hi
  go_enter Tryz.func26, Tryz.ntmps26
  go_wp2_with (go_at_call 27; (with_reducible refine (HM.out _).mono ?_); rintro e w2 ⟨v2, rfl, ho, hb⟩; have HO := Aside0.mk ho; have HB := Aside0.mk hb; clear ho hb)
  go_ret
  exact ⟨_, rfl, HO.out, HB.out⟩
set_option maxHeartbeats 4000000 in
set_option maxRecDepth 100000 in
theorem lru2 (b : Nat) (w : World) (hb : w.heap[b]? = some (.cells #[.int .i64 2] 2 (0, 0))) :
    Calls Tryz.prog 28 #[.pointer (some ⟨b, 0, none⟩)] w fun e w' => ∃ v, e = .returned v ∧ Kd.R (Kd.int .i64) 2 w' w.heap.size (fun _ => True) v [1, 0] ∧ Below w.heap.size w w' := by
  have hc : w.cell? ⟨b, 0, none⟩ = some (.int .i64 2) := (blk_cell hb 0).trans rfl
  have hm : ∀ W, Calls Tryz.prog 27 #[.int .i64 2, .int .i64 1, .int .i64 0] W fun e w' => ∃ v, e = .returned v ∧ Kd.R (Kd.int .i64) 2 w' W.heap.size (fun _ => True) v [1, 0] ∧ Below W.heap.size W w' := fun W => moved_front 1 0 (by decide) rfl W
  have HM := Aside0.mk hm
  have hw : IntKind.i64.wrap 1 = 1 := by decide
  clear hb hm
  go_enter Tryz.func28, Tryz.ntmps28
  go_wp2_with (go_at_call 27; (with_reducible refine (HM.out _).mono ?_); rintro e w2 ⟨v2, rfl, ho, hb⟩; have HO := Aside0.mk ho; have HB := Aside0.mk hb; clear ho hb)
  go_ret
  exact ⟨_, rfl, HO.out, HB.out⟩
set_option maxHeartbeats 4000000 in
set_option maxRecDepth 100000 in
theorem mru1 (n i : Nat) (h1 : 1 ≤ n) (h6 : n ≤ 6) (hi : i < n) (b : Nat) (w : World) (hb : w.heap[b]? = some (.cells #[.int .i64 (n : Int)] 2 (0, 0))) :
    Calls Tryz.prog 31 (#[.int .i64 (i : Int)] ++ #[.pointer (some ⟨b, 0, none⟩)]) w fun e w' => ∃ v, e = .returned v ∧ Kd.R (Kd.int .i64) 2 w' w.heap.size (fun _ => True) v ((ascI n).eraseIdx i ++ [(i : Int)]) ∧ Below w.heap.size w w' := by
  have hc : w.cell? ⟨b, 0, none⟩ = some (.int .i64 (n : Int)) := (blk_cell hb 0).trans rfl
  have HM := Aside0.mk (fun W => moved_end n i h1 h6 hi W)
  have hw : IntKind.i64.wrap ((n : Int) - 1) = ((n - 1 : Nat) : Int) := by rw [IntKind.wrap_i64]; omega
  clear hb h1 h6 hi
  go_enter Tryz.func31, Tryz.ntmps31
  go_wp2_with (go_at_call 27; (with_reducible refine (HM.out _).mono ?_); rintro e w2 ⟨v2, rfl, ho, hb⟩; have HO := Aside0.mk ho; have HB := Aside0.mk hb; clear ho hb)
  go_ret
  exact ⟨_, rfl, HO.out, HB.out⟩
set_option maxHeartbeats 4000000 in
set_option maxRecDepth 100000 in
theorem mru2 (n : Nat) (h6 : n ≤ 6) (b : Nat) (w : World) (hb : w.heap[b]? = some (.cells #[.int .i64 (n : Int)] 2 (0, 0))) :
    Calls Tryz.prog 32 #[.pointer (some ⟨b, 0, none⟩)] w fun e w' => ∃ v, e = .returned v ∧ Kd.R (Kd.int .i64) 2 w' w.heap.size (fun _ => True) v (ascI n) ∧ Below w.heap.size w w' := by
  have hc : w.cell? ⟨b, 0, none⟩ = some (.int .i64 (n : Int)) := (blk_cell hb 0).trans rfl
  have HA := Aside0.mk (fun W => impl_ascending.calls 10 (n : Int) (ascI n) W (ev_asc n h6))
  clear hb h6
  go_enter Tryz.func32, Tryz.ntmps32
  go_wp2_with (go_at_call 33; (with_reducible refine (HA.out _).mono ?_); rintro e w2 ⟨v2, rfl, ho, hb⟩; have HO := Aside0.mk ho; have HB := Aside0.mk hb; clear ho hb)
  go_ret
  exact ⟨_, rfl, HO.out, HB.out⟩
theorem mk_answer {w w2 w5 : World} {b : Nat} {row : Option Nat} {vH vM : Value} {H : List (List Int)} {M : List Int} (hres : w5.heap[b]? = some (.cells #[.slice none 0 0, .slice none 0 0] 27 (0, 0))) (hH : Kd.R (Kd.slice 2 (Kd.int .i64)) 25 w5 w2.heap.size (fun _ => True) vH H) (hM : Kd.R (Kd.int .i64) 2 w5 w2.heap.size (fun _ => True) vM M) (hg : w2.grownBy w5 row) (hbel : Below w.heap.size w w2) (hrow : ∀ k, row = some k → w.heap.size ≤ k) (hb : w.heap.size ≤ b) :
    (((w5.setCell ⟨b, 0, none⟩ vH).setCell ⟨b, 1, none⟩ vM).heap[b]? = some (.cells #[vH, vM] 27 (0, 0))) ∧ Kd.R (Kd.slice 2 (Kd.int .i64)) 25 ((w5.setCell ⟨b, 0, none⟩ vH).setCell ⟨b, 1, none⟩ vM) w.heap.size (fun _ => True) vH H ∧ Kd.R (Kd.int .i64) 2 ((w5.setCell ⟨b, 0, none⟩ vH).setCell ⟨b, 1, none⟩ vM) w.heap.size (fun _ => True) vM M ∧ Below w.heap.size w ((w5.setCell ⟨b, 0, none⟩ vH).setCell ⟨b, 1, none⟩ vM) :=
  ⟨blk_set (blk_set hres 0 vH) 1 vM, Kd.R_set (Kd.R_set (Kd.R_lower hH hbel.size) hres (by decide) 0 vH) (blk_set hres 0 vH) (by decide) 1 vM, Kd.R_set (Kd.R_set (Kd.R_lower hM hbel.size) hres (by decide) 0 vH) (blk_set hres 0 vH) (by decide) 1 vM, ((hbel.grown hg hbel.size hrow).setCell (p := ⟨b, 0, none⟩) hb vH).setCell (p := ⟨b, 1, none⟩) hb vM⟩
set_option maxHeartbeats 4000000 in
set_option maxRecDepth 100000 in
theorem mru_calls (n : Nat) (h1 : 1 ≤ n) (h6 : n ≤ 6) (w : World) :
    Calls Tryz.prog 12 #[.int .i64 (n : Int)] w fun e w' => ∃ vH vM : Value, e = .returned (.tuple #[.agg #[vH, vM], .bool true]) ∧ Kd.R (Kd.slice 2 (Kd.int .i64)) 25 w' w.heap.size (fun _ => True) vH ((List.range n).map fun i => (ascI n).eraseIdx i ++ [(i : Int)]) ∧ Kd.R (Kd.int .i64) 2 w' w.heap.size (fun _ => True) vM (ascI n) ∧ Below w.heap.size w w' := by
  obtain ⟨w2, hw2⟩ : ∃ w2, w2 = (w.alloc (.cells #[.int .i64 (n : Int)] 2)).alloc (.cells #[.slice none 0 0, .slice none 0 0] 27) := ⟨_, rfl⟩
  have hz : w2.heap.size = w.heap.size + 2 := by rw [hw2]; simp
  have hbox : w2.heap[w.heap.size]? = some (.cells #[.int .i64 (n : Int)] 2 (0, 0)) := by rw [hw2]; exact blk_alloc (blk_new w _) _
  have hres : w2.heap[w.heap.size + 1]? = some (.cells #[.slice none 0 0, .slice none 0 0] 27 (0, 0)) := by rw [hw2]; simpa using blk_new (w.alloc (.cells #[.int .i64 (n : Int)] 2)) (.cells #[.slice none 0 0, .slice none 0 0] 27)
  have hbel : Below w.heap.size w w2 := by rw [hw2]; exact below_alloc (below_alloc (Below.refl _ _) _) _
  have HP := Aside0.mk (policyOf_calls 31 32 #[.pointer (some ⟨w.heap.size, 0, none⟩)] #[.pointer (some ⟨w.heap.size, 0, none⟩)] (enters_of Tryz.func31 (by kernel_rfl) rfl) (enters_of Tryz.func32 (by kernel_rfl) rfl) n h1 h6 none (fun i => (ascI n).eraseIdx i ++ [(i : Int)]) (ascI n) w2 (fun k h => by cases h) (fun _ W => W.heap[w.heap.size]? = some (.cells #[.int .i64 (n : Int)] 2 (0, 0)))
    (fun i W W' h k => (k _ (by omega)).trans h) hbox
    (fun i W hi hI hs => (mru1 n i h1 h6 hi w.heap.size W hI).mono fun e W' ⟨v, he, hr, hb⟩ => ⟨v, he, hr, grown_of_below hb none, blk_below hI hb⟩)
    (fun W hI hs => (mru2 n h6 w.heap.size W hI).mono fun e W' ⟨v, he, hr, hb⟩ => ⟨v, he, hr, grown_of_below hb none, blk_below hI hb⟩))
  have HW2 := Aside0.mk hw2
  have HBX := Aside0.mk hbox
  have HRS := Aside0.mk hres
  have HBL := Aside0.mk hbel
  have HZ := Aside0.mk hz
  have hc0 : w2.cell? ⟨w.heap.size, 0, none⟩ = some (.int .i64 (n : Int)) := (blk_cell hbox 0).trans rfl
  have hu := Tryz.underlying27
  have hs1 : (w.alloc (.cells #[.int .i64 (n : Int)] 2)).heap.size = w.heap.size + 1 := by simp
  rw [hw2] at hc0
  clear hw2 hbox hres hbel hz
  go_enter Tryz.func12, Tryz.ntmps12
  go_wp2_with (go_at_call 24; rw [← HW2.out]; (with_reducible refine HP.out.mono ?_); rintro e w5 ⟨vH, vM, rfl, hH, hM, hg⟩; obtain ⟨AH, cH, eH⟩ := Kd.R_slice hH; rw [List.length_map, List.length_range] at eH; subst eH; obtain ⟨AM, cM, eM⟩ := Kd.R_slice hM; subst eM; have HH := Aside0.mk hH; have HM := Aside0.mk hM; have HG := Aside0.mk hg; have HR5 := Aside0.mk (blk_grown HRS.out hg (by simp)); have hr0 := (blk_cell HR5.out 0).trans rfl; have hr1 := (blk_cell HR5.out 1).trans rfl; have hf0 := blk_frozen HR5.out 0; have hf1 := blk_frozen HR5.out 1; clear hH hM hg)
  have hans := mk_answer HR5.out HH.out HM.out HG.out HBL.out (fun k h => by cases h) (by omega)
  refine bodyPost_ret (results_ct rfl _ _ (w.heap.size + 1) 27 #[.slice AH n cH, .slice AM (ascI n).length cM] (0, 0) _ rfl hans.1 Tryz.underlying27 rfl (by kernel_rfl)) rfl ?_
  exact ⟨_, _, rfl, hans.2.1, hans.2.2.1, hans.2.2.2⟩
set_option maxHeartbeats 4000000 in
set_option maxRecDepth 100000 in
theorem lru_calls (w : World) :
    Calls Tryz.prog 10 #[.int .i64 2] w fun e w' => ∃ vH vM : Value, e = .returned (.tuple #[.agg #[vH, vM], .bool true]) ∧ Kd.R (Kd.slice 2 (Kd.int .i64)) 25 w' w.heap.size (fun _ => True) vH ((List.range 2).map fun (i : Nat) => [(i : Int), 1 - (i : Int)]) ∧ Kd.R (Kd.int .i64) 2 w' w.heap.size (fun _ => True) vM [1, 0] ∧ Below w.heap.size w w' := by
  obtain ⟨w2, hw2⟩ : ∃ w2, w2 = (w.alloc (.cells #[.int .i64 2] 2)).alloc (.cells #[.slice none 0 0, .slice none 0 0] 27) := ⟨_, rfl⟩
  have hz : w2.heap.size = w.heap.size + 2 := by rw [hw2]; simp
  have hbox : w2.heap[w.heap.size]? = some (.cells #[.int .i64 2] 2 (0, 0)) := by rw [hw2]; exact blk_alloc (blk_new w _) _
  have hres : w2.heap[w.heap.size + 1]? = some (.cells #[.slice none 0 0, .slice none 0 0] 27 (0, 0)) := by rw [hw2]; simpa using blk_new (w.alloc (.cells #[.int .i64 2] 2)) (.cells #[.slice none 0 0, .slice none 0 0] 27)
  have hbel : Below w.heap.size w w2 := by rw [hw2]; exact below_alloc (below_alloc (Below.refl _ _) _) _
  have HP := Aside0.mk (show Calls Tryz.prog 24 #[.int .i64 2, .func (.func 26) #[] #[.pointer (some ⟨w.heap.size, 0, none⟩)], .func (.func 28) #[] #[.pointer (some ⟨w.heap.size, 0, none⟩)]] w2 _ from policyOf_calls 26 28 #[.pointer (some ⟨w.heap.size, 0, none⟩)] #[.pointer (some ⟨w.heap.size, 0, none⟩)] (enters_of Tryz.func26 (by kernel_rfl) rfl) (enters_of Tryz.func28 (by kernel_rfl) rfl) 2 (by decide) (by decide) none (fun (i : Nat) => [(i : Int), 1 - (i : Int)]) [1, 0] w2 (fun k h => by cases h) (fun _ W => W.heap[w.heap.size]? = some (.cells #[.int .i64 2] 2 (0, 0)))
    (fun i W W' h k => (k _ (by omega)).trans h) hbox
    (fun i W hi hI hs => (lru1 i hi w.heap.size W hI).mono fun e W' ⟨v, he, hr, hb⟩ => ⟨v, he, hr, grown_of_below hb none, blk_below hI hb⟩)
    (fun W hI hs => (lru2 w.heap.size W hI).mono fun e W' ⟨v, he, hr, hb⟩ => ⟨v, he, hr, grown_of_below hb none, blk_below hI hb⟩))
  have HW2 := Aside0.mk hw2
  have HBX := Aside0.mk hbox
  have HRS := Aside0.mk hres
  have HBL := Aside0.mk hbel
  have HZ := Aside0.mk hz
  have hc0 : w2.cell? ⟨w.heap.size, 0, none⟩ = some (.int .i64 2) := (blk_cell hbox 0).trans rfl
  have hu := Tryz.underlying27
  have hs1 : (w.alloc (.cells #[.int .i64 2] 2)).heap.size = w.heap.size + 1 := by simp
  rw [hw2] at hc0
  clear hw2 hbox hres hbel hz
  go_enter Tryz.func10, Tryz.ntmps10
  go_wp2_with (go_at_call 24; rw [← HW2.out]; (with_reducible refine HP.out.mono ?_); rintro e w5 ⟨vH, vM, rfl, hH, hM, hg⟩; obtain ⟨AH, cH, eH⟩ := Kd.R_slice hH; rw [List.length_map, List.length_range] at eH; subst eH; obtain ⟨AM, cM, eM⟩ := Kd.R_slice hM; replace eM : vM = .slice AM 2 cM := eM; subst eM; have HH := Aside0.mk hH; have HM := Aside0.mk hM; have HG := Aside0.mk hg; have HR5 := Aside0.mk (blk_grown HRS.out hg (by simp)); have hr0 := (blk_cell HR5.out 0).trans rfl; have hr1 := (blk_cell HR5.out 1).trans rfl; have hf0 := blk_frozen HR5.out 0; have hf1 := blk_frozen HR5.out 1; clear hH hM hg)
  have hans := mk_answer HR5.out HH.out HM.out HG.out HBL.out (fun k h => by cases h) (by omega)
  refine bodyPost_ret (results_ct rfl _ _ (w.heap.size + 1) 27 #[.slice AH 2 cH, .slice AM 2 cM] (0, 0) _ rfl hans.1 Tryz.underlying27 rfl (by kernel_rfl)) rfl ?_
  exact ⟨_, _, rfl, hans.2.1, hans.2.2.1, hans.2.2.2⟩
end Go.Proofs.YthaipkhgemachaaGreatDoor.Q
