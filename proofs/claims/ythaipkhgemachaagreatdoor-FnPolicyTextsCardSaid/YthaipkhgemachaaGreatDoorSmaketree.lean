/- The tree policy of two ways; no conditions beyond those written. -/
import Derived.Test.YthaipkhgemachaaGreatDoorQx0
import Derived.Test.YthaipkhgemachaaGreatDoorSmakers
import Derived.Test.YthaipkhgemachaaGreatDoorSmovedk
import Derived.Test.YthaipkhgemachaaGreatDoorSpolicyOf
import Derived.Laws.EntriesVeiled
namespace Go.Proofs.YthaipkhgemachaaGreatDoor.Q
open Go.RowKit Go.Proofs.YthaipkhgemachaaGreatDoorW.PrintWords Go.Proofs.YthaipkhgemachaaGreatDoorW.PrintLast Go.Proofs.YthaipkhgemachaaGreatDoorW.PrintMore
attribute [local go_sem] max2_int min2_int max_two min_two max_three min_three max_four min_four   -- for this text's walks alone
set_option linter.unusedVariables false
set_option linter.unusedSimpArgs false

theorem xor2 (i : Nat) (hi : i < 2) : Go.bits .xor .i64 (i : Int) 1 = 1 - (i : Int) := by
  match i, hi with
  | 0, _ => decide
  | 1, _ => decide
theorem lit2_R (W : World) (x y : Int) : Kd.R (Kd.int .i64) 2 (W.alloc (.cells #[.int .i64 x, .int .i64 y] 2)) W.heap.size (fun _ => True) (.slice (some ⟨W.heap.size, 0, none⟩) 2 2) [x, y] :=
  nums_R (xs := [x, y]) (own_of_cells (m := 2) (c := 2) (cur := #[.int .i64 x, .int .i64 y]) (heap_alloc_new W _) rfl rfl (Nat.le_refl _) (by decide) (by decide)) (fun _ _ => trivial)
set_option maxHeartbeats 4000000 in
set_option maxRecDepth 100000 in
theorem tree1 (i : Nat) (hi : i < 2) (b : Nat) (w : World) (hb : w.heap[b]? = some (.cells #[.int .i64 2] 2 (0, 0))) :
    Calls Tryz.prog 29 (#[.int .i64 (i : Int)] ++ #[.pointer (some ⟨b, 0, none⟩)]) w fun e w' => ∃ v, e = .returned v ∧ Kd.R (Kd.int .i64) 2 w' w.heap.size (fun _ => True) v [(i : Int), 1 - (i : Int)] ∧ Below w.heap.size w w' := by
  have hc : w.cell? ⟨b, 0, none⟩ = some (.int .i64 2) := (blk_cell hb 0).trans rfl
  have hx := xor2 i hi
  clear hb hi
  go_enter Tryz.func29, Tryz.ntmps29
  go_wp2_with (fail)
  go_ret
  exact ⟨_, rfl, lit2_R _ _ _, below_alloc (Below.refl _ _) _⟩
set_option maxHeartbeats 4000000 in
set_option maxRecDepth 100000 in
theorem tree2 (b bf : Nat) (t : TypeId) (w : World) (hb : w.heap[b]? = some (.cells #[.int .i64 2] 2 (0, 0))) (hbf : w.heap[bf]? = some (.cells #[.func (.func 29) #[] #[.pointer (some ⟨b, 0, none⟩)]] t (0, 0))) :
    Calls Tryz.prog 30 #[.pointer (some ⟨bf, 0, none⟩), .pointer (some ⟨b, 0, none⟩)] w fun e w' => ∃ v, e = .returned v ∧ Kd.R (Kd.int .i64) 2 w' w.heap.size (fun _ => True) v [1, 0] ∧ Below w.heap.size w w' := by
  have hc : w.cell? ⟨b, 0, none⟩ = some (.int .i64 2) := (blk_cell hb 0).trans rfl
  have hcf : w.cell? ⟨bf, 0, none⟩ = some (.func (.func 29) #[] #[.pointer (some ⟨b, 0, none⟩)]) := (blk_cell hbf 0).trans rfl
  have hm : Calls Tryz.prog 29 (#[.int .i64 1] ++ #[.pointer (some ⟨b, 0, none⟩)]) w fun e w' => ∃ v, e = .returned v ∧ Kd.R (Kd.int .i64) 2 w' w.heap.size (fun _ => True) v [1, 0] ∧ Below w.heap.size w w' := tree1 1 (by decide) b w hb
  have HM := Aside0.mk hm
  have eg : ∀ args w, (callFunc 29 args).run Tryz.prog w = .ok (.enter 29 args) w := enters_of Tryz.func29 (by kernel_rfl) rfl
  have hw : IntKind.i64.wrap 1 = 1 := by decide
  clear hb hbf hm
  go_enter Tryz.func30, Tryz.ntmps30
  go_wp2_with (go_at_fn 29; refine HM.out.mono ?_; rintro e w2 ⟨v2, rfl, ho, hb⟩; have HO := Aside0.mk ho; have HB := Aside0.mk hb; clear ho hb)
  go_ret
  exact ⟨_, rfl, HO.out, HB.out⟩
set_option maxHeartbeats 4000000 in
set_option maxRecDepth 100000 in
theorem tree_calls (w : World) :
    Calls Tryz.prog 11 #[.int .i64 2] w fun e w' => ∃ vH vM : Value, e = .returned (.tuple #[.agg #[vH, vM], .bool true]) ∧ Kd.R (Kd.slice 2 (Kd.int .i64)) 25 w' w.heap.size (fun _ => True) vH ((List.range 2).map fun (i : Nat) => [(i : Int), 1 - (i : Int)]) ∧ Kd.R (Kd.int .i64) 2 w' w.heap.size (fun _ => True) vM [1, 0] ∧ Below w.heap.size w w' := by
  have hu := Tryz.underlying27
  have hs1 : (w.alloc (.cells #[.int .i64 2] 2)).heap.size = w.heap.size + 1 := by simp
  obtain ⟨w2, hw2⟩ : ∃ w2, w2 = (w.alloc (.cells #[.int .i64 2] 2)).alloc (.cells #[.slice none 0 0, .slice none 0 0] 27) := ⟨_, rfl⟩
  have hz : w2.heap.size = w.heap.size + 1 + 1 := by rw [hw2]; simp
  have hbox : w2.heap[w.heap.size]? = some (.cells #[.int .i64 2] 2 (0, 0)) := by rw [hw2]; exact blk_alloc (blk_new w _) _
  have hres : w2.heap[w.heap.size + 1]? = some (.cells #[.slice none 0 0, .slice none 0 0] 27 (0, 0)) := by rw [hw2]; simpa using blk_new (w.alloc (.cells #[.int .i64 2] 2)) (.cells #[.slice none 0 0, .slice none 0 0] 27)
  have hbel : Below w.heap.size w w2 := by rw [hw2]; exact below_alloc (below_alloc (Below.refl _ _) _) _
  obtain ⟨cl, hcl⟩ : ∃ cl : Value, cl = .func (.func 29) #[] #[.pointer (some ⟨w.heap.size, 0, none⟩)] := ⟨_, rfl⟩
  obtain ⟨w4, hw4⟩ : ∃ w4, w4 = w2.alloc (.cells #[cl] 52) := ⟨_, rfl⟩
  have hb4 : w4.heap[w.heap.size]? = some (.cells #[.int .i64 2] 2 (0, 0)) := by rw [hw4]; exact blk_alloc hbox _
  have hr4 : w4.heap[w.heap.size + 1]? = some (.cells #[.slice none 0 0, .slice none 0 0] 27 (0, 0)) := by rw [hw4]; exact blk_alloc hres _
  have hf4 : w4.heap[w.heap.size + 1 + 1]? = some (.cells #[cl] 52 (0, 0)) := by rw [hw4, ← hz]; exact blk_new w2 _
  have hbel4 : Below w.heap.size w w4 := by rw [hw4]; exact below_alloc hbel _
  have hz4 : w4.heap.size = w.heap.size + 1 + 1 + 1 := by rw [hw4]; simp [hz]
  have hc0 : w2.cell? ⟨w.heap.size, 0, none⟩ = some (.int .i64 2) := (blk_cell hbox 0).trans rfl
  have HP := Aside0.mk (show Calls Tryz.prog 24 #[.int .i64 2, cl, .func (.func 30) #[] #[.pointer (some ⟨w.heap.size + 1 + 1, 0, none⟩), .pointer (some ⟨w.heap.size, 0, none⟩)]] w4 _ from by
    rw [hcl] at hf4 ⊢
    exact policyOf_calls 29 30 #[.pointer (some ⟨w.heap.size, 0, none⟩)] #[.pointer (some ⟨w.heap.size + 1 + 1, 0, none⟩), .pointer (some ⟨w.heap.size, 0, none⟩)] (enters_of Tryz.func29 (by kernel_rfl) rfl) (enters_of Tryz.func30 (by kernel_rfl) rfl) 2 (by decide) (by decide) none (fun (i : Nat) => [(i : Int), 1 - (i : Int)]) [1, 0] w4 (fun k h => by cases h) (fun _ W => W.heap[w.heap.size]? = some (.cells #[.int .i64 2] 2 (0, 0)) ∧ W.heap[w.heap.size + 1 + 1]? = some (.cells #[.func (.func 29) #[] #[.pointer (some ⟨w.heap.size, 0, none⟩)]] 52 (0, 0)))
      (fun i W W' h k => ⟨(k _ (by omega)).trans h.1, (k _ (by omega)).trans h.2⟩) ⟨hb4, hf4⟩
      (fun i W hi hI hs => (tree1 i hi w.heap.size W hI.1).mono fun e W' ⟨v, he, hr, hb⟩ => ⟨v, he, hr, grown_of_below hb none, blk_below hI.1 hb, blk_below hI.2 hb⟩)
      (fun W hI hs => (tree2 w.heap.size (w.heap.size + 1 + 1) _ W hI.1 hI.2).mono fun e W' ⟨v, he, hr, hb⟩ => ⟨v, he, hr, grown_of_below hb none, blk_below hI.1 hb, blk_below hI.2 hb⟩))
  have HRS := Aside0.mk hr4
  have HBL := Aside0.mk hbel4
  have HB4 := Aside0.mk hb4
  have HF4 := Aside0.mk hf4
  have HW4 := Aside0.mk hw4
  have HC := Aside0.mk hcl
  rw [hw2] at hc0
  have hw5 : (((w.alloc (.cells #[.int .i64 2] 2)).alloc (.cells #[.slice none 0 0, .slice none 0 0] 27)).alloc (.cells #[.func (.func 29) #[] #[.pointer (some ⟨w.heap.size, 0, none⟩)]] 52)) = w4 := by rw [hw4, hw2, hcl]
  have HW5 := Aside0.mk hw5
  clear hw2 hz hbox hres hbel hw4 hb4 hr4 hf4 hbel4 hz4 hcl hw5
  go_enter Tryz.func11, Tryz.ntmps11
  go_upto_region 4 with (fail)
  rw [HW5.out]
  have hd0 : w4.cell? ⟨w.heap.size, 0, none⟩ = some (.int .i64 2) := (blk_cell HB4.out 0).trans rfl
  have hd1 : w4.cell? ⟨w.heap.size + 1 + 1, 0, none⟩ = some cl := (blk_cell HF4.out 0).trans rfl
  clear hc0
  go_wp2_with (go_at_call 24; (with_reducible refine HP.out.mono ?_); rintro e w5 ⟨vH, vM, rfl, hH, hM, hg⟩; obtain ⟨AH, cH, eH⟩ := Kd.R_slice hH; rw [List.length_map, List.length_range] at eH; subst eH; obtain ⟨AM, cM, eM⟩ := Kd.R_slice hM; replace eM : vM = .slice AM 2 cM := eM; subst eM; have HH := Aside0.mk hH; have HM := Aside0.mk hM; have HG := Aside0.mk hg; have HR5 := Aside0.mk (blk_grown HRS.out hg (by simp)); have hr0 := (blk_cell HR5.out 0).trans rfl; have hr1 := (blk_cell HR5.out 1).trans rfl; have hf0 := blk_frozen HR5.out 0; have hf1 := blk_frozen HR5.out 1; clear hH hM hg)
  have hans := mk_answer HR5.out HH.out HM.out HG.out HBL.out (fun k h => by cases h) (by omega)
  refine bodyPost_ret (results_ct rfl _ _ (w.heap.size + 1) 27 #[.slice AH 2 cH, .slice AM 2 cM] (0, 0) _ rfl hans.1 Tryz.underlying27 rfl (by kernel_rfl)) rfl ?_
  exact ⟨_, _, rfl, hans.2.1, hans.2.2.1, hans.2.2.2⟩
end Go.Proofs.YthaipkhgemachaaGreatDoor.Q
