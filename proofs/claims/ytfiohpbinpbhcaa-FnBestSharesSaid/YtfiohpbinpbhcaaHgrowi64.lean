/- The library's slices.Grow over int64, of the nil slice: room of one's own; no conditions beyond those written. -/
import Derived.Test.YtfiohpbinpbhcaaQx0
import Derived.Test.YtfiohpbinpbhcaaSbase
import Derived.Test.YtfiohpbinpbhcaaSown
import Derived.Lib.SliceRun
import Derived.Lib.AppendZerosOnto
namespace Go.Proofs.Ytfiohpbinpbhcaa.Q
open Go.RowKit Go.Proofs.YtfiohpbinpbhcaaW.PrintWords Go.Proofs.YtfiohpbinpbhcaaW.PrintLast Go.Proofs.YtfiohpbinpbhcaaW.PrintMore
attribute [local go_sem] max2_int min2_int max_two min_two max_three min_three max_four min_four   -- for this text's walks alone
set_option linter.unusedVariables false
set_option linter.unusedSimpArgs false

def slices_Grow_int64_int64.f (l0 : List Int) (a1 : Int) : Option (List Int) := if l0 = [] ∧ 0 ≤ a1 ∧ a1 ≤ 1000000 then some [] else none
set_option maxHeartbeats 4000000 in
set_option maxRecDepth 100000 in
theorem slices_Grow_zero (w : World) :
    Calls Try.prog 81 #[.slice none 0 0, .int .i64 0] w fun e w' => ∃ v0_ : Value, e = .returned v0_ ∧ Kd.R (Kd.int .i64) 2 w' w.heap.size (fun _ => True) v0_ [] ∧ Below w.heap.size w w' := by
  go_enter Try.func81, Try.ntmps81
  go_wp2
  go_ret
  exact ⟨_, rfl, Kd.R_nil _ _ _ _ _, Below.refl _ _⟩
set_option maxHeartbeats 4000000 in
set_option maxRecDepth 100000 in
theorem slices_Grow_nil (n : Nat) (hn : n ≤ 1000000) (w : World) :
    Calls Try.prog 81 #[.slice none 0 0, .int .i64 n] w fun e w' => ∃ v0_ : Value, e = .returned v0_ ∧ Kd.R (Kd.int .i64) 2 w' w.heap.size (fun _ => True) v0_ [] ∧ Below w.heap.size w w' := by
  cases n with
  | zero => exact slices_Grow_zero w
  | succ n =>
    obtain ⟨i, hi, hz, hs, hb⟩ := info_parts info2
    have hold : (Builtin.firstCells i.size 0 (.slice none 0 0)).run Try.prog w.drew = .ok (([] : List Value).toArray) w.drew := run_firstCells_none w.drew i.size 0 0 0
    have hrz : ∀ ty, (Builtin.append_ #[22, 3] ty #[.slice none 0 0, .int .i64 ((n + 1 : Nat) : Int)]).run Try.prog w = _ := fun ty => Go.Lib.run_append_grow_zeros w 22 3 ty 2 i (.int .i64 0) .i64 .i64 Try.underlying22 rfl hi hz none 0 0 [] hold (n + 1) (by omega) (by omega) (by omega) (by omega) (by rw [hb]; omega) (growslice_fits (by omega) (by rw [hb]; omega))
    obtain ⟨G, hG⟩ : ∃ G, G = grownCap w (0 + (n + 1)) 0 2 := ⟨_, rfl⟩
    have hG1 : 0 + (n + 1) ≤ grownCap w (0 + (n + 1)) 0 2 := grownCap_ge w _ _ _
    have hG2 : grownCap w (0 + (n + 1)) 0 2 ≤ maxLen := grownCap_le_maxLen w _ 0 2 (by unfold maxLen; omega)
    rw [← hG] at hrz hG1 hG2
    have hm : G ≤ 9223372036854775807 := by unfold maxLen at hG2; omega
    have hp : (0 : Int) < ((n + 1 : Nat) : Int) := by omega
    have hw : wrap64 ((n + 1 : Nat) : Int) = ((n + 1 : Nat) : Int) := wrap64_id (by omega) (by omega)
    have hw0 : wrap64 0 = 0 := wrap64_id (by omega) (by omega)
    have hneg : ¬ ((n + 1 : Nat) : Int) < 0 := by omega
    have HG := Aside0.mk (And.intro hG1 hG2)
    clear hold hG
    obtain ⟨N, hN⟩ : ∃ N, N = n + 1 := ⟨_, rfl⟩
    rw [← hN] at hrz hp hw hneg HG
    rw [← hN]
    clear hN hG1 hG2
    have hrz2 : ∀ ty, (Builtin.append_ #[22, 3] ty #[.slice none 0 0, .int .i64 (wrap64 (N : Int))]).run Try.prog w = .ok (.slice (some ⟨w.heap.size, 0, none⟩) (0 + N) G) (w.drew.alloc (.cells (([] : List Value).toArray ++ Builtin.zeroCells (Value.int .i64 0).cells N ++ Builtin.zeroCells (Value.int .i64 0).cells (G - (0 + N))) 2)) := by rw [hw]; exact hrz
    have hp2 : 0 < wrap64 (N : Int) := by rw [hw]; exact hp
    clear hrz hw
    go_enter Try.func81, Try.ntmps81
    go_wp2_with (at_builtin; refine Go.Lib.wpList_append_run _ rfl _ _ _ _ rfl _ _ rfl rfl _ _ (hrz2 _) ?_)
    go_ret
    have ho : ((w.alloc (.cells (Builtin.zeroCells #[Value.int .i64 0] N ++ Builtin.zeroCells #[Value.int .i64 0] (G - N)) 2)).drew).ownsRow w.heap.size 2 1 (.slice (some ⟨w.heap.size, 0, none⟩) 0 G) 0 (nums .i64 []) := by
      refine ⟨rfl, .inr ⟨w.heap.size, G, _, rfl, Nat.le_refl _, blk_drew (blk_new w _), Nat.zero_le _, HG.out.2, ?_, rfl⟩⟩
      have h1 := HG.out.1
      rw [Array.size_append, size_zeroCells, size_zeroCells]
      show N * 1 + (G - N) * 1 = G * 1
      omega
    exact ⟨_, rfl, R_of_own (xs := []) ho, below_drew (below_alloc (Below.refl _ _) _)⟩
theorem slices_Grow_int64_int64.calls (A0 : Option Addr) (c0 : Nat) (l0 : List Int) (a1 : Int) (r : List Int) (w : World) (hA : A0 = none ∧ c0 = 0) (h : slices_Grow_int64_int64.f l0 a1 = some r) :
    Calls Try.prog 81 #[.slice A0 l0.length c0, .int .i64 a1] w fun e w' => ∃ v0_ : Value, e = .returned v0_ ∧ Kd.R (Kd.int .i64) 2 w' w.heap.size (fun _ => True) v0_ r ∧ Below w.heap.size w w' := by
  unfold slices_Grow_int64_int64.f at h
  split at h
  · rename_i hc
    obtain rfl := Option.some.inj h
    obtain ⟨rfl, rfl⟩ := hA
    obtain ⟨rfl, h0, h1⟩ := hc
    obtain ⟨n, rfl⟩ : ∃ n : Nat, a1 = (n : Int) := ⟨a1.toNat, by omega⟩
    exact slices_Grow_nil n (by omega) w
  · cases h
end Go.Proofs.Ytfiohpbinpbhcaa.Q
