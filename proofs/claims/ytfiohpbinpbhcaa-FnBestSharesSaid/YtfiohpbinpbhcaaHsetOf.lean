/- impl.setOf answers the sorted numbers of a list, each once; the list is short enough for memory. -/
import Derived.Test.YtfiohpbinpbhcaaQx0
import Derived.Test.YtfiohpbinpbhcaaSown
import Derived.Test.YtfiohpbinpbhcaaSseqi64
import Derived.Test.YtfiohpbinpbhcaaSidxf
import Derived.Sort.OwnSortedInts
import Derived.Test.YtfiohpbinpbhcaaShelf
namespace Go.Proofs.Ytfiohpbinpbhcaa.Q
open Go.RowKit Go.Proofs.YtfiohpbinpbhcaaW.PrintWords Go.Proofs.YtfiohpbinpbhcaaW.PrintLast Go.Proofs.YtfiohpbinpbhcaaW.PrintMore
attribute [local go_sem] max2_int min2_int max_two min_two max_three min_three max_four min_four   -- for this text's walks alone
set_option linter.unusedVariables false
set_option linter.unusedSimpArgs false

open Go.Sort
def impl_setOf.f (l0 : List Int) : Option (List Int) := if l0.length ≤ 17592186044416 then some (setL l0) else none
set_option maxHeartbeats 2000000 in
theorem impl_setOf.calls (A0 : Option Addr) (c0 : Nat) (l0 : List Int) (r : List Int) (w : World) (hr0 : Kd.C (Kd.int .i64) w A0 l0.length l0) (hc0 : l0.length ≤ c0) (h : impl_setOf.f l0 = some r) :
    Calls Try.prog 75 #[.slice A0 l0.length c0] w fun e w' => ∃ v0_ : Value, e = .returned (v0_) ∧ Kd.R (Kd.int .i64) 2 w' w.heap.size (fun _ => True) v0_ r ∧ Below w.heap.size w w' := by
  unfold impl_setOf.f at h
  by_cases hl : l0.length ≤ 17592186044416
  case neg => rw [if_neg hl] at h; cases h
  rw [if_pos hl] at h
  obtain rfl : setL l0 = r := Option.some.inj h
  clear h
  have hb0 : Below w.heap.size w (w.alloc (.cells #[.slice A0 l0.length c0] 22)) := (Below.refl w.heap.size w).alloc (Nat.le_refl _) _
  have HS := Aside0.mk (sorted_calls w.heap.size A0 c0 l0 hl (w.alloc (.cells #[.slice A0 l0.length c0] 22)) (by simp) (Kd.C_below hr0 hb0))
  have HB0 := Aside0.mk hb0
  have HV := Aside0.mk (values_calls A0 l0.length c0 w)
  have hsl : (sortL l0).length = l0.length := by unfold sortL; exact List.length_mergeSort _
  have HL := Aside0.mk hsl
  have HLen := Aside0.mk hl
  clear hr0 hc0 hb0 hl hsl
  obtain ⟨s, hs⟩ : ∃ s, s = sortL l0 := ⟨_, rfl⟩
  have e : setL l0 = Go.Lib.compact s := by rw [hs]; rfl
  rw [e]
  rw [← hs] at HS HL
  clear e hs
  go_enter Try.func75, Try.ntmps75
  go_wp2_with (first | (go_at_call 87; refine HV.out.mono ?_; rintro e w' ⟨rfl, rfl⟩) | (fail))
  refine HS.out.mono ?_
  rintro e W ⟨v, rfl, hrow, hb⟩
  have HB := Aside0.mk (HB0.out.trans (hb.mono (by simp)))
  rcases hrow.2 with ⟨rfl, hz⟩ | ⟨g, cap, cur, rfl, hbase, hgb, r1, r2, r3, r4⟩
  · have hzs : s = [] := List.eq_nil_of_length_eq_zero hz
    subst hzs
    clear hrow hb HS HV HB0
    go_wp2_with (go_at_call 85; refine (Try.slices_Compact_int_empty none 0 W).mono ?_; rintro e w' ⟨rfl, rfl⟩)
    go_ret
    exact ⟨.slice none 0 0, rfl, Kd.R_nil _ _ _ _ _, HB.out⟩
  · have hH : Holds (Value.int .i64) W g 0 s.toArray := holds_of_blockI hgb (by simpa using r4)
    have hlen := HL.out
    have hLen := HLen.out
    have hcl := compact_len s
    have HC := Aside0.mk (Try.slices_Compact_int g 0 cap s W hH (by omega) r1)
    have hbase0 : w.heap.size ≤ g := by simp at hbase; omega
    have HF : Aside0 (∀ q : Nat, (putRow (Value.int .i64) (Sort.ahead W q) g 0 (Go.Lib.compact s ++ List.replicate (s.length - (Go.Lib.compact s).length) 0).toArray).ownsRow w.heap.size 2 1 (.slice (some ⟨g, 0, none⟩) (Go.Lib.compact s).length cap) (Go.Lib.compact s).length ((Go.Lib.compact s).map (Value.int .i64))) := ⟨fun q => by
      have hx := heap_sortedI (n := q) (os := #[]) (Go.Lib.compact s ++ List.replicate (s.length - (Go.Lib.compact s).length) 0).toArray hgb
      rw [grow_empty] at hx
      refine ⟨by simp, .inr ⟨g, cap, _, rfl, hbase0, hx, by omega, r2, by simp [putCells, r3], ?_⟩⟩
      have ht := take_putCellsI cur (Go.Lib.compact s ++ List.replicate (s.length - (Go.Lib.compact s).length) 0) (by simp; omega)
      rw [Nat.mul_one]
      have ht2 := congrArg (List.take (Go.Lib.compact s).length) ht
      rw [List.take_take, Nat.min_eq_left (by simp), List.map_append, List.take_append_of_le_length (by simp)] at ht2
      rw [ht2, List.take_of_length_le (by simp)]⟩
    have HN := Aside0.mk hbase0
    clear hrow hH hgb r1 r2 r3 r4 hb HS HV HB0 hbase hbase0 hlen hLen hcl
    go_wp2_with (go_at_call 85; refine HC.out.mono ?_; rintro e w' ⟨rfl, q, rfl⟩)
    go_ret
    refine ⟨_, rfl, R_of_own (HF.out q), ?_⟩
    have hg := grownBy_sortedI (w := W) (g := g) (n := q) (os := #[]) (Go.Lib.compact s ++ List.replicate (s.length - (Go.Lib.compact s).length) 0).toArray
    rw [grow_empty] at hg
    exact HB.out.grown hg HB.out.size (fun j hj => by cases hj; exact HN.out)
end Go.Proofs.Ytfiohpbinpbhcaa.Q
