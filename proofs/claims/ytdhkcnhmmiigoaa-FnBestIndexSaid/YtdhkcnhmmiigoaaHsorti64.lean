/- The library's slices.Sort over int64: the row that came in comes back sorted; it is short enough for memory. -/
import Derived.Test.YtdhkcnhmmiigoaaQx0
import Derived.Test.YtdhkcnhmmiigoaaSupto
import Derived.Sort.OwnSortedInts
import Derived.Test.YtdhkcnhmmiigoaaShelf
namespace Go.Proofs.Ytdhkcnhmmiigoaa.Q
open Go.RowKit Go.Proofs.YtdhkcnhmmiigoaaW.PrintWords Go.Proofs.YtdhkcnhmmiigoaaW.PrintLast Go.Proofs.YtdhkcnhmmiigoaaW.PrintMore
attribute [local go_sem] max2_int min2_int max_two min_two max_three min_three max_four min_four   -- for this text's walks alone
set_option linter.unusedVariables false
set_option linter.unusedSimpArgs false

open Go.Sort Go.ChangeShapes Go.WideShapes Go.Shelf
def slices_Sort_int64_int64.f (l0 : List Int) : Option (List Int) := if l0.length ≤ 17592186044416 then some (sortL l0) else none
set_option maxHeartbeats 1000000 in
theorem slices_Sort_int64_int64.calls (P0_ : Nat → Prop) (u9000_ : Value) (l0 : List Int) (r : List Int) (w0 w : World) (hB : Below w0.heap.size w0 w) (ho0 : Kd.R (Kd.int .i64) 2 w w0.heap.size P0_ u9000_ l0) (h : slices_Sort_int64_int64.f l0 = some r) :
    Calls Try.prog 87 #[u9000_] w fun e w' => e = .returned (.tuple #[]) ∧ Kd.R (Kd.int .i64) 2 w' w0.heap.size (fun k_ => (P0_ k_ ∨ w.heap.size ≤ k_)) u9000_ r ∧ Below w0.heap.size w0 w' ∧ Kept w w' (fun k_ => P0_ k_) := by
  unfold slices_Sort_int64_int64.f at h
  split at h
  · rename_i hlen
    cases h
    have hown := own_of_R ho0
    have hsl : (sortL l0).length = l0.length := List.length_mergeSort _
    rcases hown.2 with ⟨rfl, hz⟩ | ⟨g, cap, cur, rfl, hbase, hgb, r1, r2, r3, r4⟩
    · have : l0 = [] := List.eq_nil_of_length_eq_zero hz
      subst this
      refine (Try.slices_Sort_int_none none 0 w).mono ?_
      rintro e w' ⟨rfl, rfl⟩
      exact ⟨rfl, by simpa [sortL] using Kd.R_mono ho0 (fun _ hk => .inl hk), hB, Kept.refl _ _⟩
    · have hH : Holds (Value.int .i64) w g 0 l0.toArray := holds_of_blockI hgb (by simpa using r4)
      have hgl : g < w.heap.size := (Array.getElem?_eq_some_iff.1 hgb).1
      refine (Try.slices_Sort_int g 0 cap l0 w hH hgl (by omega)).mono ?_
      rintro e w' ⟨rfl, nn, os, rfl⟩
      have hnew := ownsRow_sortedI (n := nn) (os := os) (ts := sortL l0) hsl hbase hgb r1 r2 r3
      have hgrow := grownBy_sortedI (w := w) (g := g) (n := nn) (os := os) (sortL l0).toArray
      refine ⟨rfl, ⟨fun k hk => .inl (ho0.1 k hk), (R_of_own ?_).2⟩, hB.grown hgrow hB.size (fun j hj => by cases hj; exact hbase), ⟨hgrow.size, fun i hi hn => hgrow.block i hi (fun e => hn (ho0.1 i ?_))⟩⟩
      · rw [hsl]; exact hnew
      · cases e; rfl
  · exact absurd h (by simp)
end Go.Proofs.Ytdhkcnhmmiigoaa.Q
