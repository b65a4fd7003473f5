/- impl.emptyTable answers a table that maps nothing; no conditions. -/
import Derived.Test.YteobbgofbedgdaaQx0
import Derived.Test.YteobbgofbedgdaaSrepeatentry
namespace Go.Proofs.Yteobbgofbedgdaa.Q
open Go.RowKit Go.Proofs.YteobbgofbedgdaaW.PrintWords Go.Proofs.YteobbgofbedgdaaW.PrintLast Go.Proofs.YteobbgofbedgdaaW.PrintMore
attribute [local go_sem] max2_int min2_int max_two min_two max_three min_three max_four min_four   -- for this text's walks alone
set_option linter.unusedVariables false
set_option linter.unusedSimpArgs false

def impl_emptyTable.f : Option (List S104) := some (List.replicate 8 ⟨-1, false, false, false⟩)
set_option maxHeartbeats 4000000 in
set_option maxRecDepth 100000 in
theorem impl_emptyTable.calls (r : List S104) (w : World) (h : impl_emptyTable.f = some r) :
    Calls Try.prog 53 #[] w fun e w' => ∃ v0_ : Value, e = .returned (v0_) ∧ Kd.R k104 104 w' w.heap.size (fun _ => True) v0_ r ∧ Below w.heap.size w w' := by
  obtain rfl := Option.some.inj h
  clear h
  have HRP := Aside0.mk (repeat8 w.heap.size 1 104)
  go_enter Try.func53, Try.ntmps53
  go_wp2_with (go_at_call 99; (refine (HRP.out _ ?_).mono ?_); (focus (exact blk_new _ _)); rintro e w2 ⟨rfl, hb2, hg2⟩)
  go_ret
  have hg3 : w2.heap[w.heap.size + 1]? = some (.cells (rowE 8).toArray 104) := by rw [← hg2, World.size_alloc]
  refine ⟨_, rfl, ⟨fun _ _ => trivial, rowE 8, ⟨rfl, .inr ⟨w.heap.size + 1, 8, _, rfl, by omega, hg3, by decide, by decide, rfl, rfl⟩⟩, ?_⟩, below_step (below_alloc (Below.refl _ _) _) hb2⟩
  · have hm : ∀ W base ok, k104.M W base ok ⟨-1, false, false, false⟩ [.int .i64 (-1), .bool false, .bool false, .bool false] := fun W base ok => ⟨[.int .i64 (-1)], [.bool false, .bool false, .bool false], rfl, rfl, [.bool false], [.bool false, .bool false], rfl, rfl, [.bool false], [.bool false], rfl, rfl, rfl⟩
    exact Reps.c4 (hm _ _ _) (Reps.c4 (hm _ _ _) (Reps.c4 (hm _ _ _) (Reps.c4 (hm _ _ _) (Reps.c4 (hm _ _ _) (Reps.c4 (hm _ _ _) (Reps.c4 (hm _ _ _) (Reps.c4 (hm _ _ _) (Reps.none _ _))))))))
end Go.Proofs.Yteobbgofbedgdaa.Q
