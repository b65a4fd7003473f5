/- One number put ahead of a row, by the library's Concat; no other conditions. -/
import Derived.Test.YteobbgofbedgdaaQx0
import Derived.Test.YteobbgofbedgdaaHconcat
import Derived.Test.YteobbgofbedgdaaScutdef
namespace Go.Proofs.Yteobbgofbedgdaa.Q
open Go.RowKit Go.Proofs.YteobbgofbedgdaaW.PrintWords Go.Proofs.YteobbgofbedgdaaW.PrintLast Go.Proofs.YteobbgofbedgdaaW.PrintMore
attribute [local go_sem] max2_int min2_int max_two min_two max_three min_three max_four min_four   -- for this text's walks alone
set_option linter.unusedVariables false
set_option linter.unusedSimpArgs false

theorem cat_call (x : Int) (X : List Int) (A8 : Option Addr) (c8 : Nat) (W : World) (g gx : Nat) (h1 : W.heap[g]? = some (.cells #[.slice (some ⟨gx, 0, none⟩) 1 1, .slice A8 X.length c8] 24 (0, 0))) (h2 : W.heap[gx]? = some (.cells #[.int .i64 x] 2 (0, 0))) (hX : Kd.C (Kd.int .i64) W A8 X.length X) (hc : X.length ≤ c8) (hl : X.length ≤ 100) :
    Calls Try.prog 68 #[.slice (some ⟨g, 0, none⟩) 2 2] W fun e w' => ∃ v0_ : Value, e = .returned v0_ ∧ Kd.R (Kd.int .i64) 2 w' W.heap.size (fun _ => True) v0_ (x :: X) ∧ Below W.heap.size W w' := by
  have hx1 : Kd.C (Kd.int .i64) W (some ⟨gx, 0, none⟩) [x].length [x] := by
    refine ⟨rfl, by simp, fun _ => ⟨⟨gx, 0, none⟩, rfl, fun j p hj => ?_⟩⟩
    match j, hj with
    | 0, hj =>
      obtain rfl : x = p := by simpa using hj
      refine ⟨[.int .i64 x], rfl, rfl, fun i u hu => ?_⟩
      match i, hu with
      | 0, hu =>
        obtain rfl : Value.int .i64 x = u := by simpa using hu
        rw [show 0 * (Kd.int .i64).sz + 0 = 0 by rw [Nat.zero_mul], show (⟨gx, 0, none⟩ : Addr).add 0 = ⟨gx, 0, none⟩ from rfl, blk_cell h2]; rfl
  have hrows := two_rows (x := [x]) (y := X) (Ax := some ⟨gx, 0, none⟩) (cx := 1) h1 hx1 (Nat.le_refl _) hX hc
  exact slices_Concat_int64_int64.calls (some ⟨g, 0, none⟩) 2 [[x], X] (x :: X) W hrows (Nat.le_refl _) (by unfold slices_Concat_int64_int64.f; rw [if_pos (by simp; omega)]; simp)
end Go.Proofs.Yteobbgofbedgdaa.Q
