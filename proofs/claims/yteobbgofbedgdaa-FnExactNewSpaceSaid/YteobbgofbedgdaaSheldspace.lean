/- Spaces: marks read again, a space compared with itself; no conditions beyond those written. -/
import Derived.Test.YteobbgofbedgdaaQx0
import Derived.Test.YteobbgofbedgdaaQx1
import Derived.Test.YteobbgofbedgdaaQx2
import Derived.Test.YteobbgofbedgdaaSbase
import Derived.Test.YteobbgofbedgdaaSeqi
import Derived.Test.YteobbgofbedgdaaSmarkentries
import Derived.Test.YteobbgofbedgdaaSmarkentry
import Derived.Test.YteobbgofbedgdaaSmarks
import Derived.Test.YteobbgofbedgdaaSmarkspace
namespace Go.Proofs.Yteobbgofbedgdaa.Q
open Go.RowKit Go.Proofs.YteobbgofbedgdaaW.PrintWords Go.Proofs.YteobbgofbedgdaaW.PrintLast Go.Proofs.YteobbgofbedgdaaW.PrintMore
attribute [local go_sem] max2_int min2_int max_two min_two max_three min_three max_four min_four   -- for this text's walks alone
set_option linter.unusedVariables false
set_option linter.unusedSimpArgs false

theorem rowsE_at (X : List (List S104)) (i : Nat) (hi : i < X.length) : rd_L3 X (i : Int) = X[i] := by
  show X.getD ((i : Int)).toNat _ = _
  rw [Int.toNat_natCast, List.getD_eq_getElem?_getD, List.getElem?_eq_getElem hi]; rfl
theorem markRowsE_at (H : List (List S104)) (a : Int) (i : Nat) (hi : i < H.length) : rd_L3 (markRowsE H a) (i : Int) = upsE (a + (sumLenE (H.take i) : Int)) H[i].length := by
  show (markRowsE H a).getD i _ = _
  have e : H = H.take i ++ (H[i] :: H.drop (i + 1)) := by rw [← List.drop_eq_getElem_cons hi, List.take_append_drop]
  have e1 : (markRowsE (H.take i) a).length = i := by rw [markRowsE_length, List.length_take]; omega
  have e2 : markRowsE H a = markRowsE (H.take i) a ++ (upsE (a + (sumLenE (H.take i) : Int)) H[i].length :: markRowsE (H.drop (i + 1)) (a + (sumLenE (H.take i) : Int) + 4 * (H[i].length : Int))) := by
    have := markRowsE_append (H.take i) (H[i] :: H.drop (i + 1)) a
    rw [← e, markRowsE] at this
    exact this
  rw [e2, List.getD_eq_getElem?_getD, List.getElem?_append_right (by omega), e1, Nat.sub_self]
  rfl
theorem ev_heldRowsE (H : List (List S104)) (a : Int) (hH : H.length ≤ 1048576) (hin : ∀ y ∈ H, y.length ≤ 1048576) (ha : 0 ≤ a) (hs : a + (sumLenE H : Int) ≤ 1000000000000) : Ev (fun k => laws_heldEntrySS.f k (markRowsE H a) a) (a + (sumLenE H : Int)) := by
  unfold laws_heldEntrySS.f
  have e0 : a + (sumLenE (H.take 0) : Int) = a := by simp [sumLenE]
  have key := Ev.up (fun i k => laws_heldEntrySS.l0 k (markRowsE H a) (a + (sumLenE (H.take i) : Int)) (i : Int)) H.length (a + (sumLenE H : Int)) ?_ ?_
  · refine Ev.congr (fun k => ?_) key
    show _ = laws_heldEntrySS.l0 k (markRowsE H a) (a + (sumLenE (H.take 0) : Int)) ((0 : Nat) : Int)
    rw [e0]; rfl
  · apply Ev.succ
    simp only [laws_heldEntrySS.l0]
    rw [List.take_length]
    exact Ev.ite_neg (by rw [markRowsE_length]; omega) (Ev.now _)
  · intro i hi ih
    have hm := hin H[i] (List.getElem_mem hi)
    have h1 := sumLenE_take H i hi
    have h2 := sumLenE_le H (i + 1)
    apply Ev.succ
    simp only [laws_heldEntrySS.l0]
    rw [markRowsE_at H a i hi]
    refine Ev.ite_pos (by rw [markRowsE_length]; omega) (Ev.ite_pos (by omega) (Ev.bind (ev_heldEntryS _ _ (by omega) (by omega) (by omega)) (Ev.ite_neg (by omega) ?_)))
    rw [wrap64_succ (i := i) (by omega), show a + (sumLenE (H.take i) : Int) + 4 * (H[i].length : Int) = a + (sumLenE (H.take (i + 1)) : Int) by omega]
    exact ih
theorem eqEntry_same (x : Int) (a b c : Bool) : laws_eqEntry.f x a b c x a b c = some true := by
  unfold laws_eqEntry.f
  simp
theorem ev_eqEntryS_same (X : List S104) (hX : X.length ≤ 1048576) : Ev (fun k => laws_eqEntryS.f k X X) true := by
  unfold laws_eqEntryS.f
  refine Ev.ite_pos rfl ?_
  refine Ev.up (fun i k => laws_eqEntryS.l0 k X X (i : Int)) X.length true ?_ ?_
  · apply Ev.succ
    simp only [laws_eqEntryS.l0]
    exact Ev.ite_neg (by omega) (Ev.now _)
  · intro i hi ih
    apply Ev.succ
    simp only [laws_eqEntryS.l0]
    rw [wrap64_succ (i := i) (by omega)]
    exact Ev.ite_pos (by omega) (Ev.ite_pos (by omega) (Ev.ite_pos (by omega) (Ev.cbind (eqEntry_same _ _ _ _) (Ev.ite_pos rfl ih))))
theorem ev_eqRowsE (X : List (List S104)) (hX : X.length ≤ 1048576) (hin : ∀ y ∈ X, y.length ≤ 1048576) : Ev (fun k => laws_eqEntrySS.f k X X) true := by
  unfold laws_eqEntrySS.f
  refine Ev.ite_pos rfl ?_
  refine Ev.up (fun i k => laws_eqEntrySS.l0 k X X (i : Int)) X.length true ?_ ?_
  · apply Ev.succ
    simp only [laws_eqEntrySS.l0]
    exact Ev.ite_neg (by omega) (Ev.now _)
  · intro i hi ih
    have hm := hin X[i] (List.getElem_mem hi)
    apply Ev.succ
    simp only [laws_eqEntrySS.l0]
    rw [rowsE_at X i hi, wrap64_succ (i := i) (by omega)]
    exact Ev.ite_pos (by omega) (Ev.ite_pos (by omega) (Ev.ite_pos (by omega) (Ev.bind (ev_eqEntryS_same _ hm) (Ev.ite_pos rfl ih))))
theorem ev_eqCached_nil : Ev (fun k => laws_eqCachedS.f k [] []) true := by
  unfold laws_eqCachedS.f
  refine Ev.ite_pos rfl ?_
  apply Ev.succ
  simp only [laws_eqCachedS.l0]
  exact Ev.ite_neg (by simp) (Ev.now _)
theorem ev_heldCached_nil (a : Int) : Ev (fun k => laws_heldCachedS.f k [] a) a := by
  unfold laws_heldCachedS.f
  apply Ev.succ
  simp only [laws_heldCachedS.l0]
  exact Ev.ite_neg (by simp) (Ev.now _)
theorem ev_eqSpace (M : List Int) (H : List (List S104)) (hM : M.length ≤ 8) (hH : H.length ≤ 8) (hin : ∀ y ∈ H, y.length ≤ 8) : Ev (fun k => laws_eqSpace.f k M H [] M H []) true := by
  unfold laws_eqSpace.f
  exact Ev.bind (ev_eqJ_same M (by omega)) (Ev.ite_pos rfl (Ev.bind (ev_eqRowsE H (by omega) (fun y hy => by have := hin y hy; omega)) (Ev.ite_pos rfl (Ev.bind ev_eqCached_nil (Ev.ite_pos rfl (Ev.now _))))))
theorem ev_heldSpace (M : List Int) (H : List (List S104)) (hM : M.length ≤ 8) (hH : H.length ≤ 8) (hin : ∀ y ∈ H, y.length ≤ 8) : Ev (fun k => laws_heldSpace.f k (ups 1 M.length) (markRowsE H (1 + (M.length : Int))) [] 1) (1 + (M.length : Int) + (sumLenE H : Int)) := by
  have := sumLenE_eight H hin
  unfold laws_heldSpace.f
  refine Ev.bind (ev_heldInt64S 1 M.length (by omega) (by omega) (by omega)) (Ev.ite_neg (by omega) (Ev.bind (ev_heldRowsE H _ (by omega) (fun y hy => by have := hin y hy; omega) (by omega) (by omega)) (Ev.ite_neg (by omega) (Ev.bind (ev_heldCached_nil _) (Ev.ite_neg (by omega) (Ev.now _))))))
end Go.Proofs.Yteobbgofbedgdaa.Q
