/- Rows of rows: marks read again, rows compared with themselves; no conditions beyond those written. -/
import Derived.Test.YthaipkhgemachaaDoorQx0
import Derived.Test.YthaipkhgemachaaDoorQx1
import Derived.Test.YthaipkhgemachaaDoorSbase
import Derived.Test.YthaipkhgemachaaDoorSeqi
import Derived.Test.YthaipkhgemachaaDoorSmarkrows
import Derived.Test.YthaipkhgemachaaDoorSmarks
namespace Go.Proofs.YthaipkhgemachaaDoor.Q
open Go.RowKit Go.Proofs.YthaipkhgemachaaDoorW.PrintWords Go.Proofs.YthaipkhgemachaaDoorW.PrintLast Go.Proofs.YthaipkhgemachaaDoorW.PrintMore
attribute [local go_sem] max2_int min2_int max_two min_two max_three min_three max_four min_four   -- for this text's walks alone
set_option linter.unusedVariables false
set_option linter.unusedSimpArgs false

theorem markRows_at (H : List (List Int)) (a : Int) (i : Nat) (hi : i < H.length) : rd_L1 (markRows H a) (i : Int) = ups (a + (sumLen (H.take i) : Int)) H[i].length := by
  show (markRows H a).getD i _ = _
  have e : H = H.take i ++ (H[i] :: H.drop (i + 1)) := by rw [← List.drop_eq_getElem_cons hi, List.take_append_drop]
  have e1 : (markRows (H.take i) a).length = i := by rw [markRows_length, List.length_take]; omega
  have e2 : markRows H a = markRows (H.take i) a ++ (ups (a + (sumLen (H.take i) : Int)) H[i].length :: markRows (H.drop (i + 1)) (a + (sumLen (H.take i) : Int) + H[i].length)) := by
    have := markRows_append (H.take i) (H[i] :: H.drop (i + 1)) a
    rw [← e, markRows] at this
    exact this
  rw [e2, List.getD_eq_getElem?_getD, List.getElem?_append_right (by omega), e1, Nat.sub_self]
  rfl
theorem ev_heldRows (H : List (List Int)) (a : Int) (hH : H.length ≤ 1048576) (hin : ∀ y ∈ H, y.length ≤ 1048576) (ha : 0 ≤ a) (hs : a + (sumLen H : Int) ≤ 1000000000000) : Ev (fun k => laws_heldInt64SS.f k (markRows H a) a) (a + (sumLen H : Int)) := by
  unfold laws_heldInt64SS.f
  have e0 : a + (sumLen (H.take 0) : Int) = a := by simp [sumLen]
  have key := Ev.up (fun i k => laws_heldInt64SS.l0 k (markRows H a) (a + (sumLen (H.take i) : Int)) (i : Int)) H.length (a + (sumLen H : Int)) ?_ ?_
  · refine Ev.congr (fun k => ?_) key
    show _ = laws_heldInt64SS.l0 k (markRows H a) (a + (sumLen (H.take 0) : Int)) ((0 : Nat) : Int)
    rw [e0]; rfl
  · apply Ev.succ
    simp only [laws_heldInt64SS.l0]
    rw [List.take_length]
    exact Ev.ite_neg (by rw [markRows_length]; omega) (Ev.now _)
  · intro i hi ih
    have hm := hin H[i] (List.getElem_mem hi)
    have h1 := sumLen_take H i hi
    have h2 := sumLen_le H (i + 1)
    apply Ev.succ
    simp only [laws_heldInt64SS.l0]
    rw [markRows_at H a i hi]
    refine Ev.ite_pos (by rw [markRows_length]; omega) (Ev.ite_pos (by omega) (Ev.bind (ev_heldInt64S _ _ (by omega) (by omega) (by omega)) (Ev.ite_neg (by omega) ?_)))
    rw [wrap64_succ (by omega), show a + (sumLen (H.take i) : Int) + (H[i].length : Int) = a + (sumLen (H.take (i + 1)) : Int) by omega]
    exact ih
theorem ev_eqRows (X : List (List Int)) (hX : X.length ≤ 1048576) (hin : ∀ y ∈ X, y.length ≤ 1048576) : Ev (fun k => laws_eqInt64SS.f k X X) true := by
  unfold laws_eqInt64SS.f
  refine Ev.ite_pos rfl ?_
  refine Ev.up (fun i k => laws_eqInt64SS.l0 k X X (i : Int)) X.length true ?_ ?_
  · apply Ev.succ
    simp only [laws_eqInt64SS.l0]
    exact Ev.ite_neg (by omega) (Ev.now _)
  · intro i hi ih
    have hm : rd_L1 X (i : Int) ∈ X := by
      show X.getD i _ ∈ X
      rw [List.getD_eq_getElem?_getD, List.getElem?_eq_getElem hi, Option.getD_some]
      exact List.getElem_mem hi
    have := hin _ hm
    apply Ev.succ
    simp only [laws_eqInt64SS.l0]
    refine Ev.ite_pos (by omega) (Ev.ite_pos (by omega) (Ev.ite_pos (by omega) (Ev.bind (ev_eqJ_same _ (by omega)) (Ev.ite_pos rfl ?_))))
    rw [wrap64_succ (by omega)]
    exact ih
end Go.Proofs.YthaipkhgemachaaDoor.Q
