/- Counts of distances: both sides' are the same; no conditions beyond those written. -/
import Derived.Test.YtfiohpbinpbhcaaQx0
import Derived.Test.YtfiohpbinpbhcaaQx19
import Derived.Test.YtfiohpbinpbhcaaSbase
namespace Go.Proofs.Ytfiohpbinpbhcaa.Q
open Go.RowKit Go.Proofs.YtfiohpbinpbhcaaW.PrintWords Go.Proofs.YtfiohpbinpbhcaaW.PrintLast Go.Proofs.YtfiohpbinpbhcaaW.PrintMore
attribute [local go_sem] max2_int min2_int max_two min_two max_three min_three max_four min_four   -- for this text's walks alone
set_option linter.unusedVariables false
set_option linter.unusedSimpArgs false

def grow (out : List Int) (d : Int) : List Int := out ++ List.replicate (d + 1 - (out.length : Int)).toNat 0
def cnt (out : List Int) (d : Int) : List Int := if 0 ≤ d then (grow out d).set d.toNat (wrap64 (rd (grow out d) d + 1)) else out
def counts (ds : List Int) : List Int := ds.foldl cnt []
theorem grow_none (out : List Int) (d : Int) (h : (d + 1 - (out.length : Int)).toNat = 0) : grow out d = out := by unfold grow; rw [h]; simp
theorem grow_more (out : List Int) (d : Int) (n : Nat) (h : (d + 1 - (out.length : Int)).toNat = n + 1) : grow (out ++ [0]) d = grow out d := by
  unfold grow
  have h2 : (d + 1 - ((out ++ [(0 : Int)]).length : Int)).toNat = n := by rw [List.length_append, List.length_singleton]; omega
  rw [h, h2, List.append_assoc]
  rfl
theorem cnt_more (out : List Int) (d : Int) (n : Nat) (h : (d + 1 - (out.length : Int)).toNat = n + 1) : cnt (out ++ [0]) d = cnt out d := by
  unfold cnt
  rw [grow_more out d n h, if_pos (by omega), if_pos (by omega)]
theorem cnt_length (out : List Int) (d : Int) (m : Nat) (h : out.length ≤ m) (hd : d + 1 ≤ (m : Int)) : (cnt out d).length ≤ m := by
  unfold cnt grow
  split
  · rw [List.length_set, List.length_append, List.length_replicate]; omega
  · exact h
theorem counts_length (ds : List Int) (m : Nat) (hd : ∀ d ∈ ds, d + 1 ≤ (m : Int)) : (counts ds).length ≤ m := by
  unfold counts
  have key : ∀ (ds out : List Int), out.length ≤ m → (∀ d ∈ ds, d + 1 ≤ (m : Int)) → (ds.foldl cnt out).length ≤ m := by
    intro ds
    induction ds with
    | nil => intro out h _; exact h
    | cons d ds ih => intro out h hd; exact ih _ (cnt_length out d m h (hd d (by simp))) (fun x hx => hd x (by simp [hx]))
  exact key ds [] (by simp) hd
theorem ev_spec_cnt (ds : List Int) (i : Nat) (hi : i < ds.length) (hl : ds.length ≤ 1000000000) (hd : rd ds (i : Int) ≤ 1000000000) (r : List Int × Bool) (n : Nat) :
    ∀ out : List Int, (rd ds (i : Int) + 1 - (out.length : Int)).toNat = n → Ev (fun k => spec_DistanceCounts.l0 k ds (cnt out (rd ds (i : Int))) ((i + 1 : Nat) : Int)) r → Ev (fun k => spec_DistanceCounts.l1 k ds out (i : Int)) r := by
  induction n with
  | zero =>
    intro out hn h
    have hg := grow_none out _ hn
    apply Ev.succ
    simp only [spec_DistanceCounts.l1]
    refine Ev.ite_pos (by omega) (Ev.ite_pos (by omega) (Ev.ite_neg (by omega) ?_))
    unfold cnt at h
    rw [hg] at h
    by_cases h0 : 0 ≤ rd ds (i : Int)
    · rw [if_pos h0] at h
      refine Ev.ite_pos h0 (Ev.ite_pos h0 (Ev.ite_pos (by omega) ?_))
      rw [wrap64_succ (by omega)]; exact h
    · rw [if_neg h0] at h
      refine Ev.ite_neg h0 ?_
      rw [wrap64_succ (by omega)]; exact h
  | succ n ih =>
    intro out hn h
    apply Ev.succ
    simp only [spec_DistanceCounts.l1]
    refine Ev.ite_pos (by omega) (Ev.ite_pos (by omega) (Ev.ite_pos (by omega) (Ev.ite_pos (by omega) (ih (out ++ [0]) ?_ ?_))))
    · rw [List.length_append, List.length_singleton]; omega
    · rw [cnt_more out _ n hn]; exact h
theorem ev_spec_counts (ds : List Int) (hl : ds.length ≤ 1000000000) (hd : ∀ d ∈ ds, d ≤ 1000000000) : Ev (fun k => spec_DistanceCounts.l0 k ds [] 0) (counts ds, true) := by
  refine Ev.up (fun i k => spec_DistanceCounts.l0 k ds ((ds.take i).foldl cnt []) (i : Int)) ds.length (counts ds, true) ?_ ?_
  · apply Ev.succ
    simp only [spec_DistanceCounts.l0]
    refine Ev.ite_neg (by omega) ?_
    rw [List.take_length]; exact Ev.now _
  · intro i hi ih
    apply Ev.succ
    simp only [spec_DistanceCounts.l0]
    refine Ev.ite_pos (by omega) (ev_spec_cnt ds i hi hl (hd _ ?_) _ _ _ rfl ?_)
    · rw [rd_lt ds i hi]; exact List.getElem_mem hi
    · rw [take_succ_rd ds i hi, List.foldl_append] at ih; exact ih
theorem ev_impl_cnt (ds : List Int) (i : Nat) (hi : i < ds.length) (hl : ds.length ≤ 1000000000) (d : Int) (hd : d ≤ 1000000000) (r : List Int × Bool) (n : Nat) :
    ∀ out : List Int, (d + 1 - (out.length : Int)).toNat = n → Ev (fun k => impl_DistanceCounts.l0 k (cnt out d) ds (ds.length : Int) ((i + 1 : Nat) : Int)) r → Ev (fun k => impl_DistanceCounts.l1 k out d ds (ds.length : Int) (i : Int)) r := by
  induction n with
  | zero =>
    intro out hn h
    have hg := grow_none out _ hn
    apply Ev.succ
    simp only [impl_DistanceCounts.l1]
    refine Ev.cbind (a := (out.length : Int)) rfl (Ev.ite_neg (by omega) ?_)
    unfold cnt at h
    rw [hg] at h
    by_cases h0 : 0 ≤ d
    · rw [if_pos h0] at h
      refine Ev.ite_pos h0 (Ev.ite_pos h0 (Ev.ite_pos (by omega) ?_))
      rw [wrap64_succ (by omega)]; exact h
    · rw [if_neg h0] at h
      refine Ev.ite_neg h0 ?_
      rw [wrap64_succ (by omega)]; exact h
  | succ n ih =>
    intro out hn h
    apply Ev.succ
    simp only [impl_DistanceCounts.l1]
    refine Ev.cbind (a := (out.length : Int)) rfl (Ev.ite_pos (by omega) (Ev.ite_pos (by omega) (ih (out ++ [0]) ?_ ?_)))
    · rw [List.length_append, List.length_singleton]; omega
    · rw [cnt_more out _ n hn]; exact h
theorem ev_impl_counts (ds : List Int) (hl : ds.length ≤ 1000000000) (hd : ∀ d ∈ ds, d ≤ 1000000000) : Ev (fun k => impl_DistanceCounts.l0 k [] ds (ds.length : Int) 0) (counts ds, true) := by
  refine Ev.up (fun i k => impl_DistanceCounts.l0 k ((ds.take i).foldl cnt []) ds (ds.length : Int) (i : Int)) ds.length (counts ds, true) ?_ ?_
  · apply Ev.succ
    simp only [impl_DistanceCounts.l0]
    refine Ev.ite_neg (by omega) ?_
    rw [List.take_length]; exact Ev.now _
  · intro i hi ih
    apply Ev.succ
    simp only [impl_DistanceCounts.l0]
    refine Ev.ite_pos (by omega) (Ev.ite_pos (by omega) (Ev.ite_pos (by omega) (ev_impl_cnt ds i hi hl _ (hd _ ?_) _ _ _ rfl ?_)))
    · rw [rd_lt ds i hi]; exact List.getElem_mem hi
    · rw [take_succ_rd ds i hi, List.foldl_append] at ih; exact ih
end Go.Proofs.Ytfiohpbinpbhcaa.Q
