/- The misses by the order of last uses; no conditions beyond those written. -/
import Derived.Test.YtdhkcnhmmiigoaaQx0
import Derived.Test.YtdhkcnhmmiigoaaQx3
import Derived.Test.YtdhkcnhmmiigoaaSxor
import Derived.Test.YtdhkcnhmmiigoaaSheldindex
import Derived.Test.YtdhkcnhmmiigoaaSlu
import Derived.Test.YtdhkcnhmmiigoaaSbidw
import Derived.Test.YtdhkcnhmmiigoaaSidxf
import Derived.Test.YtdhkcnhmmiigoaaSsetl
import Derived.Test.YtdhkcnhmmiigoaaSlead
import Derived.Test.YtdhkcnhmmiigoaaSvalidindex
namespace Go.Proofs.Ytdhkcnhmmiigoaa.Q
open Go.RowKit Go.Proofs.YtdhkcnhmmiigoaaW.PrintWords Go.Proofs.YtdhkcnhmmiigoaaW.PrintLast Go.Proofs.YtdhkcnhmmiigoaaW.PrintMore
attribute [local go_sem] max2_int min2_int max_two min_two max_three min_three max_four min_four   -- for this text's walks alone
set_option linter.unusedVariables false
set_option linter.unusedSimpArgs false

theorem lu_mem (U : List Int) (a : Int) (i : Nat) (hi : i ≤ U.length) : 0 ≤ lu U a i ↔ a ∈ U.take i := by
  have hr := lu_range U a i
  constructor
  · intro h
    have h1 := lu_hit h
    obtain ⟨k, hk⟩ : ∃ k : Nat, lu U a i = (k : Int) := ⟨(lu U a i).toNat, by omega⟩
    rw [hk] at h1 hr
    rw [← h1, rd_lt U k (by omega)]
    exact List.mem_take_iff_getElem.2 ⟨k, by omega, rfl⟩
  · intro h
    obtain ⟨k, hk, e⟩ := List.mem_take_iff_getElem.1 h
    rcases Int.lt_or_le (lu U a i) 0 with h1 | h1
    · have := lu_after (l := U) (a := a) (i := i) k (by omega) (by omega)
      rw [rd_lt U k (by omega)] at this
      exact absurd e this
    · exact h1
/-- The rest of the stack once the address has been taken out. -/
def moveTo (L : List Int) (m q : Nat) : List Int := L.take q ++ rd L (q : Int) :: ((L.drop q).take (m - q) ++ L.drop (m + 1))
theorem moveTo_self (L : List Int) (m : Nat) (h : m < L.length) : moveTo L m m = L := by
  unfold moveTo
  rw [Nat.sub_self, List.take_zero, List.nil_append, ← drop_rd L m h, List.take_append_drop]
theorem moveTo_length (L : List Int) (m q : Nat) (hq : q ≤ m) (h : m < L.length) : (moveTo L m q).length = L.length := by
  unfold moveTo
  simp only [List.length_append, List.length_cons, List.length_take, List.length_drop]
  omega
theorem moveTo_rd (L : List Int) (m q : Nat) (hq : q + 1 ≤ m) (h : m < L.length) : rd (moveTo L m (q + 1)) (q : Int) = rd L (q : Int) := by
  rw [rd_lt _ q (by rw [moveTo_length L m _ hq h]; omega), rd_lt L q (by omega)]
  unfold moveTo
  rw [List.getElem_append_left (by rw [List.length_take]; omega), List.getElem_take]
theorem moveTo_set (L : List Int) (m q : Nat) (hq : q + 1 ≤ m) (h : m < L.length) : (moveTo L m (q + 1)).set (q + 1) (rd L (q : Int)) = moveTo L m q := by
  unfold moveTo
  rw [List.set_append_right _ _ (by rw [List.length_take]; omega), List.length_take, Nat.min_eq_left (by omega), Nat.sub_self, List.set_cons_zero, take_succ_rd L q (by omega), drop_rd L q (by omega), show m - q = (m - (q + 1)) + 1 by omega, List.take_succ_cons, List.append_assoc]
  rfl
theorem moveTo_zero (L : List Int) (m : Nat) (a : Int) : (moveTo L m 0).set 0 a = a :: (L.take m ++ L.drop (m + 1)) := by
  unfold moveTo
  rw [List.take_zero, List.nil_append, List.set_cons_zero, Nat.sub_zero, List.drop_zero]
theorem mem_tw (q : Int → Bool) : ∀ (l : List Int) (x : Int), x ∈ l.takeWhile q → q x = true
  | [], x, h => by cases h
  | y :: l, x, h => by
    by_cases e : q y = true
    · rw [List.takeWhile_cons_of_pos e] at h
      rcases List.mem_cons.1 h with rfl | h
      · exact e
      · exact mem_tw q l x h
    · rw [List.takeWhile_cons_of_neg e] at h; cases h
section
variable (S : List Int) (R : List Int) (p : Int) (U : List Int) (hS : S.length = 64) (hSv : ∀ x : Int, 0 ≤ x → x ≤ 63 → rd S x = setVal R x) (hl : U.length ≤ 60) (hU : ∀ x ∈ U, 0 ≤ x ∧ x ≤ 63)
include hS hSv hl hU
omit hS hSv hl hU in
theorem ev_fast_l2 (out : Int) (L : List Int) (i : Nat) (hi : i < U.length) (hU9 : U.length ≤ 1000) (m : Nat) (hm : m < L.length) (hL : L.length ≤ 1000) (r : Int)
    (h : Ev (fun k => spec_l06Fast.l0 k S p U out (rd U (i : Int) :: (L.take m ++ L.drop (m + 1))) ((i + 1 : Nat) : Int)) r) : ∀ q, q ≤ m → Ev (fun k => spec_l06Fast.l2 k S p U out (moveTo L m q) (i : Int) (q : Int)) r := by
  intro q
  induction q with
  | zero =>
    intro _
    have hml := moveTo_length L m 0 (Nat.zero_le _) hm
    apply Ev.succ
    simp only [spec_l06Fast.l2]
    refine Ev.ite_neg (by omega) (Ev.ite_pos (by omega) (Ev.ite_pos (by omega) (Ev.ite_pos (by omega) ?_)))
    rw [wrap64_succ (by omega), show (0 : Int).toNat = 0 from rfl, moveTo_zero]
    exact h
  | succ q ih =>
    intro hq
    have hml := moveTo_length L m (q + 1) hq hm
    have hw : wrap64 (((q + 1 : Nat) : Int) - 1) = (q : Int) := by rw [wrap64_id (by omega) (by omega)]; omega
    apply Ev.succ
    simp only [spec_l06Fast.l2]
    rw [hw, moveTo_rd L m q hq hm, Int.toNat_natCast, moveTo_set L m q hq hm]
    exact Ev.ite_pos (by omega) (Ev.ite_pos (by omega) (Ev.ite_pos (by omega) (Ev.ite_pos (by omega) (Ev.ite_pos (by omega) (ih (by omega))))))
omit hS hSv hU in
/-- Behind the search: the miss is counted, and the address goes to the front. -/
theorem ev_fast_j2 (out : Int) (L : List Int) (i : Nat) (hi : i < U.length) (m : Nat) (oth : Int) (hm : m ≤ L.length) (hL : L.length ≤ 900) (r : Int)
    (h : Ev (fun k => spec_l06Fast.l0 k S p U (if (decide (m = L.length) || decide (p ≤ oth)) = true then wrap64 (out + 1) else out) (rd U (i : Int) :: (L.take m ++ L.drop (m + 1))) ((i + 1 : Nat) : Int)) r) : Ev (fun k => spec_l06Fast.j2 k S p U out L (i : Int) (m : Int) oth false) r := by
  have key : ∀ out2 : Int, Ev (fun k => spec_l06Fast.l0 k S p U out2 (rd U (i : Int) :: (L.take m ++ L.drop (m + 1))) ((i + 1 : Nat) : Int)) r → Ev (fun k => spec_l06Fast.j4 k S p U out2 L (i : Int) (m : Int)) r := by
    intro out2 h2
    apply Ev.succ
    simp only [spec_l06Fast.j4]
    by_cases e : m = L.length
    · refine Ev.ite_pos (by omega) (Ev.ite_pos (by omega) (Ev.ite_pos (by omega) (Ev.ite_pos (by omega) ?_)))
      apply Ev.succ
      simp only [spec_l06Fast.j5]
      have := ev_fast_l2 S p U out2 (L ++ [rd U (i : Int)]) i hi (by omega) m (by rw [List.length_append, List.length_singleton]; omega) (by rw [List.length_append, List.length_singleton]; omega) r (by
        have e1 : (L ++ [rd U (i : Int)]).take m = L.take m := by rw [List.take_append_of_le_length (by omega)]
        have e2 : (L ++ [rd U (i : Int)]).drop (m + 1) = L.drop (m + 1) := by
          rw [List.drop_eq_nil_of_le (by rw [List.length_append, List.length_singleton]; omega), List.drop_eq_nil_of_le (by omega)]
        rw [e1, e2]
        exact h2) m (Nat.le_refl _)
      rw [moveTo_self _ m (by rw [List.length_append, List.length_singleton]; omega)] at this
      exact this
    · refine Ev.ite_neg (by omega) ?_
      apply Ev.succ
      simp only [spec_l06Fast.j5]
      have := ev_fast_l2 S p U out2 L i hi (by omega) m (by omega) (by omega) r h2 m (Nat.le_refl _)
      rw [moveTo_self _ m (by omega)] at this
      exact this
  apply Ev.succ
  simp only [spec_l06Fast.j2]
  refine Ev.ite_neg (by simp) ?_
  by_cases e : m = L.length
  · refine Ev.ite_pos (by omega) ?_
    rw [decide_eq_true e, Bool.true_or, if_pos rfl] at h
    apply Ev.succ
    simp only [spec_l06Fast.j3]
    exact Ev.ite_pos (by trivial) (key _ h)
  · refine Ev.ite_neg (by omega) ?_
    rw [decide_eq_false e, Bool.false_or] at h
    apply Ev.succ
    simp only [spec_l06Fast.j3]
    by_cases hp : p ≤ oth
    · rw [if_pos (decide_eq_true hp)] at h
      exact Ev.ite_pos (decide_eq_true hp) (key _ h)
    · rw [if_neg (by simpa using hp)] at h
      exact Ev.ite_neg (by simpa using hp) (key _ h)
theorem ev_fast_l1 (out : Int) (L : List Int) (i : Nat) (hi : i < U.length) (hL : L.length ≤ 900) (hLU : ∀ x ∈ L, 0 ≤ x ∧ x ≤ 63) (r : Int)
    (h : Ev (fun k => spec_l06Fast.l0 k S p U (if (decide ((L.takeWhile fun y => !decide (y = rd U (i : Int))).length = L.length) || decide (p ≤ (((L.takeWhile fun y => !decide (y = rd U (i : Int))).filter fun x => decide (setVal R x = setVal R (rd U (i : Int)))).length : Int))) = true then wrap64 (out + 1) else out) (rd U (i : Int) :: (L.take (L.takeWhile fun y => !decide (y = rd U (i : Int))).length ++ L.drop ((L.takeWhile fun y => !decide (y = rd U (i : Int))).length + 1))) ((i + 1 : Nat) : Int)) r) :
    Ev (fun k => spec_l06Fast.l1 k S p U out L (i : Int) 0 0) r := by
  obtain ⟨T, hT⟩ : ∃ T, T = L.takeWhile fun y => !decide (y = rd U (i : Int)) := ⟨_, rfl⟩
  rw [← hT] at h
  have hpre : T <+: L := by rw [hT]; exact List.takeWhile_prefix _
  have hTl : T.length ≤ L.length := hpre.length_le
  have hTL : ∀ j : Nat, j < T.length → rd L (j : Int) = rd T (j : Int) := by
    intro j hj
    obtain ⟨M, hM⟩ := hpre
    rw [rd_lt L j (by omega), rd_lt T j hj]
    simp only [← hM]
    rw [List.getElem_append_left hj]
  have hTn : ∀ x ∈ T, x ≠ rd U (i : Int) := by
    intro x hx
    rw [hT] at hx
    have := mem_tw _ _ x hx
    simpa using this
  have ha : 0 ≤ rd U (i : Int) ∧ rd U (i : Int) ≤ 63 := by rw [rd_lt U i hi]; exact hU _ (List.getElem_mem hi)
  have key := Ev.up (fun j k => spec_l06Fast.l1 k S p U out L (i : Int) (j : Int) (((T.take j).filter fun x => decide (setVal R x = setVal R (rd U (i : Int)))).length : Int)) T.length r ?_ ?_
  · simpa using key
  · rw [List.take_length]
    apply Ev.succ
    simp only [spec_l06Fast.l1]
    by_cases e : T.length = L.length
    · exact Ev.ite_neg (by omega) (ev_fast_j2 S p U hl out L i hi T.length _ hTl hL r h)
    · have hlt : T.length < L.length := by omega
      have hat : rd L (T.length : Int) = rd U (i : Int) := by
        rw [rd_lt L _ hlt]
        have h1 := List.takeWhile_append_dropWhile (p := fun y => !decide (y = rd U (i : Int))) (l := L)
        rw [← hT] at h1
        cases hd : L.dropWhile (fun y => !decide (y = rd U (i : Int))) with
        | nil => rw [hd, List.append_nil] at h1; rw [← h1] at hlt; omega
        | cons y ys =>
          rw [hd] at h1
          have hy : (!decide (y = rd U (i : Int))) = false := by
            have := List.head_dropWhile_not (fun y => !decide (y = rd U (i : Int))) (w := by rw [hd]; simp) (l := L)
            simp only [hd, List.head_cons] at this
            exact this
          have hy2 : y = rd U (i : Int) := by simpa using hy
          have h2 : L[T.length]'hlt = y := by
            have : (T ++ y :: ys)[T.length]'(by simp) = y := by rw [List.getElem_append_right (by omega)]; simp
            rw [← this]
            congr 1
            exact h1.symm
          rw [h2, hy2]
      refine Ev.ite_pos (by omega) (Ev.ite_pos (by omega) (Ev.ite_pos (by omega) (Ev.ite_pos (by omega) ?_)))
      rw [hat, show (rd U (i : Int) != rd U (i : Int)) = false by simp]
      exact ev_fast_j2 S p U hl out L i hi T.length _ hTl hL r h
  · intro j hj ih
    have hx : 0 ≤ rd T (j : Int) ∧ rd T (j : Int) ≤ 63 := by
      rw [← hTL j hj, rd_lt L j (by omega)]; exact hLU _ (List.getElem_mem _)
    have hne : rd T (j : Int) ≠ rd U (i : Int) := by
      rw [rd_lt T j hj]; exact hTn _ (List.getElem_mem _)
    have hfl := List.length_filter_le (fun x => decide (setVal R x = setVal R (rd U (i : Int)))) (T.take j)
    rw [List.length_take] at hfl
    rw [take_succ_rd T j hj, List.filter_append, List.length_append] at ih
    apply Ev.succ
    simp only [spec_l06Fast.l1]
    rw [hTL j hj]
    refine Ev.ite_pos (by omega) (Ev.ite_pos (by omega) (Ev.ite_pos (by omega) (Ev.ite_pos (by omega) ?_)))
    rw [show (rd T (j : Int) != rd U (i : Int)) = true by simpa using hne]
    apply Ev.succ
    simp only [spec_l06Fast.j2]
    rw [hTL j hj, hSv _ hx.1 hx.2, hSv _ ha.1 ha.2, wrap64_succ (i := j) (by omega), wrap64_succ (by omega)]
    refine Ev.ite_pos (by trivial) (Ev.ite_pos (by omega) (Ev.ite_pos (by omega) (Ev.ite_pos (by omega) (Ev.ite_pos (by omega) (Ev.ite_pos (by omega) (Ev.ite_pos (by omega) (Ev.ite_pos (by omega) (Ev.ite_pos (by omega) ?_))))))))
    by_cases hc : setVal R (rd T (j : Int)) = setVal R (rd U (i : Int))
    · refine Ev.ite_pos hc ?_
      simpa [hc] using ih
    · refine Ev.ite_neg hc ?_
      simpa [hc] using ih
theorem ev_l06Fast : Ev (fun k => spec_l06Fast.f k S p U) (misN R p U U.length : Int) := by
  unfold spec_l06Fast.f
  refine Ev.up (fun i k => spec_l06Fast.l0 k S p U (misN R p U i : Int) (stackL (U.take i)) (i : Int)) U.length _ ?_ ?_
  · apply Ev.succ
    simp only [spec_l06Fast.l0]
    exact Ev.ite_neg (by omega) (Ev.now _)
  · intro i hi ih
    obtain ⟨f1, f2, f3⟩ := stackL_facts (U.take i)
    rw [List.length_take] at f3
    have hn := misN_le R p U i
    apply Ev.succ
    simp only [spec_l06Fast.l0]
    refine Ev.ite_pos (by omega) (ev_fast_l1 S R p U hS hSv hl hU _ (stackL (U.take i)) i hi (by omega) (fun x hx => hU x (List.mem_of_mem_take ((f2 x).1 hx))) _ ?_)
    rw [take_succ_rd U i hi, stackL_snoc] at ih
    have hst : (misN R p U (i + 1) : Int) = if missAt R p U i = true then wrap64 ((misN R p U i : Int) + 1) else (misN R p U i : Int) := by
      show ((misN R p U i + if missAt R p U i = true then 1 else 0 : Nat) : Int) = _
      rw [wrap64_succ (by omega)]
      split <;> rfl
    rw [hst] at ih
    have hma : missAt R p U i = (!decide (0 ≤ lu U (rd U (i : Int)) i) || decide (p ≤ ((othersOf R U i).length : Int))) := rfl
    have hlm := lu_mem U (rd U (i : Int)) i (by omega)
    obtain ⟨a, hae⟩ : ∃ a, a = rd U (i : Int) := ⟨_, rfl⟩
    by_cases hm : rd U (i : Int) ∈ stackL (U.take i)
    · have h0 : 0 ≤ lu U (rd U (i : Int)) i := hlm.2 ((f2 _).1 hm)
      obtain ⟨rest, e1, e2⟩ := stack_split _ _ f1 hm
      have hr := lu_range U (rd U (i : Int)) i
      have hhit := lu_hit h0
      have hafter := lu_after (l := U) (a := rd U (i : Int)) (i := i)
      obtain ⟨k, hk⟩ : ∃ k : Nat, lu U (rd U (i : Int)) i = (k : Int) := ⟨(lu U (rd U (i : Int)) i).toNat, by omega⟩
      have hbt : between U i = setL ((U.take i).drop (k + 1)) := by unfold between; rw [hk]; congr 2
      rw [hk] at hr hhit hafter
      have hsplit : U.take i = U.take k ++ rd U (i : Int) :: (U.take i).drop (k + 1) := by
        have h1 : (U.take i).take k = U.take k := by rw [List.take_take, Nat.min_eq_left (by omega)]
        have h2 : (U.take i).drop k = rd (U.take i) (k : Int) :: (U.take i).drop (k + 1) := drop_rd _ k (by rw [List.length_take]; omega)
        rw [rd_take U i k (by omega), hhit] at h2
        rw [← h2, ← h1, List.take_append_drop]
      have hnot : ¬ rd U (i : Int) ∈ (U.take i).drop (k + 1) := by
        intro h
        obtain ⟨j, hj, e⟩ := List.getElem_of_mem h
        rw [List.length_drop, List.length_take] at hj
        rw [List.getElem_drop, List.getElem_take] at e
        have := hafter (k + 1 + j) (by omega) (by omega)
        rw [rd_lt U _ (by omega)] at this
        exact this e
      have htw : (stackL (U.take i)).takeWhile (fun y => !decide (y = rd U (i : Int))) = stackL ((U.take i).drop (k + 1)) := by
        conv => lhs; rw [hsplit]
        exact stack_before _ _ _ hnot
      obtain ⟨g1, g2, g3⟩ := stackL_facts ((U.take i).drop (k + 1))
      obtain ⟨s1, s2⟩ := setL_facts ((U.take i).drop (k + 1))
      have hcnt : ((stackL ((U.take i).drop (k + 1))).filter fun x => decide (setVal R x = setVal R (rd U (i : Int)))).length = (othersOf R U i).length := by
        unfold othersOf
        rw [hbt]
        refine same_len (g1.filter _) ((s1.imp (fun h => by omega) : (setL ((U.take i).drop (k + 1))).Nodup).filter _) (fun x => ?_)
        rw [List.mem_filter, List.mem_filter, g2, s2]
        refine and_congr_right (fun _ => ?_)
        simp only [Bool.not_not, decide_eq_true_eq]
        exact eq_comm
      rw [htw] at e1 e2 ⊢
      have hlen : (stackL (U.take i)).length = (stackL ((U.take i).drop (k + 1))).length + (rest.length + 1) := by
        conv => lhs; rw [e1]
        rw [List.length_append, List.length_cons]
      have t1 : (stackL (U.take i)).take (stackL ((U.take i).drop (k + 1))).length = stackL ((U.take i).drop (k + 1)) := by
        conv => lhs; rw [e1]
        rw [List.take_left]
      have t2 : (stackL (U.take i)).drop ((stackL ((U.take i).drop (k + 1))).length + 1) = rest := by
        conv => lhs; rw [e1]
        rw [← List.drop_drop, List.drop_left]; rfl
      rw [t1, t2, hcnt, decide_eq_false (by omega), Bool.false_or, ← e2]
      rw [hma, decide_eq_true h0, Bool.not_true, Bool.false_or] at ih
      exact ih
    · have h0 : ¬ 0 ≤ lu U (rd U (i : Int)) i := fun h => hm ((f2 _).2 (hlm.1 h))
      obtain ⟨e1, e2⟩ := stack_none _ _ hm
      rw [e2, List.take_length, List.drop_eq_nil_of_le (by omega), List.append_nil, decide_eq_true rfl, Bool.true_or, if_pos rfl, ← e1]
      rw [hma, decide_eq_false h0, Bool.not_false, Bool.true_or, if_pos rfl] at ih
      exact ih
end
end Go.Proofs.Ytdhkcnhmmiigoaa.Q
