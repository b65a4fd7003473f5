/- Sets of intervals that are kept: what both sides come to; no conditions beyond those written. -/
import Derived.Test.YtellojkbfnfacaaQx0
import Derived.Test.YtellojkbfnfacaaQx2
import Derived.Test.YtellojkbfnfacaaSbase
import Derived.Test.YtellojkbfnfacaaSivsimpl
import Derived.Test.YtellojkbfnfacaaSsetlimpl
import Derived.Test.YtellojkbfnfacaaSslidx
import Derived.Test.YtellojkbfnfacaaSlenalias
namespace Go.Proofs.Ytellojkbfnfacaa.Q
open Go.RowKit Go.Proofs.YtellojkbfnfacaaW.PrintWords Go.Proofs.YtellojkbfnfacaaW.PrintLast Go.Proofs.YtellojkbfnfacaaW.PrintMore
attribute [local go_sem] max2_int min2_int max_two min_two max_three min_three max_four min_four   -- for this text's walks alone
set_option linter.unusedVariables false
set_option linter.unusedSimpArgs false

def crossed (iv : List (List Int)) (s : List Int) (t : Int) : Nat := (s.filter fun n => crossB (iv.getD n.toNat []) t).length
def keptB (iv : List (List Int)) (n : Nat) (ways : Int) (s : List Int) (i : Nat) : Bool := (List.range' i (n - i)).all fun t => decide ((crossed iv s (t : Int) : Int) ≤ ways - 1)
theorem keptB_step (iv : List (List Int)) (n : Nat) (ways : Int) (s : List Int) (i : Nat) (h : i < n) : keptB iv n ways s i = (decide ((crossed iv s (i : Int) : Int) ≤ ways - 1) && keptB iv n ways s (i + 1)) := by
  unfold keptB
  rw [show n - i = (n - (i + 1)) + 1 by omega, List.range'_succ, List.all_cons]
theorem keptB_end (iv : List (List Int)) (n : Nat) (ways : Int) (s : List Int) (i : Nat) (h : n ≤ i) : keptB iv n ways s i = true := by
  unfold keptB
  rw [show n - i = 0 by omega]; rfl
theorem crossed_snoc (iv : List (List Int)) (s : List Int) (j : Nat) (t : Int) (h : j < s.length) : crossed iv (s.take (j + 1)) t = crossed iv (s.take j) t + (if crossB (iv.getD (rd s (j : Int)).toNat []) t = true then 1 else 0) := by
  unfold crossed
  rw [take_succ_rd s j h, List.filter_append, List.length_append]
  congr 1
  rw [List.filter_cons]
  by_cases hc : crossB (iv.getD (rd s (j : Int)).toNat []) t = true
  · rw [if_pos hc, if_pos hc]; rfl
  · rw [if_neg hc, if_neg hc]; rfl
theorem crossed_le (iv : List (List Int)) (s : List Int) (t : Int) : crossed iv s t ≤ s.length := List.length_filter_le _ _
section
variable (l s : List Int) (ways : Int) (hl : l.length ≤ 60) (hs : s.length ≤ 1048576) (hr : ∀ n ∈ s, 0 ≤ n ∧ n < ((ivs l).length : Int)) (hw0 : 1 ≤ ways) (hw1 : ways ≤ 6)
include hl hs hr hw0 hw1
theorem ev_implKept : ∀ i, i ≤ l.length → Ev (fun k => impl_IsKept.l0 k ways s (ivs l) (l.length : Int) (i : Int)) (keptB (ivs l) l.length ways s i) := by
  refine Ev.down (fun i k => impl_IsKept.l0 k ways s (ivs l) (l.length : Int) (i : Int)) l.length (fun i => keptB (ivs l) l.length ways s i) ?_ ?_
  · apply Ev.succ
    simp only [impl_IsKept.l0]
    exact Ev.ite_neg (by omega) (Ev.eq (Ev.now _) (keptB_end _ _ _ _ _ (by omega)).symm)
  · intro i hi ih
    apply Ev.succ
    simp only [impl_IsKept.l0]
    refine Ev.ite_pos (by omega) ?_
    rw [keptB_step _ _ _ _ _ hi]
    have key := Ev.up (fun j k => impl_IsKept.l1 k ways s (ivs l) (i : Int) ((crossed (ivs l) (s.take j) (i : Int) : Nat) : Int) (l.length : Int) (i : Int) s (s.length : Int) (j : Int)) s.length (decide ((crossed (ivs l) s (i : Int) : Int) ≤ ways - 1) && keptB (ivs l) l.length ways s (i + 1)) ?_ ?_
    · exact key
    · apply Ev.succ
      simp only [impl_IsKept.l1, List.take_length]
      have hc := crossed_le (ivs l) s (i : Int)
      refine Ev.ite_neg (by omega) ?_
      rw [wrap64_id (by omega) (by omega), wrap64_succ (by omega)]
      by_cases hx : ((crossed (ivs l) s (i : Int) : Nat) : Int) > ways - 1
      · exact Ev.ite_pos hx (Ev.eq (Ev.now _) (by simp; omega))
      · exact Ev.ite_neg hx (Ev.eq ih (by simp; omega))
    · intro j hj ihj
      apply Ev.succ
      simp only [impl_IsKept.l1]
      have hm := hr (rd s (j : Int)) (by rw [rd_lt s j hj]; exact List.getElem_mem hj)
      have h2 := ivs_two hm.1 hm.2
      have hc := crossed_le (ivs l) (s.take j) (i : Int)
      have hc2 : (s.take j).length ≤ s.length := by rw [List.length_take]; omega
      have e := crossed_snoc (ivs l) s j (i : Int) hj
      have hrd : rd_L2 (ivs l) (rd s (j : Int)) = (ivs l).getD (rd s (j : Int)).toNat [] := rfl
      rw [hrd]
      refine Ev.ite_pos (by omega) (Ev.ite_pos (by omega) (Ev.ite_pos (by omega) (Ev.ite_pos hm.1 (Ev.ite_pos hm.2 (Ev.cbind (ev_crosses _ _ h2) ?_)))))
      rw [wrap64_succ (i := j) (by omega), wrap64_succ (by omega)]
      by_cases c1 : crossB ((ivs l).getD (rd s (j : Int)).toNat []) (i : Int) = true
      · refine Ev.ite_pos c1 ?_
        rw [if_pos c1] at e
        rw [← e]; exact ihj
      · refine Ev.ite_neg c1 ?_
        rw [if_neg c1] at e
        replace e : crossed (ivs l) (s.take (j + 1)) (i : Int) = crossed (ivs l) (s.take j) (i : Int) := e
        rw [← e]; exact ihj
end
/-- What both sides answer. -/
def isKept (l : List Int) (ways : Int) (s : List Int) : Bool := okUses l && (isIn 1 6 ways && (rises s 0 (((ivs l).length : Int) - 1) && keptB (ivs l) l.length ways s 0))
theorem rises_range {s : List Int} {lo hi : Int} (h : rises s lo hi = true) : ∀ n ∈ s, lo ≤ n ∧ n ≤ hi := by
  intro n hn
  have h1 : s.all (isIn lo hi) = true := by unfold rises at h; rw [Bool.and_eq_true] at h; exact h.1
  have := List.all_eq_true.1 h1 n hn
  simpa [isIn] using this
theorem ev_impl_IsKept (l : List Int) (ways : Int) (s : List Int) (h : l.length ≤ 1048576) (hs : s.length ≤ 1048576) : Ev (fun k => impl_IsKept.f k l ways s) (isKept l ways s) := by
  unfold impl_IsKept.f isKept
  refine Ev.cbind (impl_isOptimal_f l ways) ?_
  cases hu : okUses l with
  | false => exact Ev.ite_neg (by simp) (Ev.now _)
  | true =>
    have hl := ((okUses_iff l).1 hu).2
    cases hw : isIn 1 6 ways with
    | false => exact Ev.ite_neg (by simp) (Ev.now _)
    | true =>
      obtain ⟨w0, w1⟩ := ways_range hw
      have hiv := ivsTo_length l l.length
      refine Ev.ite_pos rfl (Ev.bind (ev_intervalsOf l (by omega)) (Ev.cbind (a := ((ivs l).length : Int)) rfl ?_))
      have e : wrap64 (((ivs l).length : Int) - 1) = ((ivs l).length : Int) - 1 := wrap64_id (by unfold ivs; omega) (by unfold ivs; omega)
      rw [e]
      refine Ev.cbind (impl_allIn_f _ _ _) ?_
      have hj : ∀ b, Ev (fun k => impl_IsKept.j0 k l ways s (ivs l) b) (if b = true then false else if s.all (isIn 0 (((ivs l).length : Int) - 1)) = true then keptB (ivs l) l.length ways s 0 else false) ∨ b = false ∧ ¬ s.all (isIn 0 (((ivs l).length : Int) - 1)) = true := by
        intro b
        cases b with
        | true =>
          left
          apply Ev.succ
          simp only [impl_IsKept.j0]
          exact Ev.ite_pos (by simp) (Ev.now _)
        | false =>
          by_cases ha : s.all (isIn 0 (((ivs l).length : Int) - 1)) = true
          · left
            apply Ev.succ
            simp only [impl_IsKept.j0]
            refine Ev.ite_neg (by simp) (Ev.cbind (a := (l.length : Int)) rfl ?_)
            have hr : ∀ n ∈ s, 0 ≤ n ∧ n < ((ivs l).length : Int) := by
              intro n hn
              have := List.all_eq_true.1 ha n hn
              simp [isIn] at this
              omega
            refine Ev.eq (ev_implKept l s ways hl hs hr w0 w1 0 (Nat.zero_le _)) ?_
            rw [if_neg (by simp), if_pos ha]
          · exact .inr ⟨rfl, ha⟩
      unfold rises
      cases ha : s.all (isIn 0 (((ivs l).length : Int) - 1)) with
      | false =>
        refine Ev.ite_neg (by simp) ?_
        rcases hj true with hj | hj
        · exact Ev.eq hj (by simp)
        · cases hj.1
      | true =>
        refine Ev.ite_pos rfl (Ev.bind (ev_isIncreasing s (by omega)) ?_)
        rcases hj (!(incFrom s 1)) with hj | hj
        · refine Ev.eq hj ?_
          rw [ha]
          cases incFrom s 1 <;> simp
        · exact absurd ha hj.2
end Go.Proofs.Ytellojkbfnfacaa.Q
