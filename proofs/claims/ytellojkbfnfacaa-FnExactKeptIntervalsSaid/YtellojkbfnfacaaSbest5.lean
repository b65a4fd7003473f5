/- The best replacement as the reference tells it: the same; no conditions beyond those written. -/
import Derived.Test.YtellojkbfnfacaaQx0
import Derived.Test.YtellojkbfnfacaaHvictim
import Derived.Test.YtellojkbfnfacaaQx7
import Derived.Test.YtellojkbfnfacaaSbase
import Derived.Test.YtellojkbfnfacaaSbest
import Derived.Test.YtellojkbfnfacaaSusesimpl
import Derived.Test.YtellojkbfnfacaaSintervals
import Derived.Test.YtellojkbfnfacaaSl00put
import Derived.Test.YtellojkbfnfacaaSmaxfunc
import Derived.Test.YtellojkbfnfacaaSnext5
import Derived.Test.YtellojkbfnfacaaSsetl
import Derived.Test.YtellojkbfnfacaaSsortl
import Derived.Test.YtellojkbfnfacaaSupto
namespace Go.Proofs.Ytellojkbfnfacaa.Q
open Go.RowKit Go.Proofs.YtellojkbfnfacaaW.PrintWords Go.Proofs.YtellojkbfnfacaaW.PrintLast Go.Proofs.YtellojkbfnfacaaW.PrintMore
attribute [local go_sem] max2_int min2_int max_two min_two max_three min_three max_four min_four   -- for this text's walks alone
set_option linter.unusedVariables false
set_option linter.unusedSimpArgs false

/-- The first of a rising list whose next use comes last. -/
def bI (U : List Int) (i : Nat) (s : List Int) : Nat → Nat
  | 0 => 0
  | t + 1 => if wt U i (rd s ((t + 1 : Nat) : Int)) > wt U i (rd s (bI U i s t : Int)) then t + 1 else bI U i s t
theorem bI_le (U : List Int) (i : Nat) (s : List Int) (t : Nat) : bI U i s t ≤ t := by
  induction t with
  | zero => simp [bI]
  | succ t ih => unfold bI; split <;> omega
theorem bI_max (U : List Int) (i : Nat) (s : List Int) (hl : U.length ≤ 60) (hs : Inc s) (hr : ∀ x ∈ s, 0 ≤ x ∧ x ≤ 63) (t : Nat) (ht : t < s.length) : rd s (bI U i s t : Int) = maxTo (vcmp U i) s t := by
  induction t with
  | zero => rfl
  | succ t ih =>
    have h1 := ih (by omega)
    have hb := bI_le U i s t
    have w1 := wt_range U i (rd s ((t + 1 : Nat) : Int)) hl
    have w2 := wt_range U i (rd s (bI U i s t : Int)) hl
    have r1 := hr _ (List.getElem_mem (l := s) (n := t + 1) (by omega))
    have r2 := hr _ (List.getElem_mem (l := s) (n := bI U i s t) (by omega))
    rw [← rd_lt s (t + 1) (by omega)] at r1
    rw [← rd_lt s (bI U i s t) (by omega)] at r2
    have hlt : rd s (bI U i s t : Int) < rd s ((t + 1 : Nat) : Int) := by
      rw [rd_lt s (t + 1) (by omega), rd_lt s (bI U i s t) (by omega)]
      exact List.pairwise_iff_getElem.1 hs _ _ (by omega) (by omega) (by omega)
    have e1 : vcmp U i (rd s ((t + 1 : Nat) : Int)) (maxTo (vcmp U i) s t) = if wt U i (rd s ((t + 1 : Nat) : Int)) - wt U i (rd s (bI U i s t : Int)) = 0 then rd s (bI U i s t : Int) - rd s ((t + 1 : Nat) : Int) else wt U i (rd s ((t + 1 : Nat) : Int)) - wt U i (rd s (bI U i s t : Int)) := by
      rw [← h1]; unfold vcmp
      rw [wrap64_id (by omega) (by omega), wrap64_id (by omega) (by omega)]
    unfold bI maxTo
    by_cases h : wt U i (rd s ((t + 1 : Nat) : Int)) > wt U i (rd s (bI U i s t : Int))
    · rw [if_neg (by omega)] at e1
      rw [if_pos h, e1, if_pos (by omega)]
    · rw [if_neg h]
      by_cases hz : wt U i (rd s ((t + 1 : Nat) : Int)) - wt U i (rd s (bI U i s t : Int)) = 0
      · rw [if_pos hz] at e1
        rw [e1, if_neg (by omega)]; exact h1
      · rw [if_neg hz] at e1
        rw [e1, if_neg (by omega)]; exact h1
/-- A list without one place. -/
def restTo (s : List Int) (b j : Nat) : List Int := s.take (min j b) ++ (s.take j).drop (b + 1)
theorem restTo_same (s : List Int) (b : Nat) (h : b < s.length) : restTo s b (b + 1) = restTo s b b := by
  unfold restTo
  rw [Nat.min_eq_right (by omega), Nat.min_self, List.drop_eq_nil_of_le (by rw [List.length_take]; omega), List.drop_eq_nil_of_le (by rw [List.length_take]; omega)]
theorem restTo_more (s : List Int) (b j : Nat) (hj : j < s.length) (h : j ≠ b) : restTo s b (j + 1) = restTo s b j ++ [rd s (j : Int)] := by
  unfold restTo
  by_cases hlt : j < b
  · rw [Nat.min_eq_left (by omega), Nat.min_eq_left (by omega), List.drop_eq_nil_of_le (by rw [List.length_take]; omega), List.drop_eq_nil_of_le (by rw [List.length_take]; omega), take_succ_rd s j hj]
    simp
  · rw [Nat.min_eq_right (by omega), Nat.min_eq_right (by omega), take_succ_rd s j hj, List.drop_append_of_le_length (by rw [List.length_take]; omega), List.append_assoc]
theorem restTo_all (s : List Int) (b : Nat) (h : b < s.length) : restTo s b s.length = s.take b ++ s.drop (b + 1) := by
  unfold restTo; rw [Nat.min_eq_right (by omega), List.take_length]
theorem restTo_length (s : List Int) (b j : Nat) : (restTo s b j).length ≤ 2 * s.length := by
  unfold restTo; rw [List.length_append, List.length_drop, List.length_take, List.length_take]; omega
theorem rest_mem {s : List Int} (hs : Inc s) (b : Nat) (h : b < s.length) (x : Int) : x ∈ s.take b ++ s.drop (b + 1) ↔ x ∈ s ∧ x ≠ rd s (b : Int) := by
  have e : s = s.take b ++ s[b] :: s.drop (b + 1) := by rw [← List.drop_eq_getElem_cons h, List.take_append_drop]
  have hd : s.Nodup := hs.imp (fun h => by omega)
  rw [rd_lt s b h]
  obtain ⟨a, ha⟩ : ∃ a, a = s[b] := ⟨_, rfl⟩
  rw [← ha] at e ⊢
  have hd2 := hd
  rw [e, List.nodup_append] at hd2
  obtain ⟨_, h2, h3⟩ := hd2
  rw [List.nodup_cons] at h2
  constructor
  · intro hx
    rcases List.mem_append.1 hx with hx | hx
    · exact ⟨List.mem_of_mem_take hx, h3 x hx a (by simp)⟩
    · exact ⟨List.mem_of_mem_drop hx, fun e => h2.1 (e ▸ hx)⟩
  · rintro ⟨hx, hne⟩
    rw [e] at hx
    rcases List.mem_append.1 hx with hx | hx
    · exact List.mem_append_left _ hx
    · rcases List.mem_cons.1 hx with hx | hx
      · exact absurd hx hne
      · exact List.mem_append_right _ hx
theorem rest_inc {s : List Int} (hs : Inc s) (b : Nat) : Inc (s.take b ++ s.drop (b + 1)) := by
  have : (s.take b ++ s.drop (b + 1)).Sublist s := by
    have h1 : (s.drop (b + 1)).Sublist (s.drop b) := by rw [← List.drop_drop]; exact List.drop_sublist _ _
    have h2 : (s.take b ++ s.drop (b + 1)).Sublist (s.take b ++ s.drop b) := (List.Sublist.refl _).append h1
    rwa [List.take_append_drop] at h2
  exact hs.sublist this
theorem ev_l05Run_l2 (U : List Int) (n : Int) (hl : U.length ≤ 60) (i : Nat) (hi : i < U.length) (vs : List Int) (hs : List Bool) (s : List Int) (vic : Int) (b : Nat) (hb : b < s.length) (hsl : s.length ≤ 100) (r : List Int × List Bool) (hvs : vs.length ≤ 100) (hhs : hs.length ≤ 100)
    (h : Ev (fun k => spec_l05Run.l0 k U n (vs ++ [vic]) (hs ++ [false]) (putL (s.take b ++ s.drop (b + 1)) (rd U (i : Int))) ((i + 1 : Nat) : Int)) r) : Ev (fun k => spec_l05Run.l2 k U n vs hs s (i : Int) vic false (b : Int) [] 0) r := by
  have e0 : restTo s b 0 = [] := by simp [restTo]
  rw [← e0]
  refine Ev.up (fun j k => spec_l05Run.l2 k U n vs hs s (i : Int) vic false (b : Int) (restTo s b j) (j : Int)) s.length r ?_ ?_
  · rw [restTo_all s b hb]
    apply Ev.succ
    simp only [spec_l05Run.l2]
    have hrl : (s.take b ++ s.drop (b + 1)).length ≤ 200 := by rw [List.length_append, List.length_take, List.length_drop]; omega
    refine Ev.ite_neg (by omega) (Ev.ite_neg (by simp) (Ev.ite_pos (by omega) (Ev.ite_pos (by omega) (Ev.bind (ev_l00Put _ _ (by omega)) (Ev.ite_pos (by omega) (Ev.ite_pos (by omega) ?_))))))
    rw [wrap64_succ (by omega)]
    exact h
  · intro j hj ih
    have hrl := restTo_length s b j
    apply Ev.succ
    simp only [spec_l05Run.l2]
    refine Ev.ite_pos (by omega) ?_
    rw [wrap64_succ (by omega)]
    by_cases hjb : j = b
    · rw [hjb, restTo_same s b hb] at ih
      rw [hjb]
      exact Ev.ite_pos rfl ih
    · rw [restTo_more s b j hj hjb] at ih
      exact Ev.ite_neg (by omega) (Ev.ite_pos (by omega) (Ev.ite_pos (by omega) ih))
theorem ev_l05Run_l1 (U : List Int) (n : Int) (hl : U.length ≤ 60) (i : Nat) (hi : i < U.length) (vs : List Int) (hs : List Bool) (s : List Int) (hsl : s.length ≤ 100) (h0 : 0 < s.length) (r : List Int × List Bool) (hvs : vs.length ≤ 100) (hhs : hs.length ≤ 100)
    (h : Ev (fun k => spec_l05Run.l0 k U n (vs ++ [rd s (bI U (i + 1) s (s.length - 1) : Int)]) (hs ++ [false]) (putL (s.take (bI U (i + 1) s (s.length - 1)) ++ s.drop (bI U (i + 1) s (s.length - 1) + 1)) (rd U (i : Int))) ((i + 1 : Nat) : Int)) r) : Ev (fun k => spec_l05Run.l1 k U n vs hs s (i : Int) false 0 1) r := by
  refine Ev.up (fun t k => spec_l05Run.l1 k U n vs hs s (i : Int) false (bI U (i + 1) s t : Int) ((t + 1 : Nat) : Int)) (s.length - 1) r ?_ ?_
  · have hb := bI_le U (i + 1) s (s.length - 1)
    apply Ev.succ
    simp only [spec_l05Run.l1]
    exact Ev.ite_neg (by omega) (Ev.ite_pos (by omega) (Ev.ite_pos (by omega) (ev_l05Run_l2 U n hl i hi vs hs s _ _ (by omega) hsl r hvs hhs h)))
  · intro t ht ih
    have hb := bI_le U (i + 1) s t
    unfold bI at ih
    apply Ev.succ
    simp only [spec_l05Run.l1]
    refine Ev.ite_pos (by omega) (Ev.ite_pos (by omega) (Ev.bind (ev_l05Next U _ i (by omega) (by omega)) (Ev.ite_pos (by omega) (Ev.ite_pos (by omega) (Ev.bind (ev_l05Next U _ i (by omega) (by omega)) ?_)))))
    rw [wrap64_succ (by omega)]
    have e : ∀ a : Int, (if nx U a (i + 1) < U.length then (nx U a (i + 1) : Int) else 60) = wt U (i + 1) a := fun _ => rfl
    rw [e, e]
    by_cases hc : wt U (i + 1) (rd s ((t + 1 : Nat) : Int)) > wt U (i + 1) (rd s (bI U (i + 1) s t : Int))
    · rw [if_pos hc] at ih; exact Ev.ite_pos hc ih
    · rw [if_neg hc] at ih; exact Ev.ite_neg hc ih
section
variable (U : List Int) (n : Int) (hn : 1 ≤ n) (hn6 : n ≤ 6) (hU : ∀ x ∈ U, 0 ≤ x ∧ x ≤ 63) (hl : U.length ≤ 60)
include hn hn6 hU hl
theorem ev_l05Run : Ev (fun k => spec_l05Run.f k U n) (bVics U n U.length, bHitsB U n U.length) := by
  unfold spec_l05Run.f
  have e0 : ([] : List Int) = setL (bIn U n 0) := by
    have := setL_length_le (bIn U n 0)
    exact (List.eq_nil_of_length_eq_zero (by simp [bIn] at this; simpa [bIn] using this)).symm
  have key := Ev.up (fun i k => spec_l05Run.l0 k U n (bVics U n i) (bHitsB U n i) (setL (bIn U n i)) (i : Int)) U.length (bVics U n U.length, bHitsB U n U.length) ?_ ?_
  · rw [← e0] at key; exact key
  · apply Ev.succ
    simp only [spec_l05Run.l0]
    exact Ev.ite_neg (by omega) (Ev.now _)
  · intro i hi ih
    obtain ⟨h1, h2, h3, h4⟩ := bIn_facts U n hn hU i (by omega)
    have hv := bVics_length U n i
    have hh := bHitsB_length U n i
    have hsl := setL_nodup_length h1
    obtain ⟨hinc, hmem⟩ := setL_facts (bIn U n i)
    have e1 : bIn U n (i + 1) = bNext U n (bIn U n i) i := rfl
    rw [e1, bVics_succ, bHitsB_succ] at ih
    apply Ev.succ
    simp only [spec_l05Run.l0]
    refine Ev.ite_pos (by omega) (Ev.ite_pos (by omega) (Ev.bind (ev_l00Has _ _ (by omega)) ?_))
    by_cases hm : rd U (i : Int) ∈ bIn U n i
    · have eh : bHit U n i = true := decide_eq_true hm
      have hm2 : rd U (i : Int) ∈ setL (bIn U n i) := (hmem _).2 hm
      rw [eh] at ih
      unfold bNext bOld at ih
      rw [if_pos hm, if_pos hm] at ih
      refine Ev.ite_pos (decide_eq_true hm2) ?_
      apply Ev.succ
      simp only [spec_l05Run.j1]
      rw [decide_eq_true hm2]
      refine Ev.ite_neg (by simp) (Ev.ite_pos rfl (Ev.ite_pos (by omega) (Ev.ite_pos (by omega) ?_)))
      rw [wrap64_succ (by omega)]
      exact ih
    · have eh : bHit U n i = false := decide_eq_false hm
      have hm2 : ¬ rd U (i : Int) ∈ setL (bIn U n i) := fun h => hm ((hmem _).1 h)
      rw [eh] at ih
      unfold bNext bOld at ih
      rw [if_neg hm, if_neg hm] at ih
      refine Ev.ite_neg (by simpa using hm2) ?_
      apply Ev.succ
      simp only [spec_l05Run.j1]
      rw [decide_eq_false hm2]
      by_cases hf : ((bIn U n i).length : Int) < n
      · rw [if_pos hf, if_pos hf] at ih
        refine Ev.ite_neg (by simp; omega) (Ev.ite_neg (by simp) (Ev.ite_pos (by omega) (Ev.ite_pos (by omega) (Ev.bind (ev_l00Put _ _ (by omega)) (Ev.ite_pos (by omega) (Ev.ite_pos (by omega) ?_))))))
        rw [wrap64_succ (by omega)]
        have e : setL (bIn U n i ++ [rd U (i : Int)]) = putL (setL (bIn U n i)) (rd U (i : Int)) := setL_eq (putL_inc _ _ hinc) (fun x => by rw [putL_mem, hmem, List.mem_append, List.mem_singleton]; exact or_comm)
        rw [e] at ih
        exact ih
      · rw [if_neg hf, if_neg hf] at ih
        refine Ev.ite_pos (by simp; omega) (ev_l05Run_l1 U n hl i hi _ _ _ (by omega) (by omega) _ (by omega) (by omega) ?_)
        have hpos : 0 < (setL (bIn U n i)).length := by omega
        have hvm := bVic_mem U (bIn U n i) i hpos
        have hb := bI_le U (i + 1) (setL (bIn U n i)) ((setL (bIn U n i)).length - 1)
        have emax : rd (setL (bIn U n i)) (bI U (i + 1) (setL (bIn U n i)) ((setL (bIn U n i)).length - 1) : Int) = bVic U (bIn U n i) i := bI_max U (i + 1) _ hl hinc (fun x hx => h4 x ((hmem x).1 hx)) _ (by omega)
        have e : setL ((bIn U n i).set (bIdx (bIn U n i) (bVic U (bIn U n i) i)) (rd U (i : Int))) = putL ((setL (bIn U n i)).take (bI U (i + 1) (setL (bIn U n i)) ((setL (bIn U n i)).length - 1)) ++ (setL (bIn U n i)).drop (bI U (i + 1) (setL (bIn U n i)) ((setL (bIn U n i)).length - 1) + 1)) (rd U (i : Int)) :=
          setL_eq (putL_inc _ _ (rest_inc hinc _)) (fun x => by rw [putL_mem, rest_mem hinc _ (by omega), emax, hmem, set_mem_iff h1 hvm])
        rw [e] at ih
        rw [emax]
        exact ih
end
end Go.Proofs.Ytellojkbfnfacaa.Q
