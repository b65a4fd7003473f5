/- Traces: copies, comparisons, marks and checks; no conditions beyond those written. -/
import Derived.Test.YteobbgofbedgdaaQx0
import Derived.Test.YteobbgofbedgdaaHValidTrace
import Derived.Test.YteobbgofbedgdaaQx1
import Derived.Test.YteobbgofbedgdaaSaddr
import Derived.Test.YteobbgofbedgdaaSbase
import Derived.Test.YteobbgofbedgdaaSokaddr
namespace Go.Proofs.Yteobbgofbedgdaa.Q
open Go.RowKit Go.Proofs.YteobbgofbedgdaaW.PrintWords Go.Proofs.YteobbgofbedgdaaW.PrintLast Go.Proofs.YteobbgofbedgdaaW.PrintMore
attribute [local go_sem] max2_int min2_int max_two min_two max_three min_three max_four min_four   -- for this text's walks alone
set_option linter.unusedVariables false
set_option linter.unusedSimpArgs false

def toImpl (x : S62) : S60 := ⟨x.f0, x.f1⟩
theorem rdI_lt (l : List S60) (i : Nat) (h : i < l.length) : rd_T60 l (i : Int) = l[i] := by
  show l.getD i _ = l[i]
  rw [List.getD_eq_getElem?_getD, List.getElem?_eq_getElem h, Option.getD_some]
theorem rdL_lt (l : List S62) (i : Nat) (h : i < l.length) : rd_T62 l (i : Int) = l[i] := by
  show l.getD i _ = l[i]
  rw [List.getD_eq_getElem?_getD, List.getElem?_eq_getElem h, Option.getD_some]
theorem dropI (l : List S60) (i : Nat) (h : i < l.length) : l.drop i = rd_T60 l (i : Int) :: l.drop (i + 1) := by
  rw [rdI_lt l i h]
  exact List.drop_eq_getElem_cons h
theorem szAccessS_big (l : List S62) (h : ¬ l.length ≤ 1048576) (hl : l.length ≤ 9223372036854775807) : laws_szAccessS.f l 1048576 = some (-1) := by
  unfold laws_szAccessS.f
  rw [wrap64_id (by omega) (by omega), if_pos (by omega)]
theorem szAccessS_small (l : List S62) (h : l.length ≤ 1048576) : laws_szAccessS.f l 1048576 = some (1048576 - (l.length : Int)) := by
  unfold laws_szAccessS.f
  rw [wrap64_id (by omega) (by omega), if_neg (by omega)]
theorem ev_toAccessS (l : List S62) (h : l.length ≤ 17592186044416) : Ev (fun k => laws_toAccessS.f k l) (l.map toImpl) := by
  unfold laws_toAccessS.f
  refine Ev.ite_pos (by omega) (Ev.ite_pos (by omega) ?_)
  rw [show ((l.length : Int) : Int).toNat = l.length from Int.toNat_natCast _]
  have S0 : List.replicate l.length z60 = (l.map toImpl).take 0 ++ List.replicate (l.length - 0) z60 := by simp
  rw [S0]
  refine Ev.up (fun i k => laws_toAccessS.l0 k l ((l.map toImpl).take i ++ List.replicate (l.length - i) z60) (i : Int)) l.length (l.map toImpl) ?_ ?_
  · apply Ev.succ
    simp only [laws_toAccessS.l0]
    refine Ev.ite_neg (by omega) ?_
    rw [List.take_of_length_le (by simp), Nat.sub_self, List.replicate_zero, List.append_nil]
    exact Ev.now _
  · intro i hi ih
    apply Ev.succ
    simp only [laws_toAccessS.l0]
    refine Ev.ite_pos (by omega) (Ev.ite_pos (by omega) (Ev.cbind rfl (Ev.ite_pos ?_ ?_)))
    · simp; omega
    · rw [wrap64_succ (by omega), Int.toNat_natCast, rdL_lt l i hi]
      have e : ((l.map toImpl).take i ++ List.replicate (l.length - i) z60).set i (⟨(l[i]).f0, (l[i]).f1⟩ : S60) = (l.map toImpl).take (i + 1) ++ List.replicate (l.length - (i + 1)) z60 := by
        have hlen : ((l.map toImpl).take i).length = i := by simp; omega
        rw [List.take_succ_eq_append_getElem (by simpa using hi), List.set_append_right (h := by omega), List.append_assoc, hlen, Nat.sub_self]
        have e2 : List.replicate (l.length - i) z60 = z60 :: List.replicate (l.length - (i + 1)) z60 := by
          rw [← List.replicate_succ]; congr 1; omega
        rw [e2, List.set_cons_zero]
        simp [toImpl]
      rw [e]
      exact ih
theorem ev_eqAccessS_same (a : List S60) (h : a.length ≤ 17592186044416) : Ev (fun k => laws_eqAccessS.f k a a) true := by
  unfold laws_eqAccessS.f
  refine Ev.ite_pos rfl (Ev.up (fun i k => laws_eqAccessS.l0 k a a (i : Int)) a.length true ?_ ?_)
  · apply Ev.succ
    simp only [laws_eqAccessS.l0]
    exact Ev.ite_neg (by omega) (Ev.now _)
  · intro i hi ih
    apply Ev.succ
    simp only [laws_eqAccessS.l0]
    refine Ev.ite_pos (by omega) (Ev.ite_pos (by omega) (Ev.ite_pos (by omega) (Ev.cbind (a := true) ?_ (Ev.ite_pos rfl ?_))))
    · unfold laws_eqAccess.f
      rw [if_pos rfl, if_pos rfl]
    · rw [wrap64_succ (by omega)]; exact ih
theorem ev_markAccessS (l : List S60) (h : l.length ≤ 17592186044416) : ∃ m r, 0 ≤ m ∧ Ev (fun k => laws_markAccessS.f k l 1) (m, r) := by
  unfold laws_markAccessS.f
  have key := Ev.inv (fun (s : Nat × List S60) k => laws_markAccessS.l0 k s.2 (1 + 2 * (s.1 : Int)) (s.1 : Int)) (fun r => 0 ≤ r.1) (fun s => s.1 ≤ l.length ∧ s.2.length = l.length) (fun s => l.length - s.1) ?_ (0, l) ⟨by omega, rfl⟩
  · obtain ⟨r, hr, he⟩ := key
    exact ⟨r.1, r.2, hr, he⟩
  · rintro ⟨i, x⟩ ⟨h1, h2⟩
    replace h1 : i ≤ l.length := h1
    replace h2 : x.length = l.length := h2
    by_cases hi : i < l.length
    · right
      refine ⟨(i + 1, (x.set i (⟨1 + 2 * (i : Int), (rd_T60 x (i : Int)).f1⟩ : S60)).set i (⟨(rd_T60 (x.set i (⟨1 + 2 * (i : Int), (rd_T60 x (i : Int)).f1⟩ : S60)) (i : Int)).f0, 1 + 2 * (i : Int) + 1⟩ : S60)), ⟨by simp; omega, by simpa using h2⟩, by simp; omega, fun r hr => ?_⟩
      apply Ev.succ
      simp only [laws_markAccessS.l0] at hr ⊢
      refine Ev.ite_pos (by show (i : Int) < (x.length : Int); omega) (Ev.ite_pos (by omega) ?_)
      simp only [Option.bind_some, Int.toNat_natCast]
      rw [wrap64_succ (by omega), wrap64_id (x := 1 + 2 * (i : Int) + 1) (by omega) (by omega), wrap64_id (by omega) (by omega), show 1 + 2 * (i : Int) + 1 + 1 = 1 + 2 * ((i + 1 : Nat) : Int) by omega]
      exact hr
    · left
      refine ⟨(1 + 2 * (i : Int), x), by (try dsimp only); omega, ?_⟩
      apply Ev.succ
      simp only [laws_markAccessS.l0]
      exact Ev.ite_neg (by show ¬ (i : Int) < (x.length : Int); omega) (Ev.now _)
theorem spec_l02Kind_f (n : Int) : spec_l02Kind.f n = some (decide (0 ≤ n) && decide (n ≤ 1)) := by
  unfold spec_l02Kind.f
  by_cases h : n = 0
  · subst h; rfl
  · rw [if_neg h]
    by_cases h1 : n = 1
    · subst h1; rfl
    · have e1 : (n == 1) = false := by simpa using h1
      rw [e1]
      by_cases h2 : 0 ≤ n
      · have : ¬ n ≤ 1 := by omega
        simp [this]
      · simp [h2]
theorem ev_l02Is (l : List S60) (h : l.length ≤ 17592186044416) : Ev (fun k => spec_l02Is.f k l) (okTrace l) := by
  unfold spec_l02Is.f
  have key := Ev.down (fun i k => spec_l02Is.l0 k l (i : Int)) l.length (fun i => decide (l.length ≤ 60) && (l.drop i).all okAcc) ?_ ?_ 0 (Nat.zero_le _)
  · exact Ev.eq key (by simp [okTrace])
  · apply Ev.succ
    simp only [spec_l02Is.l0]
    refine Ev.ite_neg (by omega) (Ev.eq (Ev.now _) ?_)
    simp; omega
  · intro i hi ih
    apply Ev.succ
    simp only [spec_l02Is.l0]
    refine Ev.ite_pos (by omega) (Ev.ite_pos (by omega) (Ev.cbind (spec_l02Kind_f _) ?_))
    rw [dropI l i hi, List.all_cons]
    have eo : okAcc (rd_T60 l (i : Int)) = ((decide (0 ≤ (rd_T60 l (i : Int)).f0) && decide ((rd_T60 l (i : Int)).f0 ≤ 1)) && okAddr (rd_T60 l (i : Int)).f1) := rfl
    rw [eo]
    cases (decide (0 ≤ (rd_T60 l (i : Int)).f0) && decide ((rd_T60 l (i : Int)).f0 ≤ 1)) with
    | false => exact Ev.ite_neg (by simp) (Ev.eq (Ev.now _) (by simp))
    | true =>
      refine Ev.ite_pos rfl (Ev.cbind (spec_l02Address_f _) ?_)
      cases okAddr (rd_T60 l (i : Int)).f1 with
      | false => exact Ev.ite_neg (by simp) (Ev.eq (Ev.now _) (by simp))
      | true =>
        refine Ev.ite_pos rfl ?_
        rw [wrap64_succ (by omega)]
        exact Ev.eq ih (by simp)
theorem okTrace_acc {l : List S60} (h : okTrace l = true) : l.length ≤ 60 ∧ ∀ x ∈ l, 0 ≤ x.f1 ∧ x.f1 ≤ 63 := by
  unfold okTrace at h
  rw [Bool.and_eq_true, decide_eq_true_eq] at h
  refine ⟨h.1, fun x hx => ?_⟩
  have := List.all_eq_true.1 h.2 x hx
  simp [okAcc] at this
  omega
end Go.Proofs.Yteobbgofbedgdaa.Q
