/- Parts of the proof, laid together: contracts and lemmas; no conditions beyond those written. -/
import Derived.Test.YtdhkcnhmmiigoaaQx0
import Derived.Test.YtdhkcnhmmiigoaaQx1
import Derived.Test.YtdhkcnhmmiigoaaSxor
import Derived.Test.YtdhkcnhmmiigoaaSsetl
import Derived.Test.YtdhkcnhmmiigoaaSheldindex
import Derived.Test.YtdhkcnhmmiigoaaQx2
import Derived.Test.YtdhkcnhmmiigoaaSlead
namespace Go.Proofs.Ytdhkcnhmmiigoaa.Q
open Go.RowKit Go.Proofs.YtdhkcnhmmiigoaaW.PrintWords Go.Proofs.YtdhkcnhmmiigoaaW.PrintLast Go.Proofs.YtdhkcnhmmiigoaaW.PrintMore
attribute [local go_sem] max2_int min2_int max_two min_two max_three min_three max_four min_four   -- for this text's walks alone
set_option linter.unusedVariables false
set_option linter.unusedSimpArgs false
section
def lu (l : List Int) (a : Int) : Nat → Int
  | 0 => -1
  | i + 1 => if rd l (i : Int) = a then (i : Int) else lu l a i
theorem lu_range (l : List Int) (a : Int) (i : Nat) : -1 ≤ lu l a i ∧ lu l a i < (i : Int) := by
  induction i with
  | zero => exact ⟨by simp [lu], by simp [lu]⟩
  | succ i ih =>
    unfold lu
    split <;> omega
theorem lu_hit {l : List Int} {a : Int} {i : Nat} (h : 0 ≤ lu l a i) : rd l (lu l a i) = a := by
  induction i with
  | zero => simp [lu] at h
  | succ i ih =>
    unfold lu at h ⊢
    by_cases e : rd l (i : Int) = a
    · rw [if_pos e]; exact e
    · rw [if_neg e] at h ⊢; exact ih h
theorem lu_after {l : List Int} {a : Int} {i : Nat} : ∀ j : Nat, lu l a i < (j : Int) → j < i → rd l (j : Int) ≠ a := by
  induction i with
  | zero => intro j _ h; omega
  | succ i ih =>
    intro j h1 h2
    unfold lu at h1
    by_cases e : rd l (i : Int) = a
    · rw [if_pos e] at h1; omega
    · rw [if_neg e] at h1
      by_cases hj : j = i
      · subst hj; exact e
      · exact ih j h1 (by omega)
theorem rd_take (l : List Int) (n j : Nat) (h : j < n) : rd (l.take n) (j : Int) = rd l (j : Int) := by
  show (l.take n).getD j 0 = l.getD j 0
  rw [List.getD_eq_getElem?_getD, List.getD_eq_getElem?_getD, List.getElem?_take_of_lt h]
theorem lu_take (l : List Int) (a : Int) (n i : Nat) (h : i ≤ n) : lu (l.take n) a i = lu l a i := by
  induction i with
  | zero => rfl
  | succ i ih =>
    unfold lu
    rw [rd_take l n i (by omega), ih (by omega)]
theorem ev_lastUse_l0 (l : List Int) (a : Int) (h : l.length ≤ 35184372088832) : ∀ i : Nat, i ≤ l.length → Ev (fun k => impl_lastUse.l0 k l a ((i : Int) - 1)) (lu l a i) := by
  intro i
  induction i with
  | zero =>
    intro _
    apply Ev.succ
    simp only [impl_lastUse.l0]
    exact Ev.ite_neg (by omega) (Ev.now _)
  | succ i ih =>
    intro hi
    apply Ev.succ
    simp only [impl_lastUse.l0]
    rw [show ((i + 1 : Nat) : Int) - 1 = (i : Int) by omega]
    refine Ev.ite_pos (by omega) (Ev.ite_pos (by omega) (Ev.ite_pos (by omega) ?_))
    unfold lu
    by_cases e : rd l (i : Int) = a
    · rw [if_pos e]; exact Ev.ite_pos e (Ev.now _)
    · rw [if_neg e, wrap64_id (by omega) (by omega)]
      exact Ev.ite_neg e (ih (by omega))
theorem ev_lastUse (l : List Int) (a : Int) (h : l.length ≤ 35184372088832) : Ev (fun k => impl_lastUse.f k l a) (lu l a l.length) := by
  unfold impl_lastUse.f
  rw [wrap64_id (by omega) (by omega)]
  exact ev_lastUse_l0 l a h l.length (Nat.le_refl _)
theorem ev_lastUse_take (l : List Int) (a : Int) (i : Nat) (hi : i ≤ l.length) (h : l.length ≤ 35184372088832) : Ev (fun k => impl_lastUse.f k (l.take i) a) (lu l a i) := by
  have hl : (l.take i).length = i := by simp; omega
  have := ev_lastUse (l.take i) a (by omega)
  rwa [hl, lu_take l a i i (Nat.le_refl _)] at this
/-- What has been used between the last use of an address and its use i. -/
def between (l : List Int) (i : Nat) : List Int := setL ((l.take i).drop (lu l (rd l (i : Int)) i + 1).toNat)
theorem between_length (l : List Int) (i : Nat) : (between l i).length ≤ i := by
  unfold between
  have h := setL_length_le ((l.take i).drop (lu l (rd l (i : Int)) i + 1).toNat)
  rw [List.length_drop, List.length_take] at h
  omega
end
section
theorem par_spec : ∀ n : Fin 64, spec_l06Parity.f 8 (n.val : Int) = some (par (n.val : Int)) := by decide +kernel
theorem ev_l06Parity {n : Int} (h0 : 0 ≤ n) (h1 : n ≤ 63) : Ev (fun k => spec_l06Parity.f k n) (par n) := by
  obtain ⟨m, rfl⟩ := fin_of h0 h1
  exact Ev.of (spec_l06Parity.mono _) (par_spec m)
section
variable (rows : List Int) (a : Int) (hl : rows.length ≤ 3) (hr : ∀ x ∈ rows, 0 ≤ x ∧ x ≤ 63) (h0 : 0 ≤ a) (h1 : a ≤ 63)
include hl hr h0 h1
theorem ev_l06Set : Ev (fun k => spec_l06Set.f k rows a) (setVal rows a) := by
  unfold spec_l06Set.f
  refine Ev.fold (fun i s k => spec_l06Set.l0 k rows a s (i : Int)) rows.length (setStep rows a) (fun s => s) (fun _ _ => True) ?_ (fun _ _ _ _ => trivial) ?_ rows.length 0 0 (by omega) trivial
  · intro s _
    apply Ev.succ
    simp only [spec_l06Set.l0]
    exact Ev.ite_neg (by omega) (Ev.now _)
  · intro i s r hi _ ih
    apply Ev.succ
    simp only [spec_l06Set.l0]
    have hm := hr (rd rows (i : Int)) (by rw [rd_lt rows i hi]; exact List.getElem_mem hi)
    have ha := and_range hm.1 hm.2 h0 h1
    have hw : IntKind.u64.wrap (i : Int) = (i : Int) := by
      obtain rfl | rfl | rfl : i = 0 ∨ i = 1 ∨ i = 2 := by omega
      all_goals decide +kernel
    refine Ev.ite_pos (by omega) (Ev.ite_pos (by omega) (Ev.bind (ev_l06Parity ha.1 ha.2) ?_))
    rw [hw, wrap64_succ (by omega)]
    exact Ev.ite_pos (by omega) ih
end
end
section
theorem R_of_own {w : World} {base : Nat} {e : TypeId} {v : Value} {xs : List Int} (h : w.ownsRow base e 1 v xs.length (xs.map (Value.int .i64))) : Kd.R (Kd.int .i64) e w base (fun _ => True) v xs := by
  refine ⟨fun _ _ => trivial, xs.map (Value.int .i64), h, by show _ = xs.length * 1; simp, fun j p hj => ?_⟩
  show ((xs.map (Value.int .i64)).drop (j * 1)).take 1 = [Value.int .i64 p]
  rw [Nat.mul_one]
  have hl : j < xs.length := (List.getElem?_eq_some_iff.1 hj).1
  have hp : xs[j] = p := (List.getElem?_eq_some_iff.1 hj).2
  rw [List.drop_eq_getElem_cons (by simpa using hl)]
  simp [hp]
theorem own_of_R {w : World} {base : Nat} {e : TypeId} {ok : Nat → Prop} {v : Value} {xs : List Int} (h : Kd.R (Kd.int .i64) e w base ok v xs) : w.ownsRow base e 1 v xs.length (xs.map (Value.int .i64)) := by
  obtain ⟨_, inner, ho, hr⟩ := h
  have : inner = xs.map (Value.int .i64) := by
    apply List.ext_getElem
    · have h0 : inner.length = xs.length * 1 := hr.1
      simpa using h0
    · intro j h1 h2
      have hj : j < xs.length := by simpa using h2
      have hq := hr.2 j xs[j] (List.getElem?_eq_getElem hj)
      replace hq : (inner.drop (j * 1)).take 1 = [Value.int .i64 xs[j]] := hq
      rw [Nat.mul_one, List.drop_eq_getElem_cons h1, List.take_succ_cons, List.take_zero] at hq
      rw [List.getElem_map]
      exact (List.cons.inj hq).1
  rw [← this]
  exact ho
theorem C_of_own {w : World} {base n : Nat} {e : TypeId} {v : Value} {xs : List Int} (h : w.ownsRow base e 1 v xs.length (xs.map (Value.int .i64))) : ∃ A c, v = .slice A xs.length c ∧ xs.length ≤ c ∧ Kd.C (Kd.int .i64) w A xs.length xs := Kd.R_reads (R_of_own h)
end
end Go.Proofs.Ytdhkcnhmmiigoaa.Q
