/- Stacks of ranks; no conditions beyond those written. -/
import Derived.Test.YteobbgofbedgdaaQx0
import Derived.Test.YteobbgofbedgdaaQx2
import Derived.Test.YteobbgofbedgdaaSbase
import Derived.Test.YteobbgofbedgdaaSsetlimpl
namespace Go.Proofs.Yteobbgofbedgdaa.Q
open Go.RowKit Go.Proofs.YteobbgofbedgdaaW.PrintWords Go.Proofs.YteobbgofbedgdaaW.PrintLast Go.Proofs.YteobbgofbedgdaaW.PrintMore
attribute [local go_sem] max2_int min2_int max_two min_two max_three min_three max_four min_four   -- for this text's walks alone
set_option linter.unusedVariables false
set_option linter.unusedSimpArgs false

def goN (R : List Int) (c : Int) : List Int → List Int
  | [] => [c]
  | x :: xs => if rd R c < rd R x then c :: goN R x xs else x :: goN R c xs
theorem goN_length (R : List Int) : ∀ (xs : List Int) (c : Int), (goN R c xs).length = xs.length + 1
  | [], c => rfl
  | x :: xs, c => by
    unfold goN
    split
    · rw [List.length_cons, goN_length R xs x, List.length_cons]
    · rw [List.length_cons, goN_length R xs c, List.length_cons]
theorem goN_mem (R : List Int) : ∀ (xs : List Int) (c y : Int), y ∈ goN R c xs → y = c ∨ y ∈ xs
  | [], c, y, h => by simp [goN] at h; exact .inl h
  | x :: xs, c, y, h => by
    unfold goN at h
    split at h
    · rcases List.mem_cons.1 h with h | h
      · exact .inl h
      · rcases goN_mem R xs x y h with h | h
        · exact .inr (by simp [h])
        · exact .inr (by simp [h])
    · rcases List.mem_cons.1 h with h | h
      · exact .inr (by simp [h])
      · rcases goN_mem R xs c y h with h | h
        · exact .inl h
        · exact .inr (by simp [h])
def fi (S : List Int) (a : Int) : Nat := S.findIdx (fun x => x == a)
theorem fi_le (S : List Int) (a : Int) : fi S a ≤ S.length := List.findIdx_le_length
theorem fi_hit {S : List Int} {a : Int} (h : fi S a < S.length) : rd S (fi S a : Int) = a := by
  rw [rd_lt S _ h]
  have := List.findIdx_getElem (w := h)
  simp only [beq_iff_eq] at this
  exact this
theorem fi_before {S : List Int} {a : Int} {i : Nat} (h : i < fi S a) : rd S (i : Int) ≠ a := by
  have hl := fi_le S a
  rw [rd_lt S i (by omega)]
  have := List.not_of_lt_findIdx h
  simpa using this
def at_ (S : List Int) (a : Int) : Int := if fi S a < S.length then (fi S a : Int) else -1
def push (R S : List Int) (a : Int) : List Int :=
  if S.length = 0 then [a] else if fi S a = 0 then S else a :: (goN R (rd S 0) ((S.take (fi S a)).drop 1) ++ S.drop (fi S a + 1))
theorem push_length (R S : List Int) (a : Int) : (push R S a).length ≤ S.length + 1 := by
  have hl := fi_le S a
  unfold push
  split
  · simp
  · split
    · omega
    · rw [List.length_cons, List.length_append, goN_length, List.length_drop, List.length_drop, List.length_take]; omega
def In64 (S : List Int) : Prop := ∀ x ∈ S, 0 ≤ x ∧ x ≤ 63
theorem In64.at {S : List Int} (h : In64 S) (i : Nat) (hi : i < S.length) : 0 ≤ rd S (i : Int) ∧ rd S (i : Int) ≤ 63 := by
  rw [rd_lt S i hi]; exact h _ (List.getElem_mem hi)
theorem push_in (R S : List Int) (a : Int) (hS : In64 S) (ha : 0 ≤ a ∧ a ≤ 63) : In64 (push R S a) := by
  unfold push
  split
  · intro x hx; rw [List.mem_singleton.1 hx]; exact ha
  · rename_i h0
    split
    · exact hS
    · intro x hx
      rcases List.mem_cons.1 hx with rfl | hx
      · exact ha
      · rcases List.mem_append.1 hx with hx | hx
        · rcases goN_mem R _ _ x hx with rfl | hx
          · exact hS.at 0 (by omega)
          · exact hS x (List.mem_of_mem_take (List.mem_of_mem_drop hx))
        · exact hS x (List.mem_of_mem_drop hx)
theorem rd_take2 (l : List Int) (n j : Nat) (h : j < n) (hl : n ≤ l.length) : rd (l.take n) (j : Int) = rd l (j : Int) := by
  rw [rd_lt _ j (by rw [List.length_take]; omega), rd_lt l j (by omega), List.getElem_take]
theorem mid_succ (S : List Int) (n i : Nat) (h : i < n) (hl : n ≤ S.length) : (S.take n).drop i = rd S (i : Int) :: (S.take n).drop (i + 1) := by
  rw [drop_rd _ i (by rw [List.length_take]; omega), rd_take2 S n i h hl]
theorem mid_set (st : List Int) (i : Nat) (c : Int) (last : Nat) : ((st.set i c).take last).drop (i + 1) = (st.take last).drop (i + 1) := by
  rw [List.take_set, List.drop_set_of_lt (by omega)]
theorem ev_run_l1 (R U : List Int) (places : List Int) (j : Nat) (hR : R.length = 64) (hj : j < 1000000000) (r : List Int × List Int) (last : Nat) (h1 : 1 ≤ last) : ∀ (d i : Nat) (c : Int) (st : List Int), i + d = last → last < st.length → st.length ≤ 1000000000 → 0 ≤ c ∧ c ≤ 63 → In64 st →
    Ev (fun k => impl_rankRun.l0 k R (st.take i ++ (goN R c ((st.take last).drop i) ++ st.drop (last + 1))) places U (U.length : Int) ((j + 1 : Nat) : Int)) r →
    Ev (fun k => impl_rankRun.l1 k R st places (last : Int) c (i : Int) U (U.length : Int) (j : Int)) r := by
  intro d
  induction d with
  | zero =>
    intro i c st hi hl hll hc hs h
    have hi2 : i = last := by omega
    have hmid : (st.take last).drop i = [] := by rw [List.drop_of_length_le (by rw [List.length_take]; omega)]
    rw [hmid, hi2] at h
    apply Ev.succ
    simp only [impl_rankRun.l1]
    refine Ev.ite_neg (by omega) (Ev.ite_pos (by omega) (Ev.ite_pos (by omega) (Ev.ite_pos (by omega) ?_)))
    rw [wrap64_succ (by omega), Int.toNat_natCast, List.set_eq_take_append_cons_drop, if_pos hl]
    exact h
  | succ d ih =>
    intro i c st hi hl hll hc hs h
    have hx := hs.at i (by omega)
    rw [mid_succ st last i (by omega) (by omega)] at h
    unfold goN at h
    apply Ev.succ
    simp only [impl_rankRun.l1]
    refine Ev.ite_pos (by omega) (Ev.ite_pos (by omega) (Ev.ite_pos (by omega) (Ev.ite_pos (by omega) (Ev.ite_pos (by omega) (Ev.ite_pos (by omega) (Ev.ite_pos (by omega) ?_))))))
    rw [wrap64_succ (by omega), Int.toNat_natCast]
    by_cases hlt : rd R c < rd R (rd st (i : Int))
    · rw [if_pos hlt] at h
      refine Ev.ite_pos hlt (ih (i + 1) _ (st.set i c) (by omega) (by rw [List.length_set]; omega) (by rw [List.length_set]; omega) hx ?_ ?_)
      · intro x hx2
        rcases List.mem_or_eq_of_mem_set hx2 with h2 | h2
        · exact hs x h2
        · rw [h2]; exact hc
      · have e1 : (st.set i c).take (i + 1) = st.take i ++ [c] := by
          rw [List.take_succ_eq_append_getElem (by rw [List.length_set]; omega), List.take_set_of_le (Nat.le_refl _), List.getElem_set_self]
        have e2 : ((st.set i c).take last).drop (i + 1) = (st.take last).drop (i + 1) := by
          exact mid_set st i c last
        have e3 : (st.set i c).drop (last + 1) = st.drop (last + 1) := List.drop_set_of_lt (by omega)
        rw [e1, e2, e3, List.append_assoc]
        exact h
    · rw [if_neg hlt] at h
      refine Ev.ite_neg hlt (ih (i + 1) c st (by omega) hl hll hc hs ?_)
      rw [take_succ_rd st i (by omega), List.append_assoc]
      exact h
theorem ev_run_step (R U S places : List Int) (j : Nat) (hj : j < U.length) (hU : U.length ≤ 1000000) (hR : R.length = 64) (hS : In64 S) (hl : S.length ≤ 1000000) (hp : places.length ≤ 1000000) (ha : 0 ≤ rd U (j : Int) ∧ rd U (j : Int) ≤ 63) (r : List Int × List Int)
    (h : Ev (fun k => impl_rankRun.l0 k R (push R S (rd U (j : Int))) (places ++ [at_ S (rd U (j : Int))]) U (U.length : Int) ((j + 1 : Nat) : Int)) r) :
    Ev (fun k => impl_rankRun.l0 k R S places U (U.length : Int) (j : Int)) r := by
  obtain ⟨a, hae⟩ : ∃ a, a = rd U (j : Int) := ⟨_, rfl⟩
  have hf := fi_le S a
  apply Ev.succ
  simp only [impl_rankRun.l0]
  rw [← hae] at h ha ⊢
  refine Ev.ite_pos (by omega) (Ev.ite_pos (by omega) (Ev.ite_pos (by omega) (Ev.bind (a := at_ S a) (ev_slices_Index S a (by omega)) (Ev.ite_pos (by omega) (Ev.cbind rfl ?_)))))
  rw [wrap64_succ (by omega)]
  unfold push at h
  by_cases hz : fi S a < S.length
  · have he : at_ S a = (fi S a : Int) := by unfold at_; rw [if_pos hz]
    rw [he] at h ⊢
    rw [if_neg (by omega)] at h
    by_cases h0 : fi S a = 0
    · rw [if_pos h0] at h
      exact Ev.ite_pos (by omega) h
    · rw [if_neg h0] at h
      refine Ev.ite_neg (by omega) (Ev.ite_neg (by omega) (Ev.succ ?_))
      simp only [impl_rankRun.j1]
      refine Ev.ite_pos (by omega) (ev_run_l1 R U _ j hR (by omega) r (fi S a) (by omega) (fi S a - 1) 1 (rd S 0) _ (by omega) (by rw [List.length_set]; exact hz) (by rw [List.length_set]; omega) (hS.at 0 (by omega)) ?_ ?_)
      · intro x hx2
        rcases List.mem_or_eq_of_mem_set hx2 with h2 | h2
        · exact hS x h2
        · rw [h2]; exact ha
      · rw [show (S.set (0 : Int).toNat a).take 1 = [a] from by
              cases S with
              | nil => simp at hz
              | cons y ys => rfl,
            show ((S.set (0 : Int).toNat a).take (fi S a)).drop 1 = (S.take (fi S a)).drop 1 from mid_set S 0 a (fi S a),
            show (S.set (0 : Int).toNat a).drop (fi S a + 1) = S.drop (fi S a + 1) from List.drop_set_of_lt (by show (0 : Nat) < _; omega)]
        exact h
  · have he : at_ S a = -1 := by unfold at_; rw [if_neg hz]
    have hfe : fi S a = S.length := by omega
    rw [he] at h ⊢
    refine Ev.ite_neg (by omega) (Ev.ite_pos (by omega) (Ev.ite_pos (by omega) (Ev.succ ?_)))
    simp only [impl_rankRun.j1]
    refine Ev.ite_pos (by rw [List.length_append, List.length_singleton]; omega) ?_
    by_cases h0 : S.length = 0
    · rw [if_pos h0] at h
      have hn := List.eq_nil_of_length_eq_zero h0
      subst hn
      apply Ev.succ
      simp only [impl_rankRun.l1]
      refine Ev.ite_neg (by simp) (Ev.ite_neg (by simp) ?_)
      rw [wrap64_succ (by omega)]
      exact h
    · rw [if_neg h0, if_neg (by omega), hfe] at h
      have hc : rd (S ++ [a]) 0 = rd S 0 := by
        have e1 := rd_lt (S ++ [a]) 0 (by simp)
        have e2 := rd_lt S 0 (by omega)
        rw [List.getElem_append_left (by omega)] at e1
        exact e1.trans e2.symm
      rw [hc]
      refine ev_run_l1 R U _ j hR (by omega) r S.length (by omega) (S.length - 1) 1 (rd S 0) _ (by omega) (by rw [List.length_set, List.length_append, List.length_singleton]; omega) (by rw [List.length_set, List.length_append, List.length_singleton]; omega) (hS.at 0 (by omega)) ?_ ?_
      · intro x hx2
        rcases List.mem_or_eq_of_mem_set hx2 with h2 | h2
        · rcases List.mem_append.1 h2 with h3 | h3
          · exact hS x h3
          · rw [List.mem_singleton.1 h3]; exact ha
        · rw [h2]; exact ha
      · rw [show ((S ++ [a]).set (0 : Int).toNat a).take 1 = [a] from by
              cases S with
              | nil => rfl
              | cons y ys => rfl,
            show (((S ++ [a]).set (0 : Int).toNat a).take S.length).drop 1 = ((S ++ [a]).take S.length).drop 1 from mid_set (S ++ [a]) 0 a S.length,
            show ((S ++ [a]).set (0 : Int).toNat a).drop (S.length + 1) = (S ++ [a]).drop (S.length + 1) from List.drop_set_of_lt (by show (0 : Nat) < _; omega),
            List.take_left, List.drop_of_length_le (l := S ++ [a]) (by rw [List.length_append, List.length_singleton]; omega)]
        rw [List.take_of_length_le (Nat.le_refl _), List.drop_of_length_le (l := S) (i := S.length + 1) (by omega)] at h
        exact h
def stk (R U : List Int) : Nat → List Int
  | 0 => []
  | j + 1 => push R (stk R U j) (rd U (j : Int))
def plc (R U : List Int) : Nat → List Int
  | 0 => []
  | j + 1 => plc R U j ++ [at_ (stk R U j) (rd U (j : Int))]
theorem stk_length (R U : List Int) (j : Nat) : (stk R U j).length ≤ j := by
  induction j with
  | zero => simp [stk]
  | succ j ih => have := push_length R (stk R U j) (rd U (j : Int)); unfold stk; omega
theorem plc_length (R U : List Int) (j : Nat) : (plc R U j).length = j := by
  induction j with
  | zero => rfl
  | succ j ih => unfold plc; rw [List.length_append, List.length_singleton, ih]
theorem stk_in (R U : List Int) (hU : In64 U) (j : Nat) (hj : j ≤ U.length) : In64 (stk R U j) := by
  induction j with
  | zero => intro x hx; simp [stk] at hx
  | succ j ih => exact push_in R _ _ (ih (by omega)) (hU.at j (by omega))
theorem ev_rankRun (R U : List Int) (hR : R.length = 64) (hU : In64 U) (hl : U.length ≤ 1000000) : Ev (fun k => impl_rankRun.f k R U) (stk R U U.length, plc R U U.length) := by
  unfold impl_rankRun.f
  refine Ev.up (fun j k => impl_rankRun.l0 k R (stk R U j) (plc R U j) U (U.length : Int) (j : Int)) U.length _ ?_ ?_
  · apply Ev.succ
    simp only [impl_rankRun.l0]
    exact Ev.ite_neg (by omega) (Ev.now _)
  · intro j hj ih
    exact ev_run_step R U _ _ j hj hl hR (stk_in R U hU j (by omega)) (by have := stk_length R U j; omega) (by rw [plc_length]; omega) (hU.at j hj) _ ih
end Go.Proofs.Yteobbgofbedgdaa.Q
