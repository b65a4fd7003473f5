/- Parts of the proof, laid together: contracts and lemmas; no conditions beyond those written. -/
import Derived.Test.YtdhkcnhmmiigoaaGreatDoorQx0
import Derived.Test.YtdhkcnhmmiigoaaGreatDoorQx1
import Derived.Test.YtdhkcnhmmiigoaaGreatDoorSupto
import Derived.Test.YtdhkcnhmmiigoaaGreatDoorSsetval
import Derived.Test.YtdhkcnhmmiigoaaGreatDoorHsetmisses
import Derived.Test.YtdhkcnhmmiigoaaGreatDoorQx2
import Derived.Test.YtdhkcnhmmiigoaaGreatDoorStxtdef
import Derived.Test.YtdhkcnhmmiigoaaGreatDoorSlu
import Derived.Test.YtdhkcnhmmiigoaaGreatDoorSreadwl
import Derived.Test.YtdhkcnhmmiigoaaGreatDoorHkernel
namespace Go.Proofs.YtdhkcnhmmiigoaaGreatDoor.Q
open Go.RowKit Go.Proofs.YtdhkcnhmmiigoaaGreatDoorW.PrintWords Go.Proofs.YtdhkcnhmmiigoaaGreatDoorW.PrintLast Go.Proofs.YtdhkcnhmmiigoaaGreatDoorW.PrintMore
attribute [local go_sem] max2_int min2_int max_two min_two max_three min_three max_four min_four   -- for this text's walks alone
set_option linter.unusedVariables false
set_option linter.unusedSimpArgs false
section
theorem among_ok (l : List Int) (hb : Bytes l) (a : Nat) (sd : Int) (b : List Int) (hn : 1 ≤ b.length) (h2 : b.length ≤ 200) (ha : a ≤ 1000000000000) :
    ∃ (x : Int) (a' : Nat) (s : Int), spec_l00Src_among.f l (a : Int) sd b = some (x, (a' : Int), s) ∧ x ∈ b ∧ a' ≤ a + 1 := by
  unfold spec_l00Src_among.f
  obtain ⟨x, a', s, e, hx, ha'⟩ := pick_ok l hb a sd b.length hn h2 ha
  refine ⟨b[x], a', s, ?_, List.getElem_mem hx, ha'⟩
  rw [e, Option.bind_some]
  rw [if_pos (by omega), if_pos (by omega), rd_lt b x hx]
end
section
theorem impl_SetMisses_ok (R : List Int) (p : Int) (U : List Int) (hr : okRows R = true) (hp : 1 ≤ p ∧ p ≤ 4) (hU : okUses U = true) : impl_SetMisses.f R p U = some ((misN R p U U.length : Int), true) := by
  unfold impl_SetMisses.f impl_Index_setMisses.f
  rw [impl_isPlaced_f]
  have : isIn 1 4 p = true := by simp [isIn]; omega
  simp [hr, hU, this]
end
section
theorem setStep_zero (rows : List Int) (hr : ∀ x ∈ rows, 0 ≤ x ∧ x ≤ 63) (i : Nat) (hi : i < 3) (hl : i < rows.length) : setStep rows 0 i 0 = 0 := by
  unfold setStep
  have hm := hr (rd rows (i : Int)) (by rw [rd_lt rows i hl]; exact List.getElem_mem hl)
  obtain ⟨m, hm2⟩ := fin_of hm.1 hm.2
  rw [hm2]
  have key : ∀ (m : Fin 64) (j : Fin 3), Go.bits .or .i64 0 (shl .i64 (par (Go.bits .and .i64 (m.val : Int) 0)) (j.val : Int)) = 0 := by decide +kernel
  exact key m ⟨i, hi⟩
theorem setVal_zero (rows : List Int) (hl : rows.length ≤ 3) (hr : ∀ x ∈ rows, 0 ≤ x ∧ x ≤ 63) : setVal rows 0 = 0 := by
  unfold setVal
  have key : ∀ n s : Nat, s + n ≤ rows.length → (List.range' s n).foldl (fun t i => setStep rows 0 i t) 0 = 0 := by
    intro n
    induction n with
    | zero => intro s _; rfl
    | succ n ih =>
      intro s hs
      rw [List.range'_succ, List.foldl_cons, setStep_zero rows hr s (by omega) (by omega)]
      exact ih (s + 1) (by omega)
  exact key _ 0 (by omega)
def membersTo (rows : List Int) (a : Int) (n : Nat) : List Int := (upto (fun j => (j : Int)) n).filter fun x => decide (setVal rows x = setVal rows a)
theorem membersTo_succ (rows : List Int) (a : Int) (n : Nat) : membersTo rows a (n + 1) = membersTo rows a n ++ (if setVal rows (n : Int) = setVal rows a then [(n : Int)] else []) := by
  unfold membersTo
  rw [upto_succ, List.filter_append]
  congr 1
  by_cases h : setVal rows (n : Int) = setVal rows a <;> simp [List.filter_cons, h]
theorem membersTo_length (rows : List Int) (a : Int) (n : Nat) : (membersTo rows a n).length ≤ n := by
  unfold membersTo
  exact Nat.le_trans (List.length_filter_le _ _) (by rw [upto_length]; exact Nat.le_refl _)
theorem kernel_f (rows : List Int) (ho : okRows rows = true) : impl_Index_kernel.f rows = some (membersTo rows 0 64) := by
  obtain ⟨hr, hl⟩ := (okRows_iff rows).1 ho
  unfold impl_Index_kernel.f membersTo
  rw [if_pos ho, setVal_zero rows hl hr]
  simp
end
section
theorem drawOk_l0 (l : List Int) (hb : Bytes l) (d : Nat) : ∀ (rows : List Int) (a : Nat) (sd : Int), (∀ x ∈ rows, 0 ≤ x ∧ x ≤ 63) → rows.length + d ≤ 3 → a + 4 * d ≤ 1000000 →
    ∃ (r : List Int) (a' : Nat) (s : Int), Ev (fun k => spec_l06DrawOk.l0 k (d : Int) l (a : Int) sd rows) (r, (a' : Int), s) ∧ (∀ x ∈ r, 0 ≤ x ∧ x ≤ 63) ∧ r.length ≤ 3 := by
  induction d with
  | zero =>
    intro rows a sd hr hl ha
    refine ⟨rows, a, sd, Ev.succ ?_, hr, by omega⟩
    simp only [spec_l06DrawOk.l0]
    exact Ev.ite_neg (by omega) (Ev.now _)
  | succ d ih =>
    intro rows a sd hr hl ha
    obtain ⟨x, a1, s1, e1, hx, h1⟩ := pick_ok l hb a sd 64 (by omega) (by omega) (by omega)
    obtain ⟨b, a2, s2, e2, h2⟩ := one_ok l hb a1 s1 2 (by omega) (by omega) (by omega)
    have hd : wrap64 (((d + 1 : Nat) : Int) - 1) = (d : Int) := by rw [wrap64_id (by omega) (by omega)]; omega
    have step : ∀ (y : Int) (a' : Nat) (s : Int), 0 ≤ y ∧ y ≤ 63 → a' ≤ a + 4 → ∃ (r : List Int) (a'' : Nat) (s' : Int), Ev (fun k => spec_l06DrawOk.l0 k (d : Int) l (a' : Int) s (rows ++ [y])) (r, (a'' : Int), s') ∧ (∀ x ∈ r, 0 ≤ x ∧ x ≤ 63) ∧ r.length ≤ 3 := by
      intro y a' s hy ha'
      refine ih (rows ++ [y]) a' s (fun z hz => ?_) (by rw [List.length_append, List.length_singleton]; omega) (by omega)
      rcases List.mem_append.1 hz with hz | hz
      · exact hr z hz
      · rw [List.mem_singleton.1 hz]; exact hy
    have behind : ∀ (y : Int) (a3 : Nat) (s3 : Int), 0 ≤ y ∧ y ≤ 63 → a3 ≤ a + 3 → ∃ (r : List Int) (a' : Nat) (s : Int), (∀ x ∈ r, 0 ≤ x ∧ x ≤ 63) ∧ r.length ≤ 3 ∧
        Ev (fun k => if (rows.length : Int) > 0 then ((spec_l00Src_one.f l (a3 : Int) s3 6).bind fun bt => (if bt.1 = true then (if 0 < (rows.length : Int) then (if rows.length < 17592186044416 then (spec_l06DrawOk.l0 k (wrap64 (((d + 1 : Nat) : Int) - 1)) l bt.2.1 bt.2.2 (rows ++ [rd rows 0])) else (none)) else (none)) else (if rows.length < 17592186044416 then (spec_l06DrawOk.l0 k (wrap64 (((d + 1 : Nat) : Int) - 1)) l bt.2.1 bt.2.2 (rows ++ [y])) else (none)))) else (if rows.length < 17592186044416 then (spec_l06DrawOk.l0 k (wrap64 (((d + 1 : Nat) : Int) - 1)) l (a3 : Int) s3 (rows ++ [y])) else (none))) (r, (a' : Int), s) := by
      intro y a3 s3 hy h3
      rw [hd]
      by_cases h0 : 0 < rows.length
      · obtain ⟨b, a4, s4, e4, h4⟩ := one_ok l hb a3 s3 6 (by omega) (by omega) (by omega)
        have hm : 0 ≤ rd rows 0 ∧ rd rows 0 ≤ 63 := by
          have := rd_lt rows 0 h0
          rw [show ((0 : Nat) : Int) = 0 from rfl] at this
          rw [this]; exact hr _ (List.getElem_mem h0)
        cases b with
        | true =>
          obtain ⟨r, a', s, e, q1, q2⟩ := step (rd rows 0) a4 s4 hm (by omega)
          exact ⟨r, a', s, q1, q2, Ev.ite_pos (by omega) (Ev.cbind e4 (Ev.ite_pos rfl (Ev.ite_pos (by omega) (Ev.ite_pos (by omega) e))))⟩
        | false =>
          obtain ⟨r, a', s, e, q1, q2⟩ := step y a4 s4 hy (by omega)
          exact ⟨r, a', s, q1, q2, Ev.ite_pos (by omega) (Ev.cbind e4 (Ev.ite_neg (by simp) (Ev.ite_pos (by omega) e)))⟩
      · obtain ⟨r, a', s, e, q1, q2⟩ := step y a3 s3 hy (by omega)
        exact ⟨r, a', s, q1, q2, Ev.ite_neg (by omega) (Ev.ite_pos (by omega) e)⟩
    cases b with
    | true =>
      obtain ⟨y, a3, s3, e3, hy, h3⟩ := among_ok l hb a2 s2 [1, 2, 4, 8, 16, 32] (by simp) (by simp) (by omega)
      obtain ⟨r, a', s, q1, q2, e⟩ := behind y a3 s3 (by simp at hy; omega) (by omega)
      refine ⟨r, a', s, Ev.succ ?_, q1, q2⟩
      simp only [spec_l06DrawOk.l0]
      exact Ev.ite_pos (by omega) (Ev.cbind e1 (Ev.cbind e2 (Ev.ite_pos rfl (Ev.cbind e3 e))))
    | false =>
      obtain ⟨r, a', s, q1, q2, e⟩ := behind (x : Int) a2 s2 (by omega) (by omega)
      refine ⟨r, a', s, Ev.succ ?_, q1, q2⟩
      simp only [spec_l06DrawOk.l0]
      exact Ev.ite_pos (by omega) (Ev.cbind e1 (Ev.cbind e2 (Ev.ite_neg (by simp) e)))
theorem ev_R8Index (l : List Int) (hb : Bytes l) : ∃ r, Ev (fun k => spec_R8Index.f k l) r ∧ okRows r = true := by
  unfold spec_R8Index.f spec_l06DrawOk.f
  obtain ⟨n, a1, s1, e1, hn, h1⟩ := pick_ok l hb 0 0 4 (by omega) (by omega) (by omega)
  obtain ⟨r, a', s, e, q1, q2⟩ := drawOk_l0 l hb n [] a1 s1 (by simp) (by simp; omega) (by omega)
  exact ⟨r, Ev.cbind (a := (l, 0, 0)) rfl (Ev.bind (a := (r, (a' : Int), s)) (Ev.cbind e1 e) (Ev.now _)), (okRows_iff r).2 ⟨q1, q2⟩⟩
end
end Go.Proofs.YtdhkcnhmmiigoaaGreatDoor.Q
