/- Parts of the proof, laid together: contracts and lemmas; no conditions beyond those written. -/
import Derived.Test.YtdhkcnhmmiigoaaGreatDoorQx0
import Derived.Test.YtdhkcnhmmiigoaaGreatDoorQx3
import Derived.Test.YtdhkcnhmmiigoaaGreatDoorSupto
import Derived.Test.YtdhkcnhmmiigoaaGreatDoorSimplReadIndex
import Derived.Test.YtdhkcnhmmiigoaaGreatDoorSlu
import Derived.Test.YtdhkcnhmmiigoaaGreatDoorSreadwl
import Derived.Test.YtdhkcnhmmiigoaaGreatDoorStxtdef
import Derived.Test.YtdhkcnhmmiigoaaGreatDoorHclonei64
import Derived.Test.YtdhkcnhmmiigoaaGreatDoorQx2
import Derived.Test.YtdhkcnhmmiigoaaGreatDoorQx1
import Derived.Test.YtdhkcnhmmiigoaaGreatDoorSamong
import Derived.Test.YtdhkcnhmmiigoaaGreatDoorSsetval
import Derived.Test.YtdhkcnhmmiigoaaGreatDoorHrankOf
import Derived.Test.YtdhkcnhmmiigoaaGreatDoorHreduced
import Derived.Test.YtdhkcnhmmiigoaaGreatDoorHsetmembers
import Derived.Test.YtdhkcnhmmiigoaaGreatDoorSidxtext
import Derived.Test.YtdhkcnhmmiigoaaGreatDoorSred
import Derived.Test.YtdhkcnhmmiigoaaGreatDoorSspanned
namespace Go.Proofs.YtdhkcnhmmiigoaaGreatDoor.Q
open Go.RowKit Go.Proofs.YtdhkcnhmmiigoaaGreatDoorW.PrintWords Go.Proofs.YtdhkcnhmmiigoaaGreatDoorW.PrintLast Go.Proofs.YtdhkcnhmmiigoaaGreatDoorW.PrintMore
attribute [local go_sem] max2_int min2_int max_two min_two max_three min_three max_four min_four   -- for this text's walks alone
set_option linter.unusedVariables false
set_option linter.unusedSimpArgs false
section
theorem ev_r8Has (l : List Int) (a : Int) (h : l.length ≤ 1000000000) : Ev (fun k => laws_r8Has.f k l a) (decide (a ∈ l)) := by
  unfold laws_r8Has.f
  have key := Ev.down (fun i k => laws_r8Has.l0 k l a (i : Int)) l.length (fun i => decide (a ∈ l.drop i)) ?_ ?_ 0 (Nat.zero_le _)
  · exact Ev.eq key (by simp)
  · apply Ev.succ
    simp only [laws_r8Has.l0]
    exact Ev.ite_neg (by omega) (Ev.eq (Ev.now _) (by simp))
  · intro i hi ih
    apply Ev.succ
    simp only [laws_r8Has.l0]
    refine Ev.ite_pos (by omega) (Ev.ite_pos (by omega) ?_)
    rw [drop_rd l i hi]
    by_cases e : rd l (i : Int) = a
    · exact Ev.ite_pos e (Ev.eq (Ev.now _) (by simp [e]))
    · rw [wrap64_succ (by omega)]
      refine Ev.ite_neg e (Ev.eq ih ?_)
      have : ¬ a = rd l (i : Int) := fun h => e h.symm
      simp [this]
end
section
theorem impl_ReadIndex.text (R : List Int) (hok : okRows R = true) (m : Int) (w : World) (hm : w.cell? ⟨0, 0, none⟩ = some (.int .i64 m)) :
    Calls Tryz.prog 16 #[.string (txtTo R R.length)] w fun e w' => ∃ v, e = .returned (.tuple #[.agg #[v], .bool true]) ∧ Kd.R (Kd.int .i64) 2 w' w.heap.size (fun _ => True) v R ∧ Below w.heap.size w w' := by
  have hA := irdA_text R hok
  have hl := ((okRows_iff R).1 hok).2
  have hs := txtTo_size R R.length
  unfold irdA at hA
  by_cases h0 : txtTo R R.length = ⟨#[]⟩
  · rw [if_pos h0] at hA
    rw [h0, ← (Prod.mk.inj hA).1]
    exact (impl_ReadIndex.empty w).mono fun e w' h => ⟨_, h.1, Kd.R_nil _ _ _ _ _, h.2⟩
  · rw [if_neg h0] at hA
    have h := impl_ReadIndex.calls (txtTo R R.length) m w (by omega) hm h0
    rw [hA] at h
    exact h
end
section
theorem ev_impl_span (rows : List Int) (hl : rows.length ≤ 3) (hr : ∀ x ∈ rows, 0 ≤ x ∧ x ≤ 63) : Ev (fun k => impl_Index_span.f k rows) (setL (spI rows rows.length)) := by
  unfold impl_Index_span.f
  refine Ev.up (fun i k => impl_Index_span.l0 k (spI rows i) rows (rows.length : Int) (i : Int)) rows.length _ ?_ ?_
  · have h8 : 2 ^ rows.length ≤ 2 ^ 3 := Nat.pow_le_pow_right (by decide) hl
    have hlen := spI_length rows rows.length
    apply Ev.succ
    simp only [impl_Index_span.l0]
    exact Ev.ite_neg (by omega) (Ev.cbind (impl_setOf_f _ (by omega)) (Ev.now _))
  · intro i hi ih
    have h8 : 2 ^ i ≤ 2 ^ 3 := Nat.pow_le_pow_right (by decide) (by omega)
    have hlen := spI_length rows i
    have hrow := hr _ (List.getElem_mem hi)
    rw [← rd_lt rows i hi] at hrow
    apply Ev.succ
    simp only [impl_Index_span.l0]
    refine Ev.ite_pos (by omega) (Ev.ite_pos (by omega) (Ev.ite_pos (by omega) (Ev.cbind (a := spI rows i) (by unfold slices_Clone_int64_int64.f; rw [if_pos (by omega)]) ?_)))
    have h0 : spI rows i = spI rows i ++ ((spI rows i).take 0).map (fun y => xo y (rd rows (i : Int))) := by simp
    conv => arg 1; ext k; rw [show impl_Index_span.l1 k (spI rows i) = impl_Index_span.l1 k (spI rows i ++ ((spI rows i).take 0).map (fun y => xo y (rd rows (i : Int)))) from by rw [← h0]]
    refine Ev.up (fun j k => impl_Index_span.l1 k (spI rows i ++ ((spI rows i).take j).map (fun y => xo y (rd rows (i : Int)))) (rd rows (i : Int)) rows (rows.length : Int) (i : Int) (spI rows i) ((spI rows i).length : Int) (j : Int)) (spI rows i).length _ ?_ ?_
    · apply Ev.succ
      simp only [impl_Index_span.l1]
      refine Ev.ite_neg (by omega) ?_
      rw [List.take_length, wrap64_succ (by omega)]
      exact ih
    · intro j hj ihj
      have hy := spI_range rows hr i (by omega) _ (List.getElem_mem hj)
      rw [← rd_lt _ j hj] at hy
      apply Ev.succ
      simp only [impl_Index_span.l1]
      refine Ev.ite_pos (by omega) (Ev.ite_pos (by omega) (Ev.ite_pos (by omega) (Ev.ite_pos (by rw [List.length_append, List.length_map, List.length_take]; omega) ?_)))
      rw [(xor_xo hy hrow).1, wrap64_succ (by omega)]
      rw [take_succ_rd _ j hj, List.map_append, ← List.append_assoc] at ihj
      exact ihj
end
section
theorem near_l0 (l : List Int) (hb : Bytes l) (base step : Int) (h0 : 0 ≤ base ∧ base ≤ 3) (h1 : 1 ≤ step ∧ step ≤ 16) (d : Nat) : ∀ (out : List Int) (a : Nat) (sd : Int), (∀ x ∈ out, 0 ≤ x ∧ x ≤ 63) → out.length + d ≤ 13 → a + d ≤ 1000000 →
    ∃ r, Ev (fun k => spec_R8Near.l0 k base step out (d : Int) l (a : Int) sd) r ∧ (∀ x ∈ r, 0 ≤ x ∧ x ≤ 63) ∧ r.length ≤ 13 := by
  induction d with
  | zero =>
    intro out a sd ho hl ha
    refine ⟨out, Ev.succ ?_, ho, by omega⟩
    simp only [spec_R8Near.l0]
    exact Ev.ite_neg (by omega) (Ev.now _)
  | succ d ih =>
    intro out a sd ho hl ha
    obtain ⟨x, a1, s1, e1, hx, ha1⟩ := pick_ok l hb a sd 5 (by omega) (by omega) (by omega)
    have hd : wrap64 (((d + 1 : Nat) : Int) - 1) = (d : Int) := by rw [wrap64_id (by omega) (by omega)]; omega
    have hm : 0 ≤ step * (x : Int) ∧ step * (x : Int) ≤ 64 := by
      refine ⟨Int.mul_nonneg (by omega) (by omega), ?_⟩
      have : step * (x : Int) ≤ 16 * 4 := Int.mul_le_mul h1.2 (by omega) (by omega) (by omega)
      omega
    have hw : wrap64 (base + wrap64 (step * (x : Int))) = base + step * (x : Int) := by rw [wrap64_id (x := step * (x : Int)) (by omega) (by omega), wrap64_id (by omega) (by omega)]
    have t0 := Int.tmod_nonneg (64 : Int) (show 0 ≤ base + step * (x : Int) by omega)
    have t1 := Int.tmod_lt_of_pos (base + step * (x : Int)) (show (0 : Int) < 64 by omega)
    obtain ⟨r, e, q1, q2⟩ := ih (out ++ [Int.tmod (base + step * (x : Int)) 64]) a1 s1 (fun z hz => by
      rcases List.mem_append.1 hz with hz | hz
      · exact ho z hz
      · rw [List.mem_singleton.1 hz]; omega) (by rw [List.length_append, List.length_singleton]; omega) (by omega)
    refine ⟨r, Ev.succ ?_, q1, q2⟩
    simp only [spec_R8Near.l0]
    refine Ev.ite_pos (by omega) (Ev.cbind e1 (Ev.ite_pos (by omega) ?_))
    rw [hd, hw]
    exact e
theorem ev_R8Near (l : List Int) (hb : Bytes l) : ∃ r, Ev (fun k => spec_R8Near.f k l) r ∧ okUses r = true ∧ r.length ≤ 13 := by
  unfold spec_R8Near.f
  obtain ⟨x, a1, s1, e1, hx, h1⟩ := pick_ok l hb 0 0 4 (by omega) (by omega) (by omega)
  obtain ⟨y, a2, s2, e2, hy, h2⟩ := among_ok l hb a1 s1 [1, 2, 4, 8, 9, 16] (by simp) (by simp) (by omega)
  obtain ⟨n, a3, s3, e3, hn, h3⟩ := pick_ok l hb a2 s2 14 (by omega) (by omega) (by omega)
  obtain ⟨r, e, q1, q2⟩ := near_l0 l hb (x : Int) y (by omega) (by simp at hy; omega) n [] a3 s3 (by simp) (by simp; omega) (by omega)
  exact ⟨r, Ev.cbind (a := (l, 0, 0)) rfl (Ev.cbind e1 (Ev.cbind e2 (Ev.cbind e3 e))), (okUses_iff r).2 ⟨q1, by omega⟩, q2⟩
end
section
theorem ReducedIndex_ok (R : List Int) (h : okRows R = true) : impl_ReducedIndex.f R = some (redL R, true) := by
  unfold impl_ReducedIndex.f impl_Index_reduced.f redL
  rw [impl_ValidIndex_f R, h]
  simp
theorem ev_SpanOf_ok (R : List Int) (h : okRows R = true) : Ev (fun k => impl_SpanOf.f k R) (setL (spI R R.length), true) := by
  obtain ⟨hr, hl⟩ := (okRows_iff R).1 h
  unfold impl_SpanOf.f
  exact Ev.cbind (impl_ValidIndex_f R) (by rw [h]; exact Ev.ite_pos rfl (Ev.bind (ev_impl_span R hl hr) (Ev.now _)))
theorem RankOf_ok (R : List Int) (h : okRows R = true) : impl_RankOf.f R = some (((redN (R.map Int.toNat)).length : Int), true) := by
  unfold impl_RankOf.f
  rw [if_pos h]
theorem KernelOf_ok (R : List Int) (h : okRows R = true) : impl_KernelOf.f R = some (membersTo R 0 64, true) := by
  unfold impl_KernelOf.f
  rw [impl_ValidIndex_f R, h]
  simp [kernel_f R h]
theorem SetMembers_ok (R : List Int) (a : Int) (h : okRows R = true) (ha : 0 ≤ a ∧ a ≤ 63) : impl_SetMembers.f R a = some (membersTo R a 64, true) := by
  have hA := (okAddr_iff a).2 ha
  unfold impl_SetMembers.f
  rw [if_pos h, if_pos hA]
  unfold membersTo
  simp
theorem ev_SetOf_ok (R : List Int) (a : Int) (h : okRows R = true) (ha : 0 ≤ a ∧ a ≤ 63) : Ev (fun k => impl_SetOf.f k R a) (setVal R a, true) := by
  have hA := (okAddr_iff a).2 ha
  obtain ⟨hr, hl⟩ := (okRows_iff R).1 h
  unfold impl_SetOf.f
  refine Ev.cbind (impl_ValidIndex_f R) ?_
  rw [h]
  refine Ev.ite_pos rfl (Ev.cbind (impl_isAddress_f a) ?_)
  rw [hA]
  exact Ev.ite_pos rfl (Ev.bind (ev_Index_set R a hl hr ha.1 ha.2) (Ev.now _))
theorem ev_IndexText_ok (R : List Int) (h : okRows R = true) : Ev (fun k => impl_IndexText.f k R) (txtTo R R.length, true) := by
  unfold impl_IndexText.f
  refine Ev.cbind (impl_ValidIndex_f R) ?_
  rw [h]
  exact Ev.ite_pos rfl (Ev.bind (ev_indexText R h) (Ev.now _))
theorem ev_r8Same_own (l : List Int) (h : l.length ≤ 1000000000) : Ev (fun k => laws_r8Same.f k l l) true := by
  unfold laws_r8Same.f
  refine Ev.ite_pos rfl ?_
  refine Ev.up (fun i k => laws_r8Same.l0 k l l (i : Int)) l.length true ?_ ?_
  · apply Ev.succ
    simp only [laws_r8Same.l0]
    exact Ev.ite_neg (by omega) (Ev.now _)
  · intro i hi ih
    apply Ev.succ
    simp only [laws_r8Same.l0]
    refine Ev.ite_pos (by omega) (Ev.ite_pos (by omega) (Ev.ite_pos (by omega) (Ev.ite_pos (by simp) ?_)))
    rw [wrap64_succ (by omega)]
    exact ih
theorem sh_pow0 : ∀ r : Fin 4, wrap64 ((2 : Int) ^ r.val) = ((2 ^ r.val : Nat) : Int) := by decide +kernel
theorem sh_pow (r : Nat) (h : r ≤ 3) : wrap64 ((2 : Int) ^ r) = ((2 ^ r : Nat) : Int) := sh_pow0 ⟨r, by omega⟩
theorem dv_pow0 : ∀ r : Fin 4, (64 : Int) / 2 ^ r.val * 2 ^ r.val = 64 := by decide +kernel
theorem dv_pow (r k : Nat) (h : r ≤ 3) (hk : k * 2 ^ r = 64) : (64 : Int) / 2 ^ r = (k : Int) := by
  have e : ((k * 2 ^ r : Nat) : Int) = 64 := by rw [hk]; rfl
  rw [← e]
  rw [Int.natCast_mul, Int.natCast_pow]
  exact Int.mul_ediv_cancel _ (Int.ne_of_gt (Int.pow_pos (by decide)))
theorem mn_rank (r : Nat) (h : r ≤ 3) : min (IntKind.u64.wrap (r : Int)).toNat 64 = r := by
  have e : IntKind.u64.wrap (r : Int) = (r : Int) % 18446744073709551616 := rfl
  rw [e]
  omega
end
end Go.Proofs.YtdhkcnhmmiigoaaGreatDoor.Q
