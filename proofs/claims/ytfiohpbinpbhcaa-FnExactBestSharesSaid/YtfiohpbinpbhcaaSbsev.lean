/- The reference's best shares, in plain lists; no conditions beyond those written. -/
import Derived.Test.YtfiohpbinpbhcaaQx0
import Derived.Test.YtfiohpbinpbhcaaHarePrograms
import Derived.Test.YtfiohpbinpbhcaaQx2
import Derived.Test.YtfiohpbinpbhcaaQx3
import Derived.Test.YtfiohpbinpbhcaaSsetldef
import Derived.Test.YtfiohpbinpbhcaaSbestshares
import Derived.Test.YtfiohpbinpbhcaaSprograms
import Derived.Test.YtfiohpbinpbhcaaScrv
import Derived.Test.YtfiohpbinpbhcaaScurve
import Derived.Test.YtfiohpbinpbhcaaSsince
import Derived.Test.YtfiohpbinpbhcaaSsortl
import Derived.Test.YtfiohpbinpbhcaaSnested
import Derived.Test.YtfiohpbinpbhcaaSuses
namespace Go.Proofs.Ytfiohpbinpbhcaa.Q
open Go.RowKit Go.Proofs.YtfiohpbinpbhcaaW.PrintWords Go.Proofs.YtfiohpbinpbhcaaW.PrintLast Go.Proofs.YtfiohpbinpbhcaaW.PrintMore
attribute [local go_sem] max2_int min2_int max_two min_two max_three min_three max_four min_four   -- for this text's walks alone
set_option linter.unusedVariables false
set_option linter.unusedSimpArgs false

theorem ev_l04Less (x y : List Int) (h : x.length = y.length) (hl : x.length ≤ 1000000) : Ev (fun k => spec_l04Less.f k x y) (lessB x y) := by
  unfold spec_l04Less.f
  have key := Ev.down (fun i k => spec_l04Less.l0 k x y (i : Int)) x.length (fun i => lessB (x.drop i) (y.drop i)) ?_ ?_ 0 (Nat.zero_le _)
  · exact key
  · apply Ev.succ
    simp only [spec_l04Less.l0]
    refine Ev.ite_neg (by omega) (Ev.eq (Ev.now _) ?_)
    rw [List.drop_length, List.drop_eq_nil_of_le (by omega)]; rfl
  · intro i hi ih
    have e : lessB (x.drop i) (y.drop i) = (decide (rd x (i : Int) < rd y (i : Int)) || (decide (rd x (i : Int) = rd y (i : Int)) && lessB (x.drop (i + 1)) (y.drop (i + 1)))) := by
      rw [drop_rd x i hi, drop_rd y i (by omega)]; rfl
    rw [e]
    apply Ev.succ
    simp only [spec_l04Less.l0]
    refine Ev.ite_pos (by omega) (Ev.ite_pos (by omega) (Ev.ite_pos (by omega) ?_))
    by_cases h1 : rd x (i : Int) = rd y (i : Int)
    · refine Ev.ite_pos h1 ?_
      rw [wrap64_succ (by omega)]
      refine Ev.eq ih ?_
      rw [h1]; simp
    · refine Ev.ite_neg h1 (Ev.eq (Ev.now _) ?_)
      simp [h1]
theorem own4_f (l : List Int) (h : l.length ≤ 1000000) : spec_l00Own.f l = some l := by
  unfold spec_l00Own.f
  simp; omega
/-- A table whose rows have m numbers. -/
structure TabL (m T : Nat) (S : List (List Int)) (M : List Int) : Prop where
  hs : S.length = T + 1
  hm : M.length = T + 1
  hr : ∀ k, k ≤ T → (S.getD k []).length = m
theorem pf_len {m T : Nat} {S : List (List Int)} {M : List Int} (h : TabL m T S M) (c : List Int) (n : Nat) (hn : n ≤ T) : ∀ k, (pf S M c n k).1.length = m + 1
  | 0 => by unfold pf; rw [List.length_append, h.hr n hn]; rfl
  | k + 1 => by
    unfold pf
    split
    · rw [List.length_append, h.hr _ (by omega)]; rfl
    · exact pf_len h c n hn k
theorem fstep_len {m T : Nat} {s : List (List Int) × List Int} (h : TabL m T s.1 s.2) (c : List Int) : TabL (m + 1) T (fstep T s c).1 (fstep T s c).2 := by
  refine ⟨by simp [fstep], by simp [fstep], fun k hk => ?_⟩
  unfold fstep
  rw [getD_range (fun n => (pf s.1 s.2 c n n).1) T k hk]
  exact pf_len h c k hk k
theorem fsh_snoc (C : List Int → List Int) (T : Nat) (ps : List (List Int)) (q : List Int) (h : ps ≠ []) : fsh C T (ps ++ [q]) = fstep T (fsh C T ps) (C q) := by
  match ps, h with
  | p :: ps, _ => show (ps ++ [q]).foldl _ _ = _; rw [List.foldl_append]; rfl
theorem fsh_len (C : List Int → List Int) (T : Nat) : ∀ (ps : List (List Int)) (p : List Int), TabL (ps.length + 1) T (fsh C T (p :: ps)).1 (fsh C T (p :: ps)).2 := by
  have key : ∀ (ps : List (List Int)) (m : Nat) (s : List (List Int) × List Int), TabL m T s.1 s.2 → TabL (m + ps.length) T (ps.foldl (fun s q => fstep T s (C q)) s).1 (ps.foldl (fun s q => fstep T s (C q)) s).2 := by
    intro ps
    induction ps with
    | nil => intro m s h; simpa using h
    | cons q ps ih => intro m s h; have := ih (m + 1) _ (fstep_len h (C q)); rw [List.length_cons, show m + (ps.length + 1) = m + 1 + ps.length by omega]; exact this
  intro ps p
  have h0 : TabL 1 T ((List.range (T + 1)).map fun (a : Nat) => [(a : Int)]) ((List.range (T + 1)).map fun (a : Nat) => rd (C p) (a : Int)) := by
    refine ⟨by simp, by simp, fun k hk => ?_⟩
    rw [getD_range (fun (a : Nat) => [(a : Int)]) T k hk]; rfl
  have := key ps 1 ((List.range (T + 1)).map (fun (a : Nat) => [(a : Int)]), (List.range (T + 1)).map fun (a : Nat) => rd (C p) (a : Int)) h0
  rw [Nat.add_comm] at this
  exact this
section
variable {P : List (List Int)} {T : Nat} {m : Nat} {S : List (List Int)} {M : List Int} {c : List Int} {r : List Int × Int × Bool}
theorem rdS (S : List (List Int)) (k : Nat) : rd_L1 S (k : Int) = S.getD k [] := by
  show S.getD (k : Int).toNat [] = _
  rw [Int.toNat_natCast]
theorem ev_bs3 (hS : TabL m T S M) (hm : m ≤ 1000) (hT : T ≤ 60) (hc : c.length = T + 1) (i : Int) (S' : List (List Int)) (M' : List Int) (hS' : S'.length ≤ 100) (hM' : M'.length ≤ 100) (n : Nat) (hn : n ≤ T)
    (h : Ev (fun k => spec_BestShares.l2 k P (T : Int) S M i c (S' ++ [(pf S M c n n).1]) (M' ++ [(pf S M c n n).2]) ((n + 1 : Nat) : Int)) r) :
    Ev (fun k => spec_BestShares.l3 k P (T : Int) S M i c S' M' (n : Int) (pf S M c n 0).1 (pf S M c n 0).2 1) r := by
  refine Ev.up (fun j k => spec_BestShares.l3 k P (T : Int) S M i c S' M' (n : Int) (pf S M c n j).1 (pf S M c n j).2 ((j + 1 : Nat) : Int)) n r ?_ ?_
  · apply Ev.succ
    simp only [spec_BestShares.l3]
    refine Ev.ite_neg (by omega) (Ev.ite_pos (by omega) (Ev.ite_pos (by omega) ?_))
    rw [wrap64_succ (by omega)]
    exact h
  · intro j hj ih
    have hw : wrap64 ((n : Int) - ((j + 1 : Nat) : Int)) = ((n - (j + 1) : Nat) : Int) := by rw [wrap64_id (by omega) (by omega)]; omega
    have hs := hS.hs
    have hmm := hS.hm
    have hr := hS.hr (n - (j + 1)) (by omega)
    apply Ev.succ
    simp only [spec_BestShares.l3]
    rw [hw, rdS]
    refine Ev.ite_pos (by omega) (Ev.ite_pos (by omega) (Ev.ite_pos (by omega) (Ev.cbind (own4_f _ (by omega)) (Ev.ite_pos (by omega) (Ev.cbind rfl (Ev.ite_pos (by omega) (Ev.ite_pos (by omega) (Ev.ite_pos (by omega) ?_))))))))
    have hpf : pf S M c n (j + 1) = if wrap64 (rd M ((n - (j + 1) : Nat) : Int) + rd c ((j + 1 : Nat) : Int)) < (pf S M c n j).2 ∨ (wrap64 (rd M ((n - (j + 1) : Nat) : Int) + rd c ((j + 1 : Nat) : Int)) = (pf S M c n j).2 ∧ lessB (S.getD (n - (j + 1)) [] ++ [((j + 1 : Nat) : Int)]) (pf S M c n j).1 = true)
      then (S.getD (n - (j + 1)) [] ++ [((j + 1 : Nat) : Int)], wrap64 (rd M ((n - (j + 1) : Nat) : Int) + rd c ((j + 1 : Nat) : Int))) else pf S M c n j := rfl
    rw [wrap64_succ (by omega)]
    by_cases c1 : wrap64 (rd M ((n - (j + 1) : Nat) : Int) + rd c ((j + 1 : Nat) : Int)) < (pf S M c n j).2
    · refine Ev.ite_pos c1 ?_
      rw [hpf, if_pos (.inl c1)] at ih
      exact ih
    · refine Ev.ite_neg c1 ?_
      by_cases c2 : wrap64 (rd M ((n - (j + 1) : Nat) : Int) + rd c ((j + 1 : Nat) : Int)) = (pf S M c n j).2
      · refine Ev.ite_pos c2 (Ev.bind (ev_l04Less _ _ (by rw [List.length_append, hr, pf_len hS c n hn j]; rfl) (by rw [List.length_append, hr]; simp; omega)) ?_)
        cases hl : lessB (S.getD (n - (j + 1)) [] ++ [((j + 1 : Nat) : Int)]) (pf S M c n j).1 with
        | true =>
          rw [hpf, if_pos (.inr ⟨c2, hl⟩)] at ih
          exact Ev.ite_pos rfl ih
        | false =>
          rw [hpf, if_neg (by rintro (h1 | ⟨_, h1⟩); exact c1 h1; rw [hl] at h1; cases h1)] at ih
          exact Ev.ite_neg (by simp) ih
      · rw [hpf, if_neg (by rintro (h1 | ⟨h1, _⟩); exact c1 h1; exact c2 h1)] at ih
        exact Ev.ite_neg c2 ih
theorem ev_bs2 (hS : TabL m T S M) (hm : m ≤ 1000) (hT : T ≤ 60) (hc : c.length = T + 1) (i : Int)
    (h : Ev (fun k => spec_BestShares.l1 k P (T : Int) (fstep T (S, M) c).1 (fstep T (S, M) c).2 (wrap64 (i + 1))) r) : Ev (fun k => spec_BestShares.l2 k P (T : Int) S M i c [] [] 0) r := by
  refine Ev.up (fun n k => spec_BestShares.l2 k P (T : Int) S M i c ((List.range n).map fun n => (pf S M c n n).1) ((List.range n).map fun n => (pf S M c n n).2) (n : Int)) (T + 1) r ?_ ?_
  · apply Ev.succ
    simp only [spec_BestShares.l2]
    exact Ev.ite_neg (by omega) h
  · intro n hn ih
    have hs := hS.hs
    have hmm := hS.hm
    have hr := hS.hr n (by omega)
    apply Ev.succ
    simp only [spec_BestShares.l2]
    rw [rdS]
    refine Ev.ite_pos (by omega) (Ev.ite_pos (by omega) (Ev.ite_pos (by omega) (Ev.cbind (own4_f _ (by omega)) (Ev.ite_pos (by omega) (Ev.ite_pos (by omega) (Ev.ite_pos (by omega) ?_))))))
    refine ev_bs3 hS hm hT hc i _ _ (by simp; omega) (by simp; omega) n (by omega) ?_
    rw [mapRange_succ, mapRange_succ] at ih
    exact ih
theorem ev_bs0 (hT : T ≤ 60) (hc : c.length = T + 1) (h : Ev (fun k => spec_BestShares.l1 k P (T : Int) ((List.range (T + 1)).map fun (a : Nat) => [(a : Int)]) ((List.range (T + 1)).map fun (a : Nat) => rd c (a : Int)) 1) r) : Ev (fun k => spec_BestShares.l0 k P (T : Int) [] [] c 0) r := by
  refine Ev.up (fun n k => spec_BestShares.l0 k P (T : Int) ((List.range n).map fun (a : Nat) => [(a : Int)]) ((List.range n).map fun (a : Nat) => rd c (a : Int)) c (n : Int)) (T + 1) r ?_ ?_
  · apply Ev.succ
    simp only [spec_BestShares.l0]
    exact Ev.ite_neg (by omega) h
  · intro n hn ih
    apply Ev.succ
    simp only [spec_BestShares.l0]
    refine Ev.ite_pos (by omega) (Ev.ite_pos (by simp; omega) (Ev.ite_pos (by omega) (Ev.ite_pos (by omega) (Ev.ite_pos (by simp; omega) ?_))))
    rw [wrap64_succ (by omega)]
    rw [mapRange_succ, mapRange_succ] at ih
    exact ih
end
theorem ev_curveT (P : List (List Int)) (T : Nat) (hT : T ≤ 60) (hP : okProgs P = true) (i : Nat) (hi : i < P.length) : Ev (fun k => spec_l04Distances.f k (rd_L1 P (i : Int))) (dists P[i]) ∧ Ev (fun k => spec_l04Curve.f k (dists P[i]) (T : Int)) (crvT T P[i]) := by
  have hou : okUses P[i] = true := by
    unfold okProgs at hP
    exact List.all_eq_true.1 (Bool.and_eq_true_iff.1 hP).2 _ (List.getElem_mem hi)
  obtain ⟨_, hul⟩ := (okUses_iff _).1 hou
  have hdl : (dists P[i]).length = P[i].length := distsTo_length _ _
  have e : rd_L1 P (i : Int) = P[i] := rdLL P i hi
  exact ⟨by rw [e]; exact ev_l04Distances _ (by omega), ev_spec_curve _ T (by omega) (by omega)⟩
theorem crvT_length (T : Nat) (p : List Int) : (crvT T p).length = T + 1 := crv_length _ _
theorem ev_bs1 (P : List (List Int)) (T : Nat) (hT : T ≤ 60) (hP : okProgs P = true) (hne : P ≠ []) : Ev (fun k => spec_BestShares.l1 k P (T : Int) (fsh (crvT T) T (P.take 1)).1 (fsh (crvT T) T (P.take 1)).2 1) ((fsh (crvT T) T P).1.getD T [], rd (fsh (crvT T) T P).2 (T : Int), true) := by
  have hlp : 0 < P.length := List.length_pos_iff.2 hne
  have hl4 : P.length ≤ 4 := by unfold okProgs at hP; simpa using (Bool.and_eq_true_iff.1 hP).1
  have hlen : ∀ j, j < P.length → TabL (j + 1) T (fsh (crvT T) T (P.take (j + 1))).1 (fsh (crvT T) T (P.take (j + 1))).2 := by
    intro j hj
    match P, hlp with
    | p :: ps, _ =>
      rw [List.take_succ_cons]
      have h := fsh_len (crvT T) T (ps.take j) p
      rw [List.length_take, Nat.min_eq_left (by simp at hj; omega)] at h
      exact h
  refine Ev.up (fun j k => spec_BestShares.l1 k P (T : Int) (fsh (crvT T) T (P.take (j + 1))).1 (fsh (crvT T) T (P.take (j + 1))).2 ((j + 1 : Nat) : Int)) (P.length - 1) _ ?_ ?_
  · have h := hlen (P.length - 1) (by omega)
    rw [show P.length - 1 + 1 = P.length by omega, List.take_length] at h ⊢
    have hs := h.hs
    have hm := h.hm
    apply Ev.succ
    simp only [spec_BestShares.l1]
    rw [rdS]
    exact Ev.ite_neg (by omega) (Ev.ite_pos (by omega) (Ev.ite_pos (by omega) (Ev.ite_pos (by omega) (Ev.now _))))
  · intro j hj ih
    have h := hlen j (by omega)
    obtain ⟨h1, h2⟩ := ev_curveT P T hT hP (j + 1) (by omega)
    apply Ev.succ
    simp only [spec_BestShares.l1]
    refine Ev.ite_pos (by omega) (Ev.ite_pos (by omega) (Ev.bind h1 (Ev.bind h2 ?_)))
    refine ev_bs2 h (by omega) hT (crvT_length T _) _ ?_
    rw [wrap64_succ (by omega)]
    have e : fstep T (fsh (crvT T) T (P.take (j + 1))) (crvT T (P[j + 1]'(by omega))) = fsh (crvT T) T (P.take (j + 1 + 1)) := by
      rw [List.take_succ_eq_append_getElem (show j + 1 < P.length by omega), fsh_snoc _ _ _ _ (by intro h0; have := congrArg List.length h0; rw [List.length_take, List.length_nil] at this; omega)]
    show Ev (fun k => spec_BestShares.l1 k P (T : Int) (fstep T (fsh (crvT T) T (P.take (j + 1))) (crvT T (P[j + 1]'(by omega)))).1 (fstep T (fsh (crvT T) T (P.take (j + 1))) (crvT T (P[j + 1]'(by omega)))).2 ((j + 1 + 1 : Nat) : Int)) _
    rw [e]
    exact ih
def bestSh (P : List (List Int)) (a : Int) : List Int × Int × Bool := if okBest P a = true then ((fsh (crvT a.toNat) a.toNat P).1.getD a.toNat [], rd (fsh (crvT a.toNat) a.toNat P).2 a, true) else ([], 0, false)
theorem ev_spec_BestShares (P : List (List Int)) (a : Int) (hP : P.length ≤ 9223372036854775807) (hin : ∀ y ∈ P, y.length ≤ 9223372036854775807) : Ev (fun k => spec_BestShares.f k P a) (bestSh P a) := by
  unfold spec_BestShares.f bestSh okBest
  refine Ev.bind (ev_l04Programs P hP hin) ?_
  cases hg : okProgs P with
  | false =>
    refine Ev.ite_neg (by simp) (Ev.succ ?_)
    simp only [spec_BestShares.j0]
    exact Ev.ite_pos (by first | rfl | trivial | simp) (Ev.eq (Ev.now _) (by simp))
  | true =>
    refine Ev.ite_pos rfl ?_
    by_cases hne : P = []
    · refine Ev.ite_pos (by rw [hne]; rfl) (Ev.succ ?_)
      simp only [spec_BestShares.j0]
      exact Ev.ite_pos (by first | rfl | trivial | simp) (Ev.eq (Ev.now _) (by rw [hne]; simp))
    · have hlp : 0 < P.length := List.length_pos_iff.2 hne
      refine Ev.ite_neg (by omega) (Ev.cbind (l04Size_f a) (Ev.succ ?_))
      simp only [spec_BestShares.j0]
      cases hs : okShare a with
      | false => exact Ev.ite_pos (by first | rfl | trivial | simp) (Ev.eq (Ev.now _) (by simp))
      | true =>
        have hs2 : 0 ≤ a ∧ a ≤ 60 := by simpa [okShare] using hs
        obtain ⟨T, rfl⟩ : ∃ T : Nat, a = (T : Int) := ⟨a.toNat, by omega⟩
        obtain ⟨h1, h2⟩ := ev_curveT P T (by omega) hg 0 hlp
        refine Ev.ite_neg (by simp) (Ev.ite_pos (by omega) (Ev.bind h1 (Ev.bind h2 (ev_bs0 (by omega) (crvT_length T _) ?_))))
        have h3 := ev_bs1 P T (by omega) hg hne
        refine Ev.eq ?_ (show ((fsh (crvT T) T P).1.getD T [], rd (fsh (crvT T) T P).2 (T : Int), true) = _ by rw [decide_eq_true hne, Int.toNat_natCast]; rfl)
        match P, hlp with
        | p :: ps, _ => exact h3
/-- The curve's numbers are few. -/
theorem crvT_small (T : Nat) (p : List Int) (h : okUses p = true) : Sml (crvT T p) T := by
  obtain ⟨_, hl⟩ := (okUses_iff _).1 h
  have hdl : (dists p).length = p.length := distsTo_length _ _
  intro k hk
  unfold crvT crv
  rw [rd_range (fun n => (((dists p).countP (isMiss n) : Nat) : Int)) T k hk]
  have := List.countP_le_length (p := isMiss k) (l := dists p)
  omega
end Go.Proofs.Ytfiohpbinpbhcaa.Q
