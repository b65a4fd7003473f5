/- The reference's best cuts; no conditions beyond those written. -/
import Derived.Test.YteobbgofbedgdaaQx0
import Derived.Test.YteobbgofbedgdaaQx1
import Derived.Test.YteobbgofbedgdaaQx2
import Derived.Test.YteobbgofbedgdaaSbase
import Derived.Test.YteobbgofbedgdaaSdpdef
import Derived.Test.YteobbgofbedgdaaSfine
import Derived.Test.YteobbgofbedgdaaSintervals
import Derived.Test.YteobbgofbedgdaaSisin
import Derived.Test.YteobbgofbedgdaaSlessb
import Derived.Test.YteobbgofbedgdaaSokaddr
import Derived.Test.YteobbgofbedgdaaSusesimpl
namespace Go.Proofs.Yteobbgofbedgdaa.Q
open Go.RowKit Go.Proofs.YteobbgofbedgdaaW.PrintWords Go.Proofs.YteobbgofbedgdaaW.PrintLast Go.Proofs.YteobbgofbedgdaaW.PrintMore
attribute [local go_sem] max2_int min2_int max_two min_two max_three min_three max_four min_four   -- for this text's walks alone
set_option linter.unusedVariables false
set_option linter.unusedSimpArgs false

theorem getD_setL {α : Type} (l : List α) (d v : α) (a b : Nat) (h : a < l.length) : (l.set a v).getD b d = if a = b then v else l.getD b d := by
  rw [List.getD_eq_getElem?_getD, List.getElem?_set, List.getD_eq_getElem?_getD]
  by_cases e : a = b
  · rw [if_pos e, if_pos h, if_pos e]; rfl
  · rw [if_neg e, if_neg e]
theorem ev_l05Less (x y : List Int) (h : x.length = y.length) (hl : x.length ≤ 1000000) : Ev (fun k => spec_l05Less.f k x y) (lessB x y) := by
  unfold spec_l05Less.f
  have key := Ev.down (fun i k => spec_l05Less.l0 k x y (i : Int)) x.length (fun i => lessB (x.drop i) (y.drop i)) ?_ ?_ 0 (Nat.zero_le _)
  · exact key
  · apply Ev.succ
    simp only [spec_l05Less.l0]
    refine Ev.ite_neg (by omega) (Ev.eq (Ev.now _) ?_)
    rw [List.drop_length, List.drop_eq_nil_of_le (by omega)]; rfl
  · intro i hi ih
    have e : lessB (x.drop i) (y.drop i) = (decide (rd x (i : Int) < rd y (i : Int)) || (decide (rd x (i : Int) = rd y (i : Int)) && lessB (x.drop (i + 1)) (y.drop (i + 1)))) := by
      rw [drop_rd x i hi, drop_rd y i (by omega)]; rfl
    rw [e]
    apply Ev.succ
    simp only [spec_l05Less.l0]
    refine Ev.ite_pos (by omega) (Ev.ite_pos (by omega) (Ev.ite_pos (by omega) ?_))
    by_cases h1 : rd x (i : Int) = rd y (i : Int)
    · refine Ev.ite_pos h1 ?_
      rw [wrap64_succ (by omega)]
      refine Ev.eq ih ?_
      rw [h1]; simp
    · refine Ev.ite_neg h1 (Ev.eq (Ev.now _) ?_)
      simp [h1]
theorem ev_l05Inside (iv : List (List Int)) (a b : Int) (h : iv.length ≤ 60) (h2 : ∀ i : Nat, i < iv.length → (rd_L1 iv (i : Int)).length = 2) : Ev (fun k => spec_l05Inside.f k iv a b) ((btI iv a b : Nat) : Int) := by
  unfold spec_l05Inside.f
  refine Ev.up (fun i k => spec_l05Inside.l0 k iv a b ((btI (iv.take i) a b : Nat) : Int) (i : Int)) iv.length _ ?_ ?_
  · apply Ev.succ
    simp only [spec_l05Inside.l0]
    refine Ev.ite_neg (by omega) ?_
    rw [List.take_length]; exact Ev.now _
  · intro i hi ih
    apply Ev.succ
    simp only [spec_l05Inside.l0]
    have h1 := btI_succ iv a b i hi
    have h3 := h2 i hi
    have hb := btI_le (iv.take i) a b
    rw [List.length_take] at hb
    rw [h1] at ih
    refine Ev.ite_pos (by omega) (Ev.ite_pos (by omega) (Ev.ite_pos (by omega) ?_))
    rw [wrap64_succ (i := i) (by omega)]
    by_cases ha : a ≤ rd (rd_L1 iv (i : Int)) 0
    · refine Ev.ite_pos ha (Ev.ite_pos (by omega) ?_)
      by_cases hc : rd (rd_L1 iv (i : Int)) 1 ≤ b
      · rw [if_pos ⟨ha, hc⟩] at ih
        refine Ev.ite_pos hc ?_
        rw [wrap64_succ (by omega)]; exact ih
      · rw [if_neg (fun q => hc q.2)] at ih
        exact Ev.ite_neg hc ih
    · rw [if_neg (fun q => ha q.1)] at ih
      exact Ev.ite_neg ha ih
section
variable (iv : List (List Int)) (a1 : Int) (n : Nat) (hiv : iv.length ≤ 60) (h2 : ∀ i : Nat, i < iv.length → (rd_L1 iv (i : Int)).length = 2) (hn : n ≤ 60) (hw : 1 ≤ a1) (hw6 : a1 ≤ 6)
include hiv h2 hn hw hw6
theorem ev_bc_in (S : List (List Int)) (C : List Int) (a : Nat) (ha : a ≤ n) (hS : S.length = n + 1) (hC : C.length = n + 1)
    (hT : ∀ b : Nat, a < b → b ≤ n → rd_L1 S (b : Int) = (tabK iv a1 n b).2 ∧ rd C (b : Int) = (tabK iv a1 n b).1) (r : List Int × Bool)
    (hr : Ev (fun k => spec_BestCuts.l1 k a1 iv (n : Int) S C ((a : Int) - 1) (tabK iv a1 n a).2 (tabK iv a1 n a).1 (n : Int)) r) :
    Ev (fun k => spec_BestCuts.l1 k a1 iv (n : Int) S C ((a : Int) - 1) [] ((btI iv ((a : Int) - 1) (n : Int) : Nat) : Int) (a : Int)) r := by
  refine Ev.up (fun i k => spec_BestCuts.l1 k a1 iv (n : Int) S C ((a : Int) - 1) (cpick iv a1 n a (tabK iv a1 n) i).2 (cpick iv a1 n a (tabK iv a1 n) i).1 ((a + i : Nat) : Int)) (n - a) r ?_ ?_
  · rw [tabK_at iv a1 n a ha, show a + (n - a) = n by omega]; exact hr
  · intro i hi ih
    obtain ⟨t1, t2⟩ := hT (a + i + 1) (by omega) (by omega)
    obtain ⟨g1, g2, g3⟩ := tabK_small iv a1 hw n (n - (a + i + 1)) (a + i + 1) (by omega)
    have hin := ev_l05Inside iv ((a : Int) - 1) ((a + i : Nat) : Int) hiv h2
    have hbl := btI_le iv ((a : Int) - 1) ((a + i : Nat) : Int)
    obtain ⟨q, hq⟩ : ∃ q, q = btI iv ((a : Int) - 1) ((a + i : Nat) : Int) := ⟨_, rfl⟩
    have hst : cpick iv a1 n a (tabK iv a1 n) (i + 1) = if betC ((q : Int) + (a1 - 1) + (tabK iv a1 n (a + i + 1)).1, ((a + i : Nat) : Int) :: (tabK iv a1 n (a + i + 1)).2) (cpick iv a1 n a (tabK iv a1 n) i) = true
      then ((q : Int) + (a1 - 1) + (tabK iv a1 n (a + i + 1)).1, ((a + i : Nat) : Int) :: (tabK iv a1 n (a + i + 1)).2) else cpick iv a1 n a (tabK iv a1 n) i := by rw [hq]; rfl
    rw [hst] at ih
    rw [← hq] at hin hbl
    clear hst hq
    obtain ⟨E, hE⟩ : ∃ E, E = cpick iv a1 n a (tabK iv a1 n) i := ⟨_, rfl⟩
    obtain ⟨T, hTT⟩ : ∃ T, T = tabK iv a1 n (a + i + 1) := ⟨_, rfl⟩
    rw [← hE, ← hTT] at ih
    rw [← hTT] at t1 t2 g1 g2 g3
    show Ev (fun k => spec_BestCuts.l1 k a1 iv (n : Int) S C ((a : Int) - 1) (cpick iv a1 n a (tabK iv a1 n) i).2 (cpick iv a1 n a (tabK iv a1 n) i).1 ((a + i : Nat) : Int)) r
    rw [← hE]
    clear hE hTT
    obtain ⟨v, X⟩ := T
    obtain ⟨u, Y⟩ := E
    have hv : wrap64 (wrap64 (wrap64 ((q : Int) + a1) - 1) + v) = (q : Int) + (a1 - 1) + v := by
      have g1 : 0 ≤ v := g1
      have g2 : v ≤ (iv.length : Int) := g2
      rw [wrap64_id (x := (q : Int) + a1) (by omega) (by omega), wrap64_id (x := (q : Int) + a1 - 1) (by omega) (by omega), wrap64_id (by omega) (by omega)]; omega
    have g3 : X.length ≤ n - (a + i + 1) := g3
    have t1 : rd_L1 S ((a + i + 1 : Nat) : Int) = X := t1
    have t2 : rd C ((a + i + 1 : Nat) : Int) = v := t2
    apply Ev.succ
    simp only [spec_BestCuts.l1]
    refine Ev.ite_pos (by omega) (Ev.bind hin ?_)
    rw [wrap64_succ (i := a + i) (by omega)]
    refine Ev.ite_pos (by omega) (Ev.ite_pos (by omega) (Ev.cbind rfl (Ev.ite_pos (by omega) ?_)))
    rw [t1, t2, hv]
    refine Ev.ite_pos (by show 1 + X.length < _; omega) (Ev.cbind rfl ?_)
    have hap : ([((a + i : Nat) : Int)] ++ X) = ((a + i : Nat) : Int) :: X := rfl
    rw [hap]
    have ih : Ev (fun k => spec_BestCuts.l1 k a1 iv (n : Int) S C ((a : Int) - 1) (if betC ((q : Int) + (a1 - 1) + v, ((a + i : Nat) : Int) :: X) (u, Y) = true then ((q : Int) + (a1 - 1) + v, ((a + i : Nat) : Int) :: X) else (u, Y)).2 (if betC ((q : Int) + (a1 - 1) + v, ((a + i : Nat) : Int) :: X) (u, Y) = true then ((q : Int) + (a1 - 1) + v, ((a + i : Nat) : Int) :: X) else (u, Y)).1 ((a + i + 1 : Nat) : Int)) r := ih
    have hbc : betC ((q : Int) + (a1 - 1) + v, ((a + i : Nat) : Int) :: X) (u, Y) = if (q : Int) + (a1 - 1) + v ≠ u then decide ((q : Int) + (a1 - 1) + v < u) else if (((a + i : Nat) : Int) :: X).length ≠ Y.length then decide ((((a + i : Nat) : Int) :: X).length < Y.length) else lessB (((a + i : Nat) : Int) :: X) Y := rfl
    rw [hbc] at ih
    clear hbc
    obtain ⟨p, hp⟩ : ∃ p, p = (q : Int) + (a1 - 1) + v := ⟨_, rfl⟩
    rw [← hp] at ih
    rw [← hp]
    obtain ⟨Z, hZ⟩ : ∃ Z, Z = ((a + i : Nat) : Int) :: X := ⟨_, rfl⟩
    have hZl : Z.length ≤ 60 := by rw [hZ, List.length_cons]; omega
    rw [← hZ] at ih
    rw [← hZ]
    by_cases h1 : p < u
    · rw [if_pos (show p ≠ u by omega), if_pos (by simpa using h1)] at ih
      exact Ev.ite_pos h1 ih
    refine Ev.ite_neg h1 ?_
    by_cases h3 : p = u
    · rw [if_neg (show ¬ p ≠ u by omega)] at ih
      refine Ev.ite_pos h3 ?_
      by_cases h4 : Z.length < Y.length
      · rw [if_pos (show Z.length ≠ Y.length by omega), if_pos (by simpa using h4)] at ih
        exact Ev.ite_pos (by omega) ih
      refine Ev.ite_neg (by omega) ?_
      by_cases h5 : Z.length = Y.length
      · rw [if_neg (show ¬ Z.length ≠ Y.length by omega)] at ih
        refine Ev.ite_pos (by omega) (Ev.bind (ev_l05Less Z Y h5 (by omega)) ?_)
        by_cases h6 : lessB Z Y = true
        · rw [if_pos h6] at ih
          exact Ev.ite_pos h6 ih
        · rw [if_neg h6] at ih
          exact Ev.ite_neg h6 ih
      · rw [if_pos (show Z.length ≠ Y.length by omega), if_neg (by simpa using h4)] at ih
        exact Ev.ite_neg (by omega) ih
    · rw [if_pos (show p ≠ u from h3), if_neg (by simpa using h1)] at ih
      exact Ev.ite_neg h3 ih
theorem ev_bc_out : ∀ (d : Nat) (S : List (List Int)) (C : List Int), d ≤ n + 1 → S.length = n + 1 → C.length = n + 1 →
    (∀ b : Nat, d ≤ b → b ≤ n → rd_L1 S (b : Int) = (tabK iv a1 n b).2 ∧ rd C (b : Int) = (tabK iv a1 n b).1) → Ev (fun k => spec_BestCuts.l0 k a1 iv (n : Int) S C ((d : Int) - 2)) (bestC iv a1 n, true)
  | 0, S, C, _, hS, hC, hT => by
    obtain ⟨t1, t2⟩ := hT 0 (by omega) (by omega)
    apply Ev.succ
    simp only [spec_BestCuts.l0]
    refine Ev.ite_neg (by omega) (Ev.ite_pos (by omega) (Ev.eq (Ev.now _) ?_))
    rw [bestC_tab, ← t1]; rfl
  | a + 1, S, C, hd, hS, hC, hT => by
    apply Ev.succ
    simp only [spec_BestCuts.l0]
    rw [show ((a + 1 : Nat) : Int) - 2 = (a : Int) - 1 by omega]
    have hwa : wrap64 ((a : Int) - 1 + 1) = (a : Int) := by rw [wrap64_id (by omega) (by omega)]; omega
    have hwb : wrap64 ((a : Int) - 1 - 1) = (a : Int) - 2 := by rw [wrap64_id (by omega) (by omega)]; omega
    refine Ev.ite_pos (by omega) (Ev.bind (ev_l05Inside iv ((a : Int) - 1) (n : Int) hiv h2) ?_)
    rw [hwa]
    refine ev_bc_in iv a1 n hiv h2 hn hw hw6 S C a (by omega) hS hC (fun b h1 h3 => hT b (by omega) h3) _ ?_
    apply Ev.succ
    simp only [spec_BestCuts.l1]
    rw [hwa, hwb]
    refine Ev.ite_neg (by omega) (Ev.ite_pos (by omega) (Ev.ite_pos (by omega) (Ev.ite_pos (by omega) ?_)))
    refine ev_bc_out a _ _ (by omega) (by rw [List.length_set]; exact hS) (by rw [List.length_set]; exact hC) (fun b h1 h3 => ?_)
    have hk : a ≠ b → a + 1 ≤ b := by omega
    constructor
    · show (S.set ((a : Int)).toNat _).getD ((b : Int)).toNat [] = _
      rw [Int.toNat_natCast, Int.toNat_natCast, getD_setL _ _ _ _ _ (by omega)]
      by_cases e : a = b
      · rw [if_pos e, e]
      · rw [if_neg e]; exact (hT b (hk e) h3).1
    · show (C.set ((a : Int)).toNat _).getD ((b : Int)).toNat 0 = _
      rw [Int.toNat_natCast, Int.toNat_natCast, getD_setL _ _ _ _ _ (by omega)]
      by_cases e : a = b
      · rw [if_pos e, e]
      · rw [if_neg e]; exact (hT b (hk e) h3).2
end
theorem ev_spec_BestCuts (l : List Int) (n : Int) (h : l.length ≤ 1048576) : Ev (fun k => spec_BestCuts.f k l n) (if okUses l && isIn 1 6 n then (bestC (ivs l) n l.length, true) else ([], false)) := by
  unfold spec_BestCuts.f
  cases ho : okUses l && isIn 1 6 n with
  | false =>
    refine Ev.bind (ev_l05Fine l n (by omega)) ?_
    rw [ho]; exact Ev.ite_neg (by simp) (Ev.now _)
  | true =>
    obtain ⟨h1, h2⟩ := Bool.and_eq_true_iff.1 ho
    obtain ⟨hU, hl⟩ := (okUses_iff l).1 h1
    obtain ⟨hn, hn6⟩ := ways_range h2
    have hiv : (ivs l).length ≤ l.length := ivsTo_length l l.length
    refine Ev.bind (ev_l05Fine l n (by omega)) ?_
    rw [ho, wrap64_succ (by omega), wrap64_id (x := (l.length : Int) - 1) (by omega) (by omega), Int.toNat_natCast, show (l.length : Int) - 1 = ((l.length + 1 : Nat) : Int) - 2 by omega]
    refine Ev.ite_pos rfl (Ev.bind (ev_l05Intervals l hl) (Ev.ite_pos (by omega) (Ev.ite_pos (by omega) (Ev.ite_pos (by omega) ?_))))
    exact ev_bc_out (ivs l) n l.length (by omega) (fun i hi => ivs_two (l := l) (n := (i : Int)) (by omega) (by omega)) hl hn hn6 (l.length + 1) _ _ (Nat.le_refl _) (by simp) (by simp) (fun b h3 h4 => by omega)
end Go.Proofs.Yteobbgofbedgdaa.Q
