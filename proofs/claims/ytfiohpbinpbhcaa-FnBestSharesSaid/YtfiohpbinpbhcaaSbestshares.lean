/- The best shares: from the last program to the first, and from the first to the last, the same are found; no conditions beyond those written. -/
import Derived.Test.YtfiohpbinpbhcaaQx0
import Derived.Test.YtfiohpbinpbhcaaSbase
import Derived.Test.YtfiohpbinpbhcaaSdraw
namespace Go.Proofs.Ytfiohpbinpbhcaa.Q
open Go.RowKit Go.Proofs.YtfiohpbinpbhcaaW.PrintWords Go.Proofs.YtfiohpbinpbhcaaW.PrintLast Go.Proofs.YtfiohpbinpbhcaaW.PrintMore
attribute [local go_sem] max2_int min2_int max_two min_two max_three min_three max_four min_four   -- for this text's walks alone
set_option linter.unusedVariables false
set_option linter.unusedSimpArgs false

def shv : List (List Int) → List Int → Int
  | c :: cs, s :: ss => rd c s + shv cs ss
  | _, _ => 0
def tot : List Int → Int
  | [] => 0
  | x :: xs => x + tot xs
structure Feas (k : Nat) (n : Int) (s : List Int) : Prop where
  len : s.length = k
  pos : ∀ x ∈ s, 0 ≤ x
  sum : tot s = n
theorem tot_nonneg : ∀ s : List Int, (∀ x ∈ s, 0 ≤ x) → 0 ≤ tot s
  | [], _ => Int.le_refl _
  | x :: s, h => by
    have h1 := h x (by simp)
    have h2 := tot_nonneg s (fun y hy => h y (by simp [hy]))
    show 0 ≤ x + tot s
    omega
theorem tot_snoc (x : Int) : ∀ s : List Int, tot (s ++ [x]) = tot s + x
  | [] => by simp [tot]
  | y :: s => by show y + tot (s ++ [x]) = y + tot s + x; rw [tot_snoc x s]; omega
theorem shv_snoc (c : List Int) (x : Int) : ∀ (cs : List (List Int)) (s : List Int), s.length = cs.length → shv (cs ++ [c]) (s ++ [x]) = shv cs s + rd c x
  | [], [], _ => by simp [shv]
  | [], _ :: _, h => by simp at h
  | _ :: _, [], h => by simp at h
  | d :: cs, y :: s, h => by show rd d y + shv (cs ++ [c]) (s ++ [x]) = rd d y + shv cs s + rd c x; rw [shv_snoc c x cs s (by simpa using h)]; omega
/-- The shares with the fewest misses, of several the least ones. -/
def BestS (cs : List (List Int)) (n : Int) (s : List Int) : Prop := Feas cs.length n s ∧ ∀ t, Feas cs.length n t → shv cs s < shv cs t ∨ (shv cs s = shv cs t ∧ lessB t s = false)
theorem BestS.unique {cs : List (List Int)} {n : Int} {s t : List Int} (h : BestS cs n s) (k : BestS cs n t) : s = t := by
  rcases h.2 t k.1 with h1 | ⟨h1, h2⟩ <;> rcases k.2 s h.1 with h3 | ⟨h3, h4⟩
  · omega
  · omega
  · omega
  · exact less_antisymm s t (h.1.len.trans k.1.len.symm) h4 h2
theorem BestS.one (c : List Int) (n : Nat) : BestS [c] n [(n : Int)] := by
  refine ⟨⟨rfl, fun x hx => by have := List.mem_singleton.1 hx; omega, by simp [tot]⟩, fun t ht => ?_⟩
  obtain ⟨h1, h2, h3⟩ := ht
  match t, h1, h3 with
  | [x], _, h3 =>
    have : x = (n : Int) := by simpa [tot] using h3
    rw [this]
    exact .inr ⟨rfl, by simp [lessB]⟩
theorem BestS.cons {cs : List (List Int)} {c : List Int} {n x : Nat} {bs : Nat → List Int} (h : ∀ k, k ≤ n → BestS cs (k : Int) (bs k)) (hx : x ≤ n)
    (hmin : ∀ y : Nat, y ≤ n → rd c x + shv cs (bs (n - x)) ≤ rd c y + shv cs (bs (n - y))) (hfirst : ∀ y : Nat, y < x → rd c x + shv cs (bs (n - x)) < rd c y + shv cs (bs (n - y))) :
    BestS (c :: cs) n ((x : Int) :: bs (n - x)) := by
  have hb := (h (n - x) (by omega)).1
  refine ⟨⟨by rw [List.length_cons, List.length_cons, hb.len], fun y hy => ?_, ?_⟩, fun t ht => ?_⟩
  · rcases List.mem_cons.1 hy with rfl | hy
    · omega
    · exact hb.pos y hy
  · show (x : Int) + tot (bs (n - x)) = n
    rw [hb.sum]; omega
  · obtain ⟨h1, h2, h3⟩ := ht
    match t, h1, h2, h3 with
    | y :: t, h1, h2, h3 =>
      have hy0 := h2 y (by simp)
      have ht0 := tot_nonneg t (fun z hz => h2 z (by simp [hz]))
      have h3' : y + tot t = n := h3
      obtain ⟨k, rfl⟩ : ∃ k : Nat, y = (k : Int) := ⟨y.toNat, by omega⟩
      have hk : k ≤ n := by omega
      have hf : Feas cs.length ((n - k : Nat) : Int) t := ⟨by simpa using h1, fun z hz => h2 z (by simp [hz]), by omega⟩
      have e1 := hmin k hk
      show rd c x + shv cs (bs (n - x)) < rd c k + shv cs t ∨ (rd c x + shv cs (bs (n - x)) = rd c k + shv cs t ∧ _)
      rcases (h (n - k) (by omega)).2 t hf with h5 | ⟨h5, h6⟩
      · left; omega
      · rw [← h5]
        rcases Int.lt_or_eq_of_le e1 with e2 | e2
        · exact .inl e2
        · refine .inr ⟨e2, ?_⟩
          rw [lessB_cons_no]
          rcases Nat.lt_trichotomy k x with h7 | h7 | h7
          · have := hfirst k h7; omega
          · subst h7; exact .inr ⟨rfl, h6⟩
          · left; omega
theorem BestS.snoc {cs : List (List Int)} {c : List Int} {n x : Nat} {fs : Nat → List Int} (h : ∀ k, k ≤ n → BestS cs (k : Int) (fs k)) (hx : x ≤ n)
    (hmin : ∀ y : Nat, y ≤ n → shv cs (fs (n - x)) + rd c x < shv cs (fs (n - y)) + rd c y ∨ (shv cs (fs (n - x)) + rd c x = shv cs (fs (n - y)) + rd c y ∧ lessB (fs (n - y) ++ [(y : Int)]) (fs (n - x) ++ [(x : Int)]) = false)) :
    BestS (cs ++ [c]) n (fs (n - x) ++ [(x : Int)]) := by
  have hb := (h (n - x) (by omega)).1
  refine ⟨⟨by rw [List.length_append, List.length_append, hb.len]; rfl, fun y hy => ?_, ?_⟩, fun t ht => ?_⟩
  · rcases List.mem_append.1 hy with hy | hy
    · exact hb.pos y hy
    · have := List.mem_singleton.1 hy; omega
  · rw [tot_snoc, hb.sum]; omega
  · obtain ⟨h1, h2, h3⟩ := ht
    have hne : t ≠ [] := by intro e; rw [e, List.length_append] at h1; simp at h1
    obtain ⟨t', y, rfl⟩ : ∃ t' y, t = t' ++ [y] := ⟨t.dropLast, t.getLast hne, (List.dropLast_concat_getLast hne).symm⟩
    rw [List.length_append, List.length_append] at h1
    have hl : t'.length = cs.length := by simpa using h1
    rw [tot_snoc] at h3
    have hy0 := h2 y (by simp)
    have ht0 := tot_nonneg t' (fun z hz => h2 z (List.mem_append_left _ hz))
    obtain ⟨k, rfl⟩ : ∃ k : Nat, y = (k : Int) := ⟨y.toNat, by omega⟩
    have hk : k ≤ n := by omega
    have hf : Feas cs.length ((n - k : Nat) : Int) t' := ⟨hl, fun z hz => h2 z (List.mem_append_left _ hz), by omega⟩
    rw [shv_snoc _ _ _ _ hb.len, shv_snoc _ _ _ _ hl]
    have hfk := (h (n - k) (by omega)).1
    rcases (h (n - k) (by omega)).2 t' hf with h5 | ⟨h5, h6⟩
    · rcases hmin k hk with h7 | ⟨h7, _⟩ <;> (left; omega)
    · rcases hmin k hk with h7 | ⟨h7, h8⟩
      · left; omega
      · refine .inr ⟨by omega, ?_⟩
        refine less_trans _ (fs (n - k) ++ [(k : Int)]) _ ?_ ?_ h8 (less_snoc t' _ _ (hl.trans hfk.len.symm) h6)
        · rw [List.length_append, List.length_append, hb.len, hfk.len]; rfl
        · rw [List.length_append, List.length_append, hfk.len, hl]
theorem rd_range (f : Nat → Int) (T k : Nat) (h : k ≤ T) : rd ((List.range (T + 1)).map f) (k : Int) = f k := by
  show ((List.range (T + 1)).map f).getD (k : Int).toNat 0 = f k
  rw [Int.toNat_natCast, List.getD_eq_getElem?_getD, List.getElem?_map, List.getElem?_range (by omega)]; rfl
theorem getD_range (f : Nat → List Int) (T k : Nat) (h : k ≤ T) : ((List.range (T + 1)).map f).getD k [] = f k := by
  rw [List.getD_eq_getElem?_getD, List.getElem?_map, List.getElem?_range (by omega)]; rfl
/-- The best first share among some, and its misses. -/
def pk (c m : List Int) (n : Nat) : Nat → Int × Int
  | 0 => (0, -1)
  | k + 1 => if (pk c m n k).2 < 0 ∨ wrap64 (rd c (k : Int) + rd m ((n - k : Nat) : Int)) < (pk c m n k).2 then ((k : Int), wrap64 (rd c (k : Int) + rd m ((n - k : Nat) : Int))) else pk c m n k
theorem pk_fact (c m : List Int) (n : Nat) (hc : ∀ k : Nat, k ≤ n → 0 ≤ rd c k ∧ rd c k ≤ 1000) (hm : ∀ k : Nat, k ≤ n → 0 ≤ rd m k ∧ rd m k ≤ 1000) :
    ∀ k, k ≤ n → ∃ x : Nat, x ≤ k ∧ pk c m n (k + 1) = ((x : Int), rd c x + rd m ((n - x : Nat) : Int)) ∧ (∀ y : Nat, y ≤ k → rd c x + rd m ((n - x : Nat) : Int) ≤ rd c y + rd m ((n - y : Nat) : Int)) ∧ ∀ y : Nat, y < x → rd c x + rd m ((n - x : Nat) : Int) < rd c y + rd m ((n - y : Nat) : Int)
  | 0, _ => by
    have h1 := hc 0 (by omega)
    have h2 := hm (n - 0) (by omega)
    refine ⟨0, Nat.le_refl _, ?_, fun y hy => ?_, fun y hy => by omega⟩
    · unfold pk pk
      rw [if_pos (.inl (by decide)), wrap64_id (by omega) (by omega)]
    · obtain rfl : y = 0 := by omega
      exact Int.le_refl _
  | k + 1, hk => by
    obtain ⟨x, h0, h1, h2, h3⟩ := pk_fact c m n hc hm k (by omega)
    have g1 := hc (k + 1) hk
    have g2 := hm (n - (k + 1)) (by omega)
    have g3 := hc x (by omega)
    have g4 := hm (n - x) (by omega)
    unfold pk
    rw [h1]
    have e : wrap64 (rd c ((k + 1 : Nat) : Int) + rd m ((n - (k + 1) : Nat) : Int)) = rd c ((k + 1 : Nat) : Int) + rd m ((n - (k + 1) : Nat) : Int) := wrap64_id (by omega) (by omega)
    rw [e]
    show ∃ x_1 : Nat, _ ∧ (if rd c x + rd m ((n - x : Nat) : Int) < 0 ∨ rd c ((k + 1 : Nat) : Int) + rd m ((n - (k + 1) : Nat) : Int) < rd c x + rd m ((n - x : Nat) : Int) then _ else _) = _ ∧ _
    by_cases hlt : rd c ((k + 1 : Nat) : Int) + rd m ((n - (k + 1) : Nat) : Int) < rd c x + rd m ((n - x : Nat) : Int)
    · refine ⟨k + 1, Nat.le_refl _, by rw [if_pos (.inr hlt)], fun y hy => ?_, fun y hy => ?_⟩
      · by_cases e : y = k + 1
        · subst e; exact Int.le_refl _
        · have := h2 y (by omega); omega
      · have := h2 y (by omega); omega
    · refine ⟨x, by omega, by rw [if_neg (by rintro (h | h) <;> omega)], fun y hy => ?_, h3⟩
      by_cases e : y = k + 1
      · subst e; omega
      · exact h2 y (by omega)
/-- From the last program to the first: the best shares for each total, and their misses. -/
def bsh (C : List Int → List Int) (T : Nat) : List (List Int) → List (List Int) × List Int
  | [] => ([], [])
  | p :: ps => if ps = [] then ((List.range (T + 1)).map fun (a : Nat) => [(a : Int)], (List.range (T + 1)).map fun (a : Nat) => rd (C p) (a : Int))
    else ((List.range (T + 1)).map fun n => (pk (C p) (bsh C T ps).2 n (n + 1)).1 :: (bsh C T ps).1.getD (n - (pk (C p) (bsh C T ps).2 n (n + 1)).1.toNat) [], (List.range (T + 1)).map fun n => (pk (C p) (bsh C T ps).2 n (n + 1)).2)
/-- A table of best shares. -/
def Tab (cs : List (List Int)) (T : Nat) (S : List (List Int)) (M : List Int) : Prop := ∃ bs : Nat → List Int, S = (List.range (T + 1)).map bs ∧ M = (List.range (T + 1)).map (fun n => shv cs (bs n)) ∧ ∀ n, n ≤ T → BestS cs n (bs n) ∧ 0 ≤ shv cs (bs n) ∧ shv cs (bs n) ≤ 60 * (cs.length : Int)
def Sml (c : List Int) (T : Nat) : Prop := ∀ k : Nat, k ≤ T → 0 ≤ rd c k ∧ rd c k ≤ 60
theorem tab_one (c : List Int) (T : Nat) (hc : Sml c T) : Tab [c] T ((List.range (T + 1)).map fun (a : Nat) => [(a : Int)]) ((List.range (T + 1)).map fun (a : Nat) => rd c (a : Int)) := by
  have e : ∀ n : Nat, shv [c] [(n : Int)] = rd c n := fun n => by show rd c n + 0 = rd c n; omega
  refine ⟨fun (a : Nat) => [(a : Int)], rfl, ?_, fun n hn => ⟨BestS.one c n, ?_⟩⟩
  · simp only [e]
  · have := hc n hn
    rw [e]; simp; omega
theorem bsh_tab (C : List Int → List Int) (T : Nat) : ∀ ps : List (List Int), ps ≠ [] → ps.length ≤ 4 → (∀ p ∈ ps, Sml (C p) T) → Tab (ps.map C) T (bsh C T ps).1 (bsh C T ps).2
  | [], h, _, _ => absurd rfl h
  | p :: ps, _, hl, hs => by
    have hc := hs p (by simp)
    unfold bsh
    by_cases hps : ps = []
    · rw [if_pos hps, hps]
      exact tab_one (C p) T hc
    · rw [if_neg hps]
      rw [List.length_cons] at hl
      obtain ⟨bs, e1, e2, h⟩ := bsh_tab C T ps hps (by omega) (fun q hq => hs q (by simp [hq]))
      obtain ⟨S, hS⟩ : ∃ S, S = (bsh C T ps).1 := ⟨_, rfl⟩
      obtain ⟨M, hM⟩ : ∃ M, M = (bsh C T ps).2 := ⟨_, rfl⟩
      rw [← hS] at e1
      rw [← hM] at e2
      rw [← hS, ← hM]
      have hMr : ∀ k : Nat, k ≤ T → rd M k = shv (ps.map C) (bs k) := fun k hk => by rw [e2]; exact rd_range _ T k hk
      have hSr : ∀ k : Nat, k ≤ T → S.getD k [] = bs k := fun k hk => by rw [e1]; exact getD_range _ T k hk
      have hlen : ((ps.map C).length : Int) ≤ 3 := by rw [List.length_map]; omega
      have hpk : ∀ n, n ≤ T → ∃ x : Nat, x ≤ n ∧ pk (C p) M n (n + 1) = ((x : Int), rd (C p) x + shv (ps.map C) (bs (n - x))) ∧ (∀ y : Nat, y ≤ n → rd (C p) x + shv (ps.map C) (bs (n - x)) ≤ rd (C p) y + shv (ps.map C) (bs (n - y))) ∧ ∀ y : Nat, y < x → rd (C p) x + shv (ps.map C) (bs (n - x)) < rd (C p) y + shv (ps.map C) (bs (n - y)) := by
        intro n hn
        obtain ⟨x, g0, g1, g2, g3⟩ := pk_fact (C p) M n (fun k hk => by have := hc k (by omega); omega) (fun k hk => by have := h k (by omega); rw [hMr k (by omega)]; omega) n (Nat.le_refl _)
        refine ⟨x, g0, ?_, fun y hy => ?_, fun y hy => ?_⟩
        · rw [g1, hMr _ (by omega)]
        · have := g2 y hy; rwa [hMr _ (by omega), hMr _ (by omega)] at this
        · have := g3 y hy; rwa [hMr _ (by omega), hMr _ (by omega)] at this
      refine ⟨fun n => (pk (C p) M n (n + 1)).1 :: S.getD (n - (pk (C p) M n (n + 1)).1.toNat) [], rfl, ?_, fun n hn => ?_⟩
      · apply List.map_congr_left
        intro n hn
        have hn := List.mem_range.1 hn
        obtain ⟨x, g0, g1, g2, g3⟩ := hpk n (by omega)
        dsimp only
        rw [g1]
        show _ = rd (C p) x + shv (ps.map C) (S.getD (n - (x : Int).toNat) [])
        rw [Int.toNat_natCast, hSr _ (by omega)]
      · obtain ⟨x, g0, g1, g2, g3⟩ := hpk n hn
        dsimp only
        rw [g1]
        show BestS (C p :: ps.map C) n ((x : Int) :: S.getD (n - (x : Int).toNat) []) ∧ 0 ≤ rd (C p) x + shv (ps.map C) (S.getD (n - (x : Int).toNat) []) ∧ rd (C p) x + shv (ps.map C) (S.getD (n - (x : Int).toNat) []) ≤ 60 * ((C p :: ps.map C).length : Int)
        rw [Int.toNat_natCast, hSr _ (by omega)]
        have h5 := hc x (by omega)
        have h6 := h (n - x) (by omega)
        refine ⟨BestS.cons (fun k hk => (h k (by omega)).1) g0 g2 g3, by omega, ?_⟩
        rw [List.length_cons]; push_cast; omega
/-- The best list among some whose last share is told, and its misses. -/
def pf (S : List (List Int)) (M c : List Int) (n : Nat) : Nat → List Int × Int
  | 0 => (S.getD n [] ++ [0], wrap64 (rd M (n : Int) + rd c 0))
  | k + 1 => if wrap64 (rd M ((n - (k + 1) : Nat) : Int) + rd c ((k + 1 : Nat) : Int)) < (pf S M c n k).2 ∨ (wrap64 (rd M ((n - (k + 1) : Nat) : Int) + rd c ((k + 1 : Nat) : Int)) = (pf S M c n k).2 ∧ lessB (S.getD (n - (k + 1)) [] ++ [((k + 1 : Nat) : Int)]) (pf S M c n k).1 = true)
      then (S.getD (n - (k + 1)) [] ++ [((k + 1 : Nat) : Int)], wrap64 (rd M ((n - (k + 1) : Nat) : Int) + rd c ((k + 1 : Nat) : Int))) else pf S M c n k
def fstep (T : Nat) (s : List (List Int) × List Int) (c : List Int) : List (List Int) × List Int := ((List.range (T + 1)).map fun n => (pf s.1 s.2 c n n).1, (List.range (T + 1)).map fun n => (pf s.1 s.2 c n n).2)
theorem pf_fact (cs : List (List Int)) (S : List (List Int)) (M c : List Int) (n : Nat) (fs : Nat → List Int) (hS : ∀ k, k ≤ n → S.getD k [] = fs k) (hM : ∀ k : Nat, k ≤ n → rd M k = shv cs (fs k)) (hc : ∀ k : Nat, k ≤ n → 0 ≤ rd c k ∧ rd c k ≤ 1000) (hm : ∀ k, k ≤ n → 0 ≤ shv cs (fs k) ∧ shv cs (fs k) ≤ 1000) (hl : ∀ k, k ≤ n → (fs k).length = cs.length) :
    ∀ k, k ≤ n → ∃ x : Nat, x ≤ k ∧ pf S M c n k = (fs (n - x) ++ [(x : Int)], shv cs (fs (n - x)) + rd c x) ∧ ∀ y : Nat, y ≤ k → shv cs (fs (n - x)) + rd c x < shv cs (fs (n - y)) + rd c y ∨ (shv cs (fs (n - x)) + rd c x = shv cs (fs (n - y)) + rd c y ∧ lessB (fs (n - y) ++ [(y : Int)]) (fs (n - x) ++ [(x : Int)]) = false)
  | 0, _ => by
    have h1 := hc 0 (by omega)
    have h2 := hm n (Nat.le_refl _)
    refine ⟨0, Nat.le_refl _, ?_, fun y hy => ?_⟩
    · unfold pf
      rw [hS n (Nat.le_refl _), hM n (Nat.le_refl _), Nat.sub_zero]
      have e : rd c 0 = rd c ((0 : Nat) : Int) := rfl
      rw [e, wrap64_id (by omega) (by omega)]; rfl
    · obtain rfl : y = 0 := by omega
      refine .inr ⟨rfl, ?_⟩
      have key : ∀ l : List Int, lessB l l = false := by
        intro l
        cases h : lessB l l with
        | false => rfl
        | true => have := less_asymm l l h; rw [h] at this; cases this
      exact key _
  | k + 1, hk => by
    obtain ⟨x, h0, h1, h2⟩ := pf_fact cs S M c n fs hS hM hc hm hl k (by omega)
    have g1 := hc (k + 1) hk
    have g2 := hm (n - (k + 1)) (by omega)
    have g3 := hc x (by omega)
    have g4 := hm (n - x) (by omega)
    unfold pf
    rw [h1, hS _ (by omega), hM _ (by omega), wrap64_id (by omega) (by omega)]
    show ∃ x_1 : Nat, _ ∧ (if shv cs (fs (n - (k + 1))) + rd c ((k + 1 : Nat) : Int) < shv cs (fs (n - x)) + rd c x ∨ (shv cs (fs (n - (k + 1))) + rd c ((k + 1 : Nat) : Int) = shv cs (fs (n - x)) + rd c x ∧ lessB (fs (n - (k + 1)) ++ [((k + 1 : Nat) : Int)]) (fs (n - x) ++ [(x : Int)]) = true) then _ else _) = _ ∧ _
    have hself : ∀ l : List Int, lessB l l = false := by
      intro l
      cases h : lessB l l with
      | false => rfl
      | true => have := less_asymm l l h; rw [h] at this; cases this
    by_cases hlt : shv cs (fs (n - (k + 1))) + rd c ((k + 1 : Nat) : Int) < shv cs (fs (n - x)) + rd c x ∨ (shv cs (fs (n - (k + 1))) + rd c ((k + 1 : Nat) : Int) = shv cs (fs (n - x)) + rd c x ∧ lessB (fs (n - (k + 1)) ++ [((k + 1 : Nat) : Int)]) (fs (n - x) ++ [(x : Int)]) = true)
    · refine ⟨k + 1, Nat.le_refl _, by rw [if_pos hlt], fun y hy => ?_⟩
      by_cases e : y = k + 1
      · subst e; exact .inr ⟨rfl, hself _⟩
      · have h3 := h2 y (by omega)
        rcases hlt with h4 | ⟨h4, h5⟩
        · left; rcases h3 with h3 | ⟨h3, _⟩ <;> omega
        · rcases h3 with h3 | ⟨h3, h6⟩
          · left; omega
          · refine .inr ⟨by omega, ?_⟩
            refine less_trans _ (fs (n - x) ++ [(x : Int)]) _ ?_ ?_ (less_asymm _ _ h5) h6
            · simp only [List.length_append, List.length_cons, List.length_nil]; rw [hl _ (by omega), hl _ (by omega)]
            · simp only [List.length_append, List.length_cons, List.length_nil]; rw [hl _ (by omega), hl _ (by omega)]
    · refine ⟨x, by omega, by rw [if_neg hlt], fun y hy => ?_⟩
      by_cases e : y = k + 1
      · subst e
        rcases Int.lt_trichotomy (shv cs (fs (n - x)) + rd c x) (shv cs (fs (n - (k + 1))) + rd c ((k + 1 : Nat) : Int)) with h5 | h5 | h5
        · exact .inl h5
        · refine .inr ⟨h5, ?_⟩
          cases h6 : lessB (fs (n - (k + 1)) ++ [((k + 1 : Nat) : Int)]) (fs (n - x) ++ [(x : Int)]) with
          | false => rfl
          | true => exact absurd (.inr ⟨h5.symm, h6⟩) hlt
        · exact absurd (.inl h5) hlt
      · exact h2 y (by omega)
theorem fstep_tab (cs : List (List Int)) (c : List Int) (T : Nat) (s : List (List Int) × List Int) (h : Tab cs T s.1 s.2) (hc : Sml c T) (hl : cs.length ≤ 3) : Tab (cs ++ [c]) T (fstep T s c).1 (fstep T s c).2 := by
  obtain ⟨fs, e1, e2, h⟩ := h
  have hMr : ∀ k : Nat, k ≤ T → rd s.2 k = shv cs (fs k) := fun k hk => by rw [e2]; exact rd_range _ T k hk
  have hSr : ∀ k : Nat, k ≤ T → s.1.getD k [] = fs k := fun k hk => by rw [e1]; exact getD_range _ T k hk
  have hpf : ∀ n, n ≤ T → ∃ x : Nat, x ≤ n ∧ pf s.1 s.2 c n n = (fs (n - x) ++ [(x : Int)], shv cs (fs (n - x)) + rd c x) ∧ ∀ y : Nat, y ≤ n → shv cs (fs (n - x)) + rd c x < shv cs (fs (n - y)) + rd c y ∨ (shv cs (fs (n - x)) + rd c x = shv cs (fs (n - y)) + rd c y ∧ lessB (fs (n - y) ++ [(y : Int)]) (fs (n - x) ++ [(x : Int)]) = false) := by
    intro n hn
    exact pf_fact cs s.1 s.2 c n fs (fun k hk => hSr k (by omega)) (fun k hk => hMr k (by omega)) (fun k hk => by have := hc k (by omega); omega) (fun k hk => by have := h k (by omega); omega) (fun k hk => (h k (by omega)).1.1.len) n (Nat.le_refl _)
  refine ⟨fun n => (pf s.1 s.2 c n n).1, rfl, ?_, fun n hn => ?_⟩
  · apply List.map_congr_left
    intro n hn
    have hn := List.mem_range.1 hn
    obtain ⟨x, g0, g1, g2⟩ := hpf n (by omega)
    dsimp only
    rw [g1]
    exact (shv_snoc _ _ _ _ (h (n - x) (by omega)).1.1.len).symm
  · obtain ⟨x, g0, g1, g2⟩ := hpf n hn
    dsimp only
    rw [g1]
    show BestS (cs ++ [c]) n (fs (n - x) ++ [(x : Int)]) ∧ 0 ≤ shv (cs ++ [c]) (fs (n - x) ++ [(x : Int)]) ∧ shv (cs ++ [c]) (fs (n - x) ++ [(x : Int)]) ≤ 60 * ((cs ++ [c]).length : Int)
    rw [shv_snoc _ _ _ _ (h (n - x) (by omega)).1.1.len]
    have h5 := hc x (by omega)
    have h6 := h (n - x) (by omega)
    refine ⟨BestS.snoc (fun k hk => (h k (by omega)).1) g0 g2, by omega, ?_⟩
    rw [List.length_append, List.length_singleton]; push_cast; omega
/-- From the first program to the last. -/
def fsh (C : List Int → List Int) (T : Nat) : List (List Int) → List (List Int) × List Int
  | [] => ([], [])
  | p :: ps => ps.foldl (fun s q => fstep T s (C q)) ((List.range (T + 1)).map fun (a : Nat) => [(a : Int)], (List.range (T + 1)).map fun (a : Nat) => rd (C p) (a : Int))
theorem fold_tab (C : List Int → List Int) (T : Nat) : ∀ (qs : List (List Int)) (cs : List (List Int)) (s : List (List Int) × List Int), Tab cs T s.1 s.2 → cs.length + qs.length ≤ 4 → (∀ p ∈ qs, Sml (C p) T) → Tab (cs ++ qs.map C) T (qs.foldl (fun s q => fstep T s (C q)) s).1 (qs.foldl (fun s q => fstep T s (C q)) s).2
  | [], cs, s, h, _, _ => by simpa using h
  | q :: qs, cs, s, h, hl, hs => by
    rw [List.length_cons] at hl
    have := fold_tab C T qs (cs ++ [C q]) (fstep T s (C q)) (fstep_tab cs (C q) T s h (hs q (by simp)) (by omega)) (by rw [List.length_append, List.length_singleton]; omega) (fun p hp => hs p (by simp [hp]))
    rw [List.append_assoc] at this
    exact this
theorem fsh_tab (C : List Int → List Int) (T : Nat) (ps : List (List Int)) (h : ps ≠ []) (hl : ps.length ≤ 4) (hs : ∀ p ∈ ps, Sml (C p) T) : Tab (ps.map C) T (fsh C T ps).1 (fsh C T ps).2 := by
  match ps, h with
  | p :: ps, _ =>
    rw [List.length_cons] at hl
    have := fold_tab C T ps [C p] ((List.range (T + 1)).map fun (a : Nat) => [(a : Int)], (List.range (T + 1)).map fun (a : Nat) => rd (C p) (a : Int)) (tab_one (C p) T (hs p (by simp))) (by simp; omega) (fun q hq => hs q (by simp [hq]))
    exact this
theorem Tab.same {cs : List (List Int)} {T : Nat} {S S' : List (List Int)} {M M' : List Int} (h : Tab cs T S M) (k : Tab cs T S' M') : S = S' ∧ M = M' := by
  obtain ⟨bs, rfl, rfl, h⟩ := h
  obtain ⟨bs', rfl, rfl, k⟩ := k
  have e : ∀ n, n ∈ List.range (T + 1) → bs n = bs' n := fun n hn => (h n (by have := List.mem_range.1 hn; omega)).1.unique (k n (by have := List.mem_range.1 hn; omega)).1
  exact ⟨List.map_congr_left e, List.map_congr_left (fun n hn => by rw [e n hn])⟩
theorem bsh_fsh (C : List Int → List Int) (T : Nat) (ps : List (List Int)) (h : ps ≠ []) (hl : ps.length ≤ 4) (hs : ∀ p ∈ ps, Sml (C p) T) : bsh C T ps = fsh C T ps := by
  have := (bsh_tab C T ps h hl hs).same (fsh_tab C T ps h hl hs)
  exact Prod.ext this.1 this.2
end Go.Proofs.Ytfiohpbinpbhcaa.Q
