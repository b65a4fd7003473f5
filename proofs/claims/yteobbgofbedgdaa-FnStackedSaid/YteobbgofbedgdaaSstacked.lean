/- A memory with ranks holds the first elements of the stack; no conditions beyond those written. -/
import Derived.Test.YteobbgofbedgdaaQx0
import Derived.Test.YteobbgofbedgdaaHrankcontents
import Derived.Test.YteobbgofbedgdaaSbase
import Derived.Test.YteobbgofbedgdaaSr8ranks
import Derived.Test.YteobbgofbedgdaaSmaxfunc
import Derived.Test.YteobbgofbedgdaaSpushi
import Derived.Test.YteobbgofbedgdaaSrankdefs
namespace Go.Proofs.Yteobbgofbedgdaa.Q
open Go.RowKit Go.Proofs.YteobbgofbedgdaaW.PrintWords Go.Proofs.YteobbgofbedgdaaW.PrintLast Go.Proofs.YteobbgofbedgdaaW.PrintMore
attribute [local go_sem] max2_int min2_int max_two min_two max_three min_three max_four min_four   -- for this text's walks alone
set_option linter.unusedVariables false
set_option linter.unusedSimpArgs false

theorem nodup_inj {l : List Int} (h : l.Nodup) {i j : Nat} (hi : i < l.length) (hj : j < l.length) (e : l[i] = l[j]) : i = j := by
  rcases Nat.lt_trichotomy i j with h1 | h1 | h1
  · exact absurd e (List.pairwise_iff_getElem.1 h i j hi hj h1)
  · exact h1
  · exact absurd e.symm (List.pairwise_iff_getElem.1 h j i hj hi h1)
/-- Ranks tell numbers apart. -/
def Tells (R : List Int) : Prop := (∀ x y, 0 ≤ x ∧ x ≤ 63 → 0 ≤ y ∧ y ≤ 63 → rd R x = rd R y → x = y) ∧ ∀ x, 0 ≤ rd R x ∧ rd R x ≤ 63
theorem Tells.of {R : List Int} (h : okRanks R = true) : Tells R := by
  obtain ⟨hk, hl⟩ := (okRanks_iff R).1 h
  obtain ⟨h1, h2, _⟩ := (rk_iff R []).1 hk
  have hr : ∀ x, 0 ≤ rd R x ∧ rd R x ≤ 63 := by
    intro x
    show 0 ≤ R.getD x.toNat 0 ∧ R.getD x.toNat 0 ≤ 63
    rw [List.getD_eq_getElem?_getD]
    by_cases hx : x.toNat < R.length
    · rw [List.getElem?_eq_getElem hx]; exact h1 _ (List.getElem_mem hx)
    · rw [List.getElem?_eq_none (by omega)]; simp
  refine ⟨fun x y hx hy e => ?_, hr⟩
  have hx2 : x.toNat < R.length := by omega
  have hy2 : y.toNat < R.length := by omega
  have e2 : R[x.toNat] = R[y.toNat] := by
    have ex : rd R x = R[x.toNat] := by show R.getD x.toNat 0 = _; rw [List.getD_eq_getElem?_getD, List.getElem?_eq_getElem hx2]; rfl
    have ey : rd R y = R[y.toNat] := by show R.getD y.toNat 0 = _; rw [List.getD_eq_getElem?_getD, List.getElem?_eq_getElem hy2]; rfl
    rw [← ex, ← ey]; exact e
  have := nodup_inj h2 hx2 hy2 e2
  omega
/-- What is carried behind some elements. -/
def carN (R : List Int) (c : Int) : List Int → Int
  | [] => c
  | x :: xs => if rd R c < rd R x then carN R x xs else carN R c xs
theorem goN_perm (R : List Int) : ∀ (xs : List Int) (c : Int), (goN R c xs).Perm (c :: xs)
  | [], c => .refl _
  | x :: xs, c => by
    unfold goN
    split
    · exact (goN_perm R xs x).cons c
    · exact ((goN_perm R xs c).cons x).trans (.swap c x xs)
theorem carN_perm (R : List Int) : ∀ (xs ys : List Int) (c : Int), ((goN R c (xs ++ ys)).take xs.length ++ [carN R c xs]).Perm (c :: xs)
  | [], ys, c => by simp [carN]
  | x :: xs, ys, c => by
    rw [List.cons_append]
    unfold goN carN
    split
    · rw [List.length_cons, List.take_succ_cons, List.cons_append]
      exact (carN_perm R xs ys x).cons c
    · rw [List.length_cons, List.take_succ_cons, List.cons_append]
      exact ((carN_perm R xs ys c).cons x).trans (.swap c x xs)
theorem carN_max (R : List Int) : ∀ (xs : List Int) (c y : Int), y ∈ c :: xs → rd R y ≤ rd R (carN R c xs)
  | [], c, y, h => by rw [List.mem_singleton.1 h]; exact Int.le_refl _
  | x :: xs, c, y, h => by
    unfold carN
    split
    · rename_i hlt
      rcases List.mem_cons.1 h with e | h
      · have := carN_max R xs x x List.mem_cons_self; rw [e]; omega
      · exact carN_max R xs x y h
    · rename_i hlt
      rcases List.mem_cons.1 h with e | h
      · rw [e]; exact carN_max R xs c c List.mem_cons_self
      · rcases List.mem_cons.1 h with e | h
        · have := carN_max R xs c c List.mem_cons_self; rw [e]; omega
        · exact carN_max R xs c y (List.mem_cons_of_mem _ h)
theorem maxTo_rank (R M : List Int) (hT : Tells R) : ∀ t : Nat, t < M.length → ∀ j : Nat, j ≤ t → rd R (rd M (j : Int)) ≤ rd R (maxTo (rcmp R) M t)
  | 0, _, j, hj => by
    obtain rfl : j = 0 := by omega
    exact Int.le_refl _
  | t + 1, h, j, hj => by
    have h1 := hT.2 (rd M ((t + 1 : Nat) : Int))
    have h2 := hT.2 (maxTo (rcmp R) M t)
    have hw : rcmp R (rd M ((t + 1 : Nat) : Int)) (maxTo (rcmp R) M t) = rd R (rd M ((t + 1 : Nat) : Int)) - rd R (maxTo (rcmp R) M t) := wrap64_id (by omega) (by omega)
    unfold maxTo
    rw [hw]
    by_cases e : j = t + 1
    · subst e
      split <;> omega
    · have ih := maxTo_rank R M hT t (by omega) j (by omega)
      split <;> omega
theorem maxBy_rank (R M : List Int) (hT : Tells R) (h0 : 0 < M.length) : maxBy (rcmp R) M ∈ M ∧ ∀ y ∈ M, rd R y ≤ rd R (maxBy (rcmp R) M) := by
  refine ⟨maxTo_mem _ _ _ (by omega), fun y hy => ?_⟩
  obtain ⟨j, hj, rfl⟩ := List.getElem_of_mem hy
  rw [← rd_lt M j hj]
  exact maxTo_rank R M hT (M.length - 1) (by omega) j (by omega)
/-- The memory and the stack fit. -/
def Fits (n : Nat) (M S : List Int) : Prop := M.Nodup ∧ S.Nodup ∧ ∀ x, x ∈ M ↔ x ∈ S.take n
theorem Fits.length {n : Nat} {M S : List Int} (h : Fits n M S) : M.length = min n S.length := by
  have hp : M.Perm (S.take n) := (List.perm_ext_iff_of_nodup h.1 (h.2.1.sublist (List.take_sublist _ _))).2 h.2.2
  rw [hp.length_eq, List.length_take]
theorem fi_mem {S : List Int} {a : Int} : fi S a < S.length ↔ a ∈ S := by
  unfold fi
  rw [List.findIdx_lt_length]
  constructor
  · rintro ⟨x, hx, e⟩
    rw [beq_iff_eq] at e
    exact e ▸ hx
  · intro h
    exact ⟨a, h, by simp⟩
theorem mem_take_fi {S : List Int} {a : Int} (n : Nat) : a ∈ S.take n ↔ fi S a < n ∧ fi S a < S.length := by
  constructor
  · intro h
    obtain ⟨j, hj, e⟩ := List.getElem_of_mem h
    rw [List.length_take] at hj
    rw [List.getElem_take] at e
    have hle : fi S a ≤ j := by
      rcases Nat.lt_or_ge j (fi S a) with h2 | h2
      · exact absurd (by rw [rd_lt S j (by omega), e]) (fi_before h2)
      · exact h2
    omega
  · rintro ⟨h1, h2⟩
    have e := fi_hit h2
    rw [rd_lt S _ h2] at e
    exact e ▸ (List.mem_take_iff_getElem.2 ⟨fi S a, by omega, rfl⟩)
theorem split_fi {S : List Int} {a : Int} (h1 : 1 ≤ fi S a) (hS : 0 < S.length) : S = rd S 0 :: (S.take (fi S a)).drop 1 ++ S.drop (fi S a) := by
  obtain ⟨c, xs, rfl⟩ : ∃ c xs, S = c :: xs := by
    cases S with
    | nil => simp at hS
    | cons c xs => exact ⟨c, xs, rfl⟩
  obtain ⟨p, hp⟩ : ∃ p, fi (c :: xs) a = p + 1 := ⟨fi (c :: xs) a - 1, by omega⟩
  rw [hp, List.take_succ_cons, List.drop_succ_cons, List.drop_succ_cons, List.drop_zero]
  show c :: xs = c :: xs.take p ++ xs.drop p
  rw [List.cons_append, List.take_append_drop]
theorem push_nodup (R S : List Int) (a : Int) (hS : S.Nodup) : (push R S a).Nodup := by
  unfold push
  split
  · simp
  · rename_i h0
    split
    · exact hS
    · rename_i hp
      have hs := split_fi (S := S) (a := a) (by omega) (by omega)
      have hperm : (a :: (goN R (rd S 0) ((S.take (fi S a)).drop 1) ++ S.drop (fi S a + 1))).Perm (a :: (rd S 0 :: (S.take (fi S a)).drop 1 ++ S.drop (fi S a + 1))) := ((goN_perm R _ _).append_right _).cons a
      rw [hperm.nodup_iff]
      refine List.nodup_cons.2 ⟨?_, ?_⟩
      · intro hm
        have hpre : rd S 0 :: (S.take (fi S a)).drop 1 = S.take (fi S a) := by
          have := congrArg (List.take (fi S a)) hs
          rw [List.take_append_of_le_length (by rw [List.length_cons, List.length_drop, List.length_take]; have := fi_le S a; omega)] at this
          exact (this.trans (List.take_of_length_le (by rw [List.length_cons, List.length_drop, List.length_take]; have := fi_le S a; omega))).symm
        rw [hpre] at hm
        rcases List.mem_append.1 hm with hm | hm
        · exact absurd ((mem_take_fi (fi S a)).1 hm).1 (Nat.lt_irrefl _)
        · have hlt : fi S a < S.length := fi_mem.2 (List.mem_of_mem_drop hm)
          have e := fi_hit hlt
          rw [rd_lt S _ hlt] at e
          have hd := List.drop_eq_getElem_cons hlt
          have hnd : (S.drop (fi S a)).Nodup := hS.sublist (List.drop_sublist _ _)
          rw [hd, e] at hnd
          exact (List.nodup_cons.1 hnd).1 hm
      · have hsub : (rd S 0 :: (S.take (fi S a)).drop 1 ++ S.drop (fi S a + 1)).Sublist S := by
          conv => rhs; rw [hs]
          refine List.Sublist.append (.refl _) ?_
          rw [← List.drop_drop]
          exact List.drop_sublist _ _
        exact hS.sublist hsub
theorem evict_take (R S M : List Int) (n : Nat) (hT : Tells R) (hS : In64 S) (hf : Fits n M S) (c : Int) (xs ys : List Int) (e : S = c :: (xs ++ ys)) (hn : n = xs.length + 1) :
    ∀ x, x ∈ evict R M ↔ x ∈ (goN R c (xs ++ ys)).take xs.length := by
  have ht : S.take n = c :: xs := by rw [e, hn, List.take_succ_cons, List.take_left]
  have hml : 0 < M.length := by rw [hf.length, e, List.length_cons]; omega
  obtain ⟨hm1, hm2⟩ := maxBy_rank R M hT hml
  have hp := carN_perm R xs ys c
  have hnd : (c :: xs).Nodup := by rw [← ht]; exact hf.2.1.sublist (List.take_sublist _ _)
  have hnd2 := hp.nodup_iff.2 hnd
  have hcar : carN R c xs ∈ c :: xs := hp.mem_iff.1 (by simp)
  have hmem : ∀ x, x ∈ M ↔ x ∈ c :: xs := fun x => by rw [hf.2.2 x, ht]
  have h64 : ∀ x ∈ c :: xs, 0 ≤ x ∧ x ≤ 63 := fun x hx => hS x (by rw [← ht] at hx; exact List.mem_of_mem_take hx)
  have heq : maxBy (rcmp R) M = carN R c xs := by
    refine hT.1 _ _ (h64 _ ((hmem _).1 hm1)) (h64 _ hcar) ?_
    have h1 := carN_max R xs c _ ((hmem _).1 hm1)
    have h2 := hm2 _ ((hmem _).2 hcar)
    omega
  intro x
  unfold evict
  rw [List.mem_filter, hmem, ← hp.mem_iff, heq, List.mem_append, List.mem_singleton]
  have hdis : carN R c xs ∉ (goN R c (xs ++ ys)).take xs.length := fun h => (List.nodup_append.1 hnd2).2.2 _ h _ (by simp) rfl
  constructor
  · rintro ⟨h | h, h2⟩
    · exact h
    · simp [h] at h2
  · intro h
    exact ⟨.inl h, by simp; intro e2; exact hdis (e2 ▸ h)⟩
theorem fits_step (R S M : List Int) (n : Nat) (a : Int) (hn : 1 ≤ n) (hT : Tells R) (hS : In64 S) (hf : Fits n M S) : Fits n (memStep R (n : Int) M a) (push R S a) := by
  have hlen := hf.length
  have hnd := push_nodup R S a hf.2.1
  have hma : a ∈ M ↔ fi S a < n ∧ fi S a < S.length := (hf.2.2 a).trans (mem_take_fi n)
  have hevn : (evict R M).Nodup := hf.1.sublist List.filter_sublist
  have key : ∀ x, x ∈ memStep R (n : Int) M a ↔ x ∈ (push R S a).take n := by
    unfold memStep push
    by_cases h0 : S.length = 0
    · rw [if_pos h0]
      have hM0 : M = [] := List.eq_nil_of_length_eq_zero (by omega)
      subst hM0
      rw [if_neg (by simp), if_neg (by simp; omega)]
      intro x
      rw [List.take_of_length_le (by simpa using hn)]; simp
    · rw [if_neg h0]
      by_cases hp0 : fi S a = 0
      · rw [if_pos hp0, if_pos (hma.2 (by omega))]
        exact hf.2.2
      · rw [if_neg hp0]
        have hsp := split_fi (S := S) (a := a) (by omega) (by omega)
        obtain ⟨xs, hxs⟩ : ∃ xs, xs = (S.take (fi S a)).drop 1 := ⟨_, rfl⟩
        obtain ⟨c, hc⟩ : ∃ c, c = rd S 0 := ⟨_, rfl⟩
        have hfl := fi_le S a
        have hxl : xs.length = fi S a - 1 := by rw [hxs, List.length_drop, List.length_take]; omega
        rw [← hxs, ← hc] at hsp ⊢
        have hgl := goN_length R xs c
        by_cases hpn : fi S a < n
        · by_cases hps : fi S a < S.length
          · rw [if_pos (hma.2 ⟨hpn, hps⟩)]
            intro x
            rw [hf.2.2]
            have e := fi_hit hps
            rw [rd_lt S _ hps] at e
            have hd : S.drop (fi S a) = a :: S.drop (fi S a + 1) := by rw [List.drop_eq_getElem_cons hps, e]
            have h1 : S.take n = c :: xs ++ (a :: (S.drop (fi S a + 1)).take (n - fi S a - 1)) := by
              conv => lhs; rw [hsp, hd]
              rw [List.take_append, List.take_of_length_le (by rw [List.length_cons]; omega)]
              congr 1
              rw [List.length_cons, show n - (xs.length + 1) = (n - fi S a - 1) + 1 by omega, List.take_succ_cons]
            have h2 : (a :: (goN R c xs ++ S.drop (fi S a + 1))).take n = a :: (goN R c xs ++ (S.drop (fi S a + 1)).take (n - fi S a - 1)) := by
              obtain ⟨m, rfl⟩ : ∃ m, n = m + 1 := ⟨n - 1, by omega⟩
              rw [List.take_succ_cons, List.take_append, List.take_of_length_le (by omega)]
              congr 3
              omega
            have hp := goN_perm R xs c
            rw [h1, h2]
            simp only [List.mem_append, List.mem_cons, hp.mem_iff]
            constructor
            · rintro ((h | h) | h | h) <;> simp [h]
            · rintro (h | (h | h) | h) <;> simp [h]
          · have hpe : fi S a = S.length := by omega
            rw [if_neg (fun h => hps (hma.1 h).2), if_neg (by omega)]
            intro x
            have hd : S.drop (fi S a + 1) = [] := List.drop_of_length_le (by omega)
            have hd2 : S.drop (fi S a) = [] := List.drop_of_length_le (by omega)
            rw [hd2, List.append_nil] at hsp
            rw [hd, List.append_nil, List.take_of_length_le (by rw [List.length_cons, hgl]; omega), List.mem_append, hf.2.2, List.mem_singleton, List.mem_cons, (goN_perm R xs c).mem_iff, ← hsp, List.take_of_length_le (by omega)]
            exact Or.comm
        · have hMn : (M.length : Int) = (n : Int) := by omega
          rw [if_neg (fun h => hpn (hma.1 h).1), if_pos hMn]
          intro x
          have hx1 : xs = xs.take (n - 1) ++ xs.drop (n - 1) := (List.take_append_drop _ _).symm
          have htl : (xs.take (n - 1)).length = n - 1 := by rw [List.length_take]; omega
          have hev := evict_take R S M n hT hS hf c (xs.take (n - 1)) (xs.drop (n - 1) ++ S.drop (fi S a)) (by rw [← List.append_assoc, ← hx1]; exact hsp) (by omega)
          have hgo : (goN R c (xs.take (n - 1) ++ (xs.drop (n - 1) ++ S.drop (fi S a)))).take (n - 1) = (goN R c xs).take (n - 1) := by
            have pre : ∀ (zs ys ws : List Int) (c : Int), (goN R c (zs ++ ys)).take zs.length = (goN R c (zs ++ ws)).take zs.length := by
              intro zs
              induction zs with
              | nil => intro ys ws c; rfl
              | cons z zs ih =>
                intro ys ws c
                rw [List.cons_append, List.cons_append]
                unfold goN
                split
                · rw [List.length_cons, List.take_succ_cons, List.take_succ_cons, ih]
                · rw [List.length_cons, List.take_succ_cons, List.take_succ_cons, ih]
            have := pre (xs.take (n - 1)) (xs.drop (n - 1) ++ S.drop (fi S a)) (xs.drop (n - 1)) c
            rw [htl, ← hx1] at this
            exact this
          rw [htl, hgo] at hev
          rw [List.mem_append, hev, List.mem_singleton]
          obtain ⟨m, rfl⟩ : ∃ m, n = m + 1 := ⟨n - 1, by omega⟩
          rw [List.take_succ_cons, List.mem_cons, List.take_append_of_le_length (by omega)]
          exact Or.comm
  refine ⟨?_, hnd, key⟩
  unfold memStep
  split
  · exact hf.1
  · rename_i hna
    split
    · refine List.nodup_append.2 ⟨hevn, by simp, fun x hx y hy e => ?_⟩
      rw [List.mem_singleton.1 hy] at e
      exact hna (e ▸ (List.mem_filter.1 hx).1)
    · refine List.nodup_append.2 ⟨hf.1, by simp, fun x hx y hy e => ?_⟩
      rw [List.mem_singleton.1 hy] at e
      exact hna (e ▸ hx)
/-- The memory holds the first elements of the stack. -/
theorem fits_all (R U : List Int) (n : Nat) (hn : 1 ≤ n) (hT : Tells R) (hU : In64 U) : ∀ i : Nat, i ≤ U.length → Fits n (memTo R U (n : Int) i) (stk R U i)
  | 0, _ => ⟨List.nodup_nil, List.nodup_nil, by simp [memTo, stk]⟩
  | i + 1, h => fits_step R _ _ n _ hn hT (stk_in R U hU i (by omega)) (fits_all R U n hn hT hU i (by omega))
theorem memTo_take (R U : List Int) (n : Int) (m : Nat) : ∀ i : Nat, i ≤ m → memTo R (U.take m) n i = memTo R U n i
  | 0, _ => rfl
  | i + 1, h => by
    unfold memTo
    rw [memTo_take R U n m i (by omega)]
    congr 1
    show (U.take m).getD i 0 = U.getD i 0
    rw [List.getD_eq_getElem?_getD, List.getD_eq_getElem?_getD, List.getElem?_take_of_lt (by omega)]
theorem stk_mem (R U : List Int) : ∀ i : Nat, i ≤ U.length → ∀ x, x ∈ stk R U i ↔ x ∈ U.take i
  | 0, _, x => by simp [stk]
  | i + 1, h, x => by
    have ih := stk_mem R U i (by omega)
    have hlt : i < U.length := by omega
    rw [take_succ_rd U i hlt, List.mem_append, List.mem_singleton, ← ih]
    show x ∈ push R (stk R U i) (rd U (i : Int)) ↔ _
    obtain ⟨a, ha⟩ : ∃ a, a = rd U (i : Int) := ⟨_, rfl⟩
    obtain ⟨S, hS⟩ : ∃ S, S = stk R U i := ⟨_, rfl⟩
    rw [← ha, ← hS]
    unfold push
    split
    · rename_i h0
      rw [List.eq_nil_of_length_eq_zero h0]; simp
    · rename_i h0
      split
      · rename_i hp
        have : a ∈ S := fi_mem.1 (by omega)
        exact ⟨.inl, fun h => h.elim id (fun e => e ▸ this)⟩
      · rename_i hp
        have hsp := split_fi (S := S) (a := a) (by omega) (by omega)
        rw [List.mem_cons, List.mem_append, (goN_perm R _ _).mem_iff]
        by_cases hlt2 : fi S a < S.length
        · have e := fi_hit hlt2
          rw [rd_lt S _ hlt2] at e
          have hd : S.drop (fi S a) = a :: S.drop (fi S a + 1) := by rw [List.drop_eq_getElem_cons hlt2, e]
          have : x ∈ S ↔ x ∈ rd S 0 :: (S.take (fi S a)).drop 1 ∨ x = a ∨ x ∈ S.drop (fi S a + 1) := by
            conv => lhs; rw [hsp, hd, List.mem_append, List.mem_cons (b := a)]
          rw [this]
          generalize (x ∈ rd S 0 :: (S.take (fi S a)).drop 1) = P
          generalize (x ∈ S.drop (fi S a + 1)) = Q
          constructor
          · rintro (h | h | h)
            · exact .inr h
            · exact .inl (.inl h)
            · exact .inl (.inr (.inr h))
          · rintro ((h | h | h) | h)
            · exact .inr (.inl h)
            · exact .inl h
            · exact .inr (.inr h)
            · exact .inl h
        · have hd : S.drop (fi S a + 1) = [] := List.drop_of_length_le (by omega)
          have hd2 : S.drop (fi S a) = [] := List.drop_of_length_le (by omega)
          rw [hd2, List.append_nil] at hsp
          rw [hd, ← hsp]
          simp
          exact Or.comm
theorem stk_nodup (R U : List Int) : ∀ i : Nat, (stk R U i).Nodup
  | 0 => List.nodup_nil
  | i + 1 => push_nodup R _ _ (stk_nodup R U i)
theorem stk_head (R U : List Int) (i : Nat) : rd (stk R U (i + 1)) 0 = rd U (i : Int) := by
  unfold stk push
  split
  · rfl
  · rename_i h0
    split
    · rename_i hp
      have := fi_hit (S := stk R U i) (a := rd U (i : Int)) (by omega)
      rw [hp] at this
      exact this
    · rfl
theorem hit_iff (R U : List Int) (n : Nat) (hn : 1 ≤ n) (hT : Tells R) (hU : In64 U) (i : Nat) (h : i ≤ U.length) (a : Int) : a ∈ memTo R U (n : Int) i ↔ isMiss n (at_ (stk R U i) a) = false := by
  rw [(fits_all R U n hn hT hU i h).2.2, mem_take_fi]
  unfold isMiss at_
  by_cases hl : fi (stk R U i) a < (stk R U i).length
  · rw [if_pos hl]
    simp
    omega
  · rw [if_neg hl]
    simp
    omega
end Go.Proofs.Yteobbgofbedgdaa.Q
