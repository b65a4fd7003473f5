/- Parts of the proof, laid together: contracts and lemmas; no conditions beyond those written. -/
import Derived.Test.YtdhkcnhmmiigoaaGreatDoorQx0
import Derived.Test.YtdhkcnhmmiigoaaGreatDoorSupto
import Derived.Test.YtdhkcnhmmiigoaaGreatDoorSlu
import Derived.Shelf.Abstract
import Derived.Test.YtdhkcnhmmiigoaaGreatDoorSsetval
import Derived.Test.YtdhkcnhmmiigoaaGreatDoorStxtdef
import Derived.Lib.SliceRun
namespace Go.Proofs.YtdhkcnhmmiigoaaGreatDoor.Q
open Go.RowKit Go.Proofs.YtdhkcnhmmiigoaaGreatDoorW.PrintWords Go.Proofs.YtdhkcnhmmiigoaaGreatDoorW.PrintLast Go.Proofs.YtdhkcnhmmiigoaaGreatDoorW.PrintMore
attribute [local go_sem] max2_int min2_int max_two min_two max_three min_three max_four min_four   -- for this text's walks alone
set_option linter.unusedVariables false
set_option linter.unusedSimpArgs false
section
/-- What is asked of a predicate that is handed to the library. -/
def PredI (g : Nat) (lb : Array Value) (l : List Int) (p : Int → Bool) (w : World) : Prop :=
  ∀ (W : World) (x : Int), Below w.heap.size w W → x ∈ l → Calls Tryz.prog g (#[.int .i64 x] ++ lb) W fun e w' => e = .returned (.bool (p x)) ∧ Below W.heap.size W w'
theorem PredI.later {g : Nat} {lb : Array Value} {l : List Int} {p : Int → Bool} {w w1 : World} (h : PredI g lb l p w) (hb : Below w.heap.size w w1) : PredI g lb l p w1 :=
  fun W x hW hx => h W x (hb.trans (hW.mono hb.size)) hx
set_option maxHeartbeats 2000000 in
set_option maxRecDepth 100000 in
theorem slices_IndexFunc_i64 (g : Nat) (lb : Array Value) (eg : ∀ args w, (callFunc g args).run Tryz.prog w = .ok (.enter g args) w) (p : Int → Bool) (A : Option Addr) (c : Nat) (l : List Int) (w : World) (hr : Kd.C (Kd.int .i64) w A l.length l) (hp : PredI g lb l p w) :
    Calls Tryz.prog 50 #[.slice A l.length c, .func (.func g) #[] lb] w fun e w' => e = .returned (.int .i64 (idxF p l)) ∧ Below w.heap.size w w' := by
  have HR := Aside0.mk hr
  have HP := Aside0.mk hp
  have hn : l.length ≤ 9223372036854775807 := hr.2.1
  clear hr hp
  go_enter Tryz.func50, Tryz.ntmps50
  go_wp2
  go_loopg [5, 8] l.length (fun gg _ s8 wr => ∃ kk : Nat, s8 = .int .i64 kk ∧ Aside0 (kk ≤ l.length ∧ l.length - kk ≤ gg) ∧ Aside0 (Below w.heap.size w wr) ∧ Aside0 (∀ j, (hj : j < kk) → (hl : j < l.length) → p l[j] = false))
  case atStart => exact ⟨0, rfl, ⟨⟨Nat.zero_le _, by omega⟩⟩, ⟨Below.refl _ _⟩, ⟨fun j hj => absurd hj (Nat.not_lt_zero _)⟩⟩
  case round =>
    obtain ⟨kk, rfl, HK, HB, AB⟩ := hrel
    by_cases hlt : kk < l.length
    · have hltz : (kk : Int) < (l.length : Int) := by omega
      have h0z : (0 : Int) ≤ (kk : Int) := by omega
      obtain ⟨ad, e, hx⟩ := Kd.at_int HR.out (kk : Int) h0z hltz
      cases e
      rw [rd_lt l kk hlt] at hx
      simp only [Int.toNat_natCast] at hx
      have hcell := (HB.out.cell (World.block_lt_of_cell? w _ hx)).trans hx
      clear hx
      have hcall := HP.out wr (l[kk]) HB.out (List.getElem_mem hlt)
      obtain ⟨y, hy⟩ : ∃ y, y = l[kk] := ⟨_, rfl⟩
      rw [← hy] at hcell hcall
      have HY := Aside0.mk hy
      clear hy
      cases hq : p y with
      | true =>
        rw [hq] at hcall
        have HQ := Aside0.mk hq
        clear hq
        go_wp2_with (go_at_fn g; refine hcall.mono ?_; rintro e w' ⟨rfl, hb⟩; have HB1 := Aside0.mk (below_step HB.out hb); clear hb)
        go_ret
        exact ⟨ret_int (idxF_hit p l kk hlt (by rw [← HY.out]; exact HQ.out) (fun j hj => AB.out j hj (by omega))).symm, HB1.out⟩
      | false =>
        rw [hq] at hcall
        have HQ := Aside0.mk hq
        clear hq
        go_wp2_with (go_at_fn g; refine hcall.mono ?_; rintro e w' ⟨rfl, hb⟩; have HB1 := Aside0.mk (below_step HB.out hb); clear hb)
        go_roundg (l.length - (kk + 1))
        case measure => have := HK.out; omega
        case rel =>
          refine ⟨kk + 1, by go_num, ⟨by omega⟩, HB1, ⟨fun j hj hl => ?_⟩⟩
          by_cases e : j = kk
          · subst e
            rw [← HY.out]; exact HQ.out
          · exact AB.out j (by omega) hl
    · have hltz : ¬ (kk : Int) < (l.length : Int) := by omega
      go_wp2
      go_ret
      exact ⟨ret_int (idxF_miss p l (fun j hj => AB.out j (by have := HK.out; omega) hj)).symm, HB.out⟩
set_option maxHeartbeats 2000000 in
theorem slices_ContainsFunc_i64 (g : Nat) (lb : Array Value) (eg : ∀ args w, (callFunc g args).run Tryz.prog w = .ok (.enter g args) w) (p : Int → Bool) (A : Option Addr) (c : Nat) (l : List Int) (w : World) (hr : Kd.C (Kd.int .i64) w A l.length l) (hp : PredI g lb l p w) :
    Calls Tryz.prog 54 #[.slice A l.length c, .func (.func g) #[] lb] w fun e w' => e = .returned (.bool (l.any p)) ∧ Below w.heap.size w w' := by
  rw [← idxF_nonneg]
  have H := slices_IndexFunc_i64 g lb eg p A c l w hr hp
  have HH := Aside0.mk H
  clear H hr hp eg
  generalize idxF p l = r at HH ⊢
  go_enter Tryz.func54, Tryz.ntmps54
  go_wp2_with (go_at_call 50; refine HH.out.mono ?_; rintro e w' ⟨rfl, hb⟩; have HB := Aside0.mk hb; clear hb)
  all_goals (go_ret; exact ⟨rfl, HB.out⟩)
end
section
theorem par_xor : ∀ a b : Fin 64, par (((a.val ^^^ b.val : Nat)) : Int) = if par (a.val : Int) = par (b.val : Int) then 0 else 1 := by decide +kernel
def rowBit (rows : List Int) (a : Int) (i : Nat) : Int := par (Go.bits .and .i64 (rd rows (i : Int)) a)
theorem rowBit_xo (rows : List Int) (a b : Int) (i : Nat) (hm : 0 ≤ rd rows (i : Int) ∧ rd rows (i : Int) ≤ 63) (ha : 0 ≤ a ∧ a ≤ 63) (hb : 0 ≤ b ∧ b ≤ 63) : rowBit rows (xo a b) i = if rowBit rows a i = rowBit rows b i then 0 else 1 := by
  unfold rowBit
  obtain ⟨r, hr⟩ : ∃ r, r = rd rows (i : Int) := ⟨_, rfl⟩
  rw [← hr] at hm ⊢
  obtain ⟨m, rfl⟩ := fin_of hm.1 hm.2
  obtain ⟨p, rfl⟩ := fin_of ha.1 ha.2
  obtain ⟨q, rfl⟩ := fin_of hb.1 hb.2
  have hx : p.val ^^^ q.val < 64 := Nat.xor_lt_two_pow (n := 6) p.isLt q.isLt
  have e : xo (p.val : Int) (q.val : Int) = ((p.val ^^^ q.val : Nat) : Int) := rfl
  have e1 := and_i64 m.val p.val m.isLt p.isLt
  have e2 := and_i64 m.val q.val m.isLt q.isLt
  rw [e, (and_i64 m.val _ m.isLt hx).1, e1.1, e2.1, Nat.and_xor_distrib_left]
  exact par_xor ⟨m.val &&& p.val, e1.2⟩ ⟨m.val &&& q.val, e2.2⟩
theorem rowBit_01 (rows : List Int) (a : Int) (i : Nat) (hm : 0 ≤ rd rows (i : Int) ∧ rd rows (i : Int) ≤ 63) (ha : 0 ≤ a ∧ a ≤ 63) : ∃ t : Fin 2, rowBit rows a i = (t.val : Int) := by
  have h := and_range hm.1 hm.2 ha.1 ha.2
  rcases par_01 h.1 h.2 with h | h
  · exact ⟨0, h⟩
  · exact ⟨1, h⟩
def sv (p : Int) (s : Int) (i : Nat) : Int := Go.bits .or .i64 s (shl .i64 p (i : Int))
theorem fold1 (f : Int → Nat → Int) : (List.range' 0 1).foldl f 0 = f 0 0 := rfl
theorem fold2 (f : Int → Nat → Int) : (List.range' 0 2).foldl f 0 = f (f 0 0) 1 := rfl
theorem fold3 (f : Int → Nat → Int) : (List.range' 0 3).foldl f 0 = f (f (f 0 0) 1) 2 := rfl
theorem setVal_sv (rows : List Int) (a : Int) : setVal rows a = (List.range' 0 rows.length).foldl (fun s i => sv (rowBit rows a i) s i) 0 := rfl
theorem bits3 : ∀ p q r s t u : Fin 2, (sv (if (r.val : Int) = (u.val : Int) then 0 else 1) (sv (if (q.val : Int) = (t.val : Int) then 0 else 1) (sv (if (p.val : Int) = (s.val : Int) then 0 else 1) 0 0) 1) 2 = 0) ↔ (sv (r.val : Int) (sv (q.val : Int) (sv (p.val : Int) 0 0) 1) 2 = sv (u.val : Int) (sv (t.val : Int) (sv (s.val : Int) 0 0) 1) 2) := by decide +kernel
theorem bits2 : ∀ p q s t : Fin 2, (sv (if (q.val : Int) = (t.val : Int) then 0 else 1) (sv (if (p.val : Int) = (s.val : Int) then 0 else 1) 0 0) 1 = 0) ↔ (sv (q.val : Int) (sv (p.val : Int) 0 0) 1 = sv (t.val : Int) (sv (s.val : Int) 0 0) 1) := by decide +kernel
theorem bits1 : ∀ p s : Fin 2, (sv (if (p.val : Int) = (s.val : Int) then 0 else 1) 0 0 = 0) ↔ (sv (p.val : Int) 0 0 = sv (s.val : Int) 0 0) := by decide +kernel
attribute [local irreducible] sv setVal rowBit par
theorem set_same (rows : List Int) (a b : Int) (hl : rows.length ≤ 3) (hr : ∀ x ∈ rows, 0 ≤ x ∧ x ≤ 63) (ha : 0 ≤ a ∧ a ≤ 63) (hb : 0 ≤ b ∧ b ≤ 63) : setVal rows (xo a b) = 0 ↔ setVal rows a = setVal rows b := by
  have hm : ∀ i, i < rows.length → 0 ≤ rd rows (i : Int) ∧ rd rows (i : Int) ≤ 63 := fun i hi => by rw [rd_lt rows i hi]; exact hr _ (List.getElem_mem hi)
  rw [setVal_sv, setVal_sv, setVal_sv]
  obtain h | h | h | h : rows.length = 0 ∨ rows.length = 1 ∨ rows.length = 2 ∨ rows.length = 3 := by omega
  · rw [h]; simp
  · rw [h]
    obtain ⟨p, hp⟩ := rowBit_01 rows a 0 (hm 0 (by omega)) ha
    obtain ⟨s, hs⟩ := rowBit_01 rows b 0 (hm 0 (by omega)) hb
    have x0 := rowBit_xo rows a b 0 (hm 0 (by omega)) ha hb
    rw [hp, hs] at x0
    rw [fold1, fold1, fold1, x0, hp, hs]; exact bits1 p s
  · rw [h]
    obtain ⟨p, hp⟩ := rowBit_01 rows a 0 (hm 0 (by omega)) ha
    obtain ⟨s, hs⟩ := rowBit_01 rows b 0 (hm 0 (by omega)) hb
    obtain ⟨q, hq⟩ := rowBit_01 rows a 1 (hm 1 (by omega)) ha
    obtain ⟨t, ht⟩ := rowBit_01 rows b 1 (hm 1 (by omega)) hb
    have x0 := rowBit_xo rows a b 0 (hm 0 (by omega)) ha hb
    have x1 := rowBit_xo rows a b 1 (hm 1 (by omega)) ha hb
    rw [hp, hs] at x0
    rw [hq, ht] at x1
    rw [fold2, fold2, fold2, x0, x1, hp, hs, hq, ht]; exact bits2 p q s t
  · rw [h]
    obtain ⟨p, hp⟩ := rowBit_01 rows a 0 (hm 0 (by omega)) ha
    obtain ⟨s, hs⟩ := rowBit_01 rows b 0 (hm 0 (by omega)) hb
    obtain ⟨q, hq⟩ := rowBit_01 rows a 1 (hm 1 (by omega)) ha
    obtain ⟨t, ht⟩ := rowBit_01 rows b 1 (hm 1 (by omega)) hb
    obtain ⟨r, hr2⟩ := rowBit_01 rows a 2 (hm 2 (by omega)) ha
    obtain ⟨u, hu⟩ := rowBit_01 rows b 2 (hm 2 (by omega)) hb
    have x0 := rowBit_xo rows a b 0 (hm 0 (by omega)) ha hb
    have x1 := rowBit_xo rows a b 1 (hm 1 (by omega)) ha hb
    have x2 := rowBit_xo rows a b 2 (hm 2 (by omega)) ha hb
    rw [hp, hs] at x0
    rw [hq, ht] at x1
    rw [hr2, hu] at x2
    rw [fold3, fold3, fold3, x0, x1, x2, hp, hs, hq, ht, hr2, hu]; exact bits3 p q r s t u
end
section
/-- What is asked of a predicate that is handed to the library while a row is written. -/
def PredOverI (g : Nat) (lb : Array Value) (l : List Int) (p : Int → Bool) (w : World) (row : Option Nat) : Prop :=
  ∀ (W : World) (x : Int), w.grownBy W row → x ∈ l → Calls Tryz.prog g (#[.int .i64 x] ++ lb) W fun e w' => e = .returned (.bool (p x)) ∧ Below W.heap.size W w'
def setMany (xs : List Int) (o : Nat) : Nat → List Int
  | 0 => xs
  | n + 1 => setMany (xs.set o 0) (o + 1) n
theorem setMany_take (xs : List Int) (m o n : Nat) (h : m ≤ o) : (setMany xs o n).take m = xs.take m := by
  induction n generalizing xs o with
  | zero => rfl
  | succ n ih =>
    unfold setMany
    rw [ih _ _ (by omega), List.take_set_of_le (by omega)]
theorem setMany_length (xs : List Int) (o n : Nat) : (setMany xs o n).length = xs.length := by
  induction n generalizing xs o with
  | zero => rfl
  | succ n ih => unfold setMany; rw [ih]; simp
theorem own_setCells {base gb len cap : Nat} {e : TypeId} (n : Nat) : ∀ (o : Nat) (W : World) (xs : List Int), W.ownsRow base e 1 (.slice (some ⟨gb, 0, none⟩) len cap) len (nums .i64 xs) →
    (W.setCells gb o (List.replicate n (.int .i64 0))).ownsRow base e 1 (.slice (some ⟨gb, 0, none⟩) len cap) len (nums .i64 (setMany xs o n)) ∧ W.grownBy (W.setCells gb o (List.replicate n (.int .i64 0))) (some gb) := by
  induction n with
  | zero => intro o W xs h; exact ⟨h, World.grownBy.refl W _⟩
  | succ n ih =>
    intro o W xs h
    rw [List.replicate_succ]
    unfold World.setCells setMany
    have hs := own_store h (o : Int) 0
    rw [Int.toNat_natCast] at hs
    obtain ⟨h1, h2⟩ := ih (o + 1) _ _ hs.1
    exact ⟨h1, World.grownBy.trans hs.2 h2⟩
theorem own_take_row {W : World} {base gb n m cap : Nat} {e : TypeId} {xs : List Int} (h : W.ownsRow base e 1 (.slice (some ⟨gb, 0, none⟩) n cap) n (nums .i64 xs)) (hm : m ≤ n) : W.ownsRow base e 1 (.slice (some ⟨gb, 0, none⟩) m cap) m (nums .i64 (xs.take m)) := by
  have hl : xs.length = n := by have := h.1; simp [nums] at this; exact this
  refine ⟨by simp [nums]; omega, ?_⟩
  rcases h.2 with ⟨h0, _⟩ | ⟨g', cap', cur, he, hg, hh, h1, h2, h3, h4⟩
  · cases h0
  · cases he
    refine .inr ⟨gb, cap, cur, rfl, hg, hh, by omega, h2, h3, ?_⟩
    have := congrArg (List.take m) h4
    rw [Nat.mul_one, List.take_take, Nat.min_eq_left hm] at this
    rw [Nat.mul_one, this]
    simp [nums, List.map_take]
theorem filter_snoc (p : Int → Bool) (l : List Int) (j : Nat) (h : j < l.length) : (l.take (j + 1)).filter p = (l.take j).filter p ++ (if p (rd l (j : Int)) = true then [rd l (j : Int)] else []) := by
  rw [take_succ_rd l j h, List.filter_append]
  congr 1
  by_cases hc : p (rd l (j : Int)) = true
  · rw [if_pos hc, List.filter_cons, if_pos hc]; rfl
  · rw [if_neg hc, List.filter_cons, if_neg hc]; rfl
/-- The row after j rounds: what stays has been moved to the front, what comes has not been touched. -/
structure DelAt (p : Int → Bool) (l cur : List Int) (j : Nat) : Prop where
  len : cur.length = l.length
  front : cur.take ((l.take j).filter fun x => !p x).length = (l.take j).filter fun x => !p x
  back : cur.drop j = l.drop j
theorem DelAt.keep {p : Int → Bool} {l cur : List Int} {j : Nat} (h : DelAt p l cur j) (hj : j < l.length) (hp : p (rd l (j : Int)) = true) : DelAt p l cur (j + 1) ∧ ((l.take (j + 1)).filter fun x => !p x).length = ((l.take j).filter fun x => !p x).length := by
  have e := filter_snoc (fun x => !p x) l j hj
  rw [if_neg (by simp [hp]), List.append_nil] at e
  refine ⟨⟨h.len, by rw [e]; exact h.front, ?_⟩, by rw [e]⟩
  have := congrArg (List.drop 1) h.back
  rwa [List.drop_drop, List.drop_drop] at this
theorem DelAt.move {p : Int → Bool} {l cur : List Int} {j : Nat} (h : DelAt p l cur j) (hj : j < l.length) (hp : p (rd l (j : Int)) = false) :
    DelAt p l (cur.set ((l.take j).filter fun x => !p x).length (rd l (j : Int))) (j + 1) ∧ ((l.take (j + 1)).filter fun x => !p x).length = ((l.take j).filter fun x => !p x).length + 1 := by
  have e := filter_snoc (fun x => !p x) l j hj
  rw [if_pos (by simp [hp])] at e
  have hml : ((l.take j).filter fun x => !p x).length ≤ j := by
    have := List.length_filter_le (fun x => !p x) (l.take j)
    rw [List.length_take] at this; omega
  have hlen := h.len
  refine ⟨⟨by simp [h.len], ?_, ?_⟩, by rw [e]; simp⟩
  · rw [e, List.length_append, List.length_singleton, List.take_succ_eq_append_getElem (by simp; omega)]
    congr 1
    · rw [List.take_set_of_le (Nat.le_refl _)]; exact h.front
    · simp
  · rw [List.drop_set_of_lt (by omega)]
    have := congrArg (List.drop 1) h.back
    rwa [List.drop_drop, List.drop_drop] at this
set_option maxHeartbeats 4000000 in
set_option maxRecDepth 100000 in
theorem slices_DeleteFunc_i64 (g : Nat) (lb : Array Value) (eg : ∀ args w, (callFunc g args).run Tryz.prog w = .ok (.enter g args) w) (p : Int → Bool) (base : Nat) (v : Value) (l : List Int) (w : World) (ho : w.ownsRow base 2 1 v l.length (nums .i64 l)) (hp : PredOverI g lb l p w v.ownBlock) :
    Calls Tryz.prog 31 #[v, .func (.func g) #[] lb] w fun e w' => ∃ v', e = .returned v' ∧ w'.ownsRow base 2 1 v' (l.filter fun x => !p x).length (nums .i64 (l.filter fun x => !p x)) ∧ w.grownBy w' v.ownBlock ∧ v'.ownBlock = v.ownBlock := by
  have hpi : PredI g lb l p w := fun W x hW hx => hp W x (grown_of_below hW _) hx
  obtain ⟨A, c, he, hcl, hC⟩ := C_of_own (n := 0) (v := v) (xs := l) ho
  have HI := Aside0.mk (slices_IndexFunc_i64 g lb eg p A c l w hC hpi)
  clear hpi hC
  by_cases hany : ∃ i, ∃ (h : i < l.length), idxF p l = (i : Int) ∧ p l[i] = true ∧ ∀ j, (hj : j < i) → p (l[j]'(by omega)) = false
  · obtain ⟨i0, hi0, hix, hpt, hpb⟩ := hany
    rw [hix] at HI
    have hpos : 0 < l.length := by omega
    obtain ⟨gb, cap, rfl, _, _⟩ := ho.form hpos
    injection he with e1_ e2_ e3_
    subst e1_ e3_
    clear e2_
    have hd0 : DelAt p l l (i0 + 1) ∧ ((l.take (i0 + 1)).filter fun x => !p x).length = i0 := by
      have e0 : (l.take i0).filter (fun x => !p x) = l.take i0 := by
        rw [List.filter_eq_self]
        intro x hx
        obtain ⟨j, hj, rfl⟩ := List.getElem_of_mem hx
        rw [List.getElem_take]
        simp [hpb j (by simp at hj; omega)]
      have hd : DelAt p l l i0 := ⟨rfl, by rw [e0, List.length_take, Nat.min_eq_left (by omega)], rfl⟩
      obtain ⟨h1, h2⟩ := hd.keep hi0 (by rw [rd_lt l i0 hi0]; exact hpt)
      refine ⟨h1, ?_⟩
      rw [h2, e0, List.length_take, Nat.min_eq_left (by omega)]
    have hcapm : cap ≤ 9223372036854775807 := by
      rcases ho.2 with ⟨h0, _⟩ | ⟨_, _, _, e2, _, _, _, h5, _⟩
      · cases h0
      · cases e2; simpa [maxLen] using h5
    have HO := Aside0.mk ho
    have HP := Aside0.mk hp
    have HD0 := Aside0.mk hd0
    clear ho hp hd0 hix hpt hpb
    have hne : ((i0 : Int) == -1) = false := by simp <;> omega
    obtain ⟨n, hn⟩ : ∃ n, n = l.length := ⟨_, rfl⟩
    rw [← hn] at HO HI hcl hi0 hpos
    have HN := Aside0.mk hn
    rw [← hn]
    clear hn
    go_enter Tryz.func31, Tryz.ntmps31
    go_wp2_with (go_at_call 50; refine HI.out.mono ?_; rintro e w1 ⟨rfl, hb⟩; have HB0 := Aside0.mk hb; clear hb)
    go_loopg [5, 6, 7] n (fun gg s5 s6 s7 wr => ∃ (j : Nat) (m : Nat) (cur : List Int), s5 = .int .i64 m ∧ s6 = .int .i64 j ∧ Aside0 (j ≤ n ∧ n - j ≤ gg ∧ m = ((l.take j).filter fun x => !p x).length ∧ m < j) ∧ Aside0 (DelAt p l cur j) ∧ Aside0 (wr.ownsRow base 2 1 (.slice (some ⟨gb, 0, none⟩) n cap) n (nums .i64 cur)) ∧ Aside0 (w.grownBy wr (some gb)))
    case atStart =>
      exact ⟨i0 + 1, i0, l, rfl, by go_num, ⟨⟨by omega, by omega, HD0.out.2.symm, by omega⟩⟩, ⟨HD0.out.1⟩, ⟨pw_own_below HO.out HB0.out⟩, ⟨grown_of_below HB0.out _⟩⟩
    case round =>
      clear HI HB0 HD0 hne hi0
      obtain ⟨j, m, cur, rfl, rfl, HK, HDl, HR, HG⟩ := hrel
      have hmj : m < j := HK.out.2.2.2
      by_cases hlt : j < n
      · have hltz : (j : Int) < (n : Int) := by omega
        have h0z : (0 : Int) ≤ (j : Int) := by omega
        obtain ⟨hcell, hfr⟩ := own_at HR.out (j : Int) h0z hltz
        have hrdl : rd cur (j : Int) = rd l (j : Int) := by
          have h1 := congrArg (fun q => q.getD 0 0) HDl.out.back
          simp only [getD_drop_zero] at h1
          exact h1
        rw [hrdl] at hcell
        simp only [Int.toNat_natCast] at hcell hfr
        have hjl : j < l.length := by have := HN.out; omega
        have hcall := HP.out wr (rd l (j : Int)) HG.out (by rw [rd_lt l j hjl]; exact List.getElem_mem hjl)
        have HKeep := Aside0.mk (fun h => HDl.out.keep hjl h)
        have HMove := Aside0.mk (fun h => HDl.out.move hjl h)
        clear hrdl
        obtain ⟨y, hy⟩ : ∃ y, y = rd l (j : Int) := ⟨_, rfl⟩
        rw [← hy] at hcell hcall HKeep HMove
        clear hy hfr hjl
        cases hq : p y with
        | true =>
          rw [hq] at hcall HKeep
          have HQ := Aside0.mk (HKeep.out rfl)
          clear HKeep HMove hq
          go_wp2_with (go_at_fn g; refine hcall.mono ?_; rintro e w2 ⟨rfl, hb⟩; have HB1 := Aside0.mk hb; clear hb)
          go_roundg (n - (j + 1))
          case measure => have := HK.out; omega
          case rel => exact ⟨j + 1, m, cur, rfl, by go_num, ⟨⟨by omega, by omega, by rw [HQ.out.2]; exact HK.out.2.2.1, by omega⟩⟩, ⟨HQ.out.1⟩, ⟨pw_own_below HR.out HB1.out⟩, ⟨World.grownBy.trans HG.out (grown_of_below HB1.out _)⟩⟩
        | false =>
          rw [hq] at hcall HMove
          have HQ := Aside0.mk (HMove.out rfl)
          clear HKeep HMove hq
          have hm0 : (0 : Int) ≤ (m : Int) := by omega
          have hmn : (m : Int) < (n : Int) := by omega
          go_wp2_with (go_at_fn g; refine hcall.mono ?_; rintro e w2 ⟨rfl, hb⟩; have HR2 := Aside0.mk (pw_own_below HR.out hb); have HG2 := Aside0.mk (World.grownBy.trans HG.out (grown_of_below hb (some gb))); clear hb; obtain ⟨hcm, hfm⟩ := own_at HR2.out (m : Int) hm0 hmn; simp only [Int.toNat_natCast] at hcm hfm)
          go_roundg (n - (j + 1))
          case measure => have := HK.out; omega
          case rel =>
            have hs := own_store HR2.out (m : Int) y
            rw [Int.toNat_natCast] at hs
            have hq2 := HQ.out
            rw [← HK.out.2.2.1] at hq2
            exact ⟨j + 1, m + 1, cur.set m y, by go_num, by go_num, ⟨⟨by omega, by omega, hq2.2.symm, by omega⟩⟩, ⟨hq2.1⟩, ⟨hs.1⟩, ⟨World.grownBy.trans HG2.out hs.2⟩⟩
      · have hltz : ¬ (j : Int) < (n : Int) := by omega
        have hjn : j = n := by have := HK.out.1; omega
        subst hjn
        have hk3 := HK.out.2.2.1
        have hcl2 : ∀ ty, (Builtin.clear_ #[24] ty #[.slice (some ⟨gb, m, none⟩) (j - m) (cap - m)]).run Tryz.prog wr = .ok (.tuple #[]) (wr.setCells gb m (List.replicate (j - m) (.int .i64 0))) :=
          fun ty => Go.Lib.run_clear_slice wr _ _ ty (.int .i64 0) Tryz.underlying24 Tryz.zeroValue2 rfl rfl gb m _ _ (by omega)
            (fun t ht => by have := (own_at HR.out ((m + t : Nat) : Int) (by omega) (by omega)).1; rw [Int.toNat_natCast] at this; rw [this]; rfl)
            (fun t ht => by have := (own_at HR.out ((m + t : Nat) : Int) (by omega) (by omega)).2; rw [Int.toNat_natCast] at this; exact this)
        have hfin := own_setCells (j - m) m wr cur HR.out
        have htk := own_take_row hfin.1 (show m ≤ j by omega)
        rw [setMany_take _ _ _ _ (Nat.le_refl _)] at htk
        have hall : l.take j = l := by rw [HN.out, List.take_length]
        have hfr := HDl.out.front
        rw [← hk3] at hfr
        rw [hall] at hfr hk3
        rw [hfr] at htk
        have HF := Aside0.mk (And.intro htk (World.grownBy.trans HG.out hfin.2))
        have HM := Aside0.mk hk3
        clear hk3 hfr htk hfin HR HG HDl HO HP
        have hmj1 : ((m : Int)) ≤ (j : Int) := by omega
        have hmj2 : (0 : Int) ≤ (m : Int) := by omega
        have hmc : m < cap := by omega
        go_wp2
        go_ret
        exact ⟨_, rfl, by rw [← HM.out]; exact HF.out.1, HF.out.2, rfl⟩
  · have hno : ∀ x ∈ l, p x = false := by
      intro x hx
      cases hq : p x with
      | false => rfl
      | true =>
        exfalso
        have hlt : l.findIdx p < l.length := List.findIdx_lt_length_of_exists ⟨x, hx, hq⟩
        refine hany ⟨l.findIdx p, hlt, by unfold idxF; rw [if_pos hlt], List.findIdx_getElem (w := hlt), fun j hj => ?_⟩
        have := List.not_of_lt_findIdx hj
        simpa using this
    have hix : idxF p l = -1 := idxF_miss p l (fun j hj => hno _ (List.getElem_mem hj))
    have hfl : (l.filter fun x => !p x) = l := List.filter_eq_self.2 (fun x hx => by simp [hno x hx])
    rw [hix] at HI
    rw [hfl]
    subst he
    have HO := Aside0.mk ho
    clear ho hp hany hno hix hfl
    go_enter Tryz.func31, Tryz.ntmps31
    go_wp2_with (go_at_call 50; refine HI.out.mono ?_; rintro e w1 ⟨rfl, hb⟩; have HB0 := Aside0.mk hb; clear hb)
    go_ret
    exact ⟨_, rfl, pw_own_below HO.out HB0.out, grown_of_below HB0.out _, rfl⟩
end
end Go.Proofs.YtdhkcnhmmiigoaaGreatDoor.Q
