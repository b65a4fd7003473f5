/- The library's DeleteFunc over an owned row of numbers, for every predicate that answers by a plain function; no other conditions. -/
import Derived.Test.YtdhkcnhmmiigoaaQx0
import Derived.Test.YtdhkcnhmmiigoaaSupto
import Derived.Test.YtdhkcnhmmiigoaaSidxf
import Derived.Shelf.Abstract
import Derived.Lib.SliceRun
namespace Go.Proofs.Ytdhkcnhmmiigoaa.Q
open Go.RowKit Go.Proofs.YtdhkcnhmmiigoaaW.PrintWords Go.Proofs.YtdhkcnhmmiigoaaW.PrintLast Go.Proofs.YtdhkcnhmmiigoaaW.PrintMore
attribute [local go_sem] max2_int min2_int max_two min_two max_three min_three max_four min_four   -- for this text's walks alone
set_option linter.unusedVariables false
set_option linter.unusedSimpArgs false

/-- What is asked of a predicate that is handed to the library while a row is written. -/
def PredOverI (g : Nat) (lb : Array Value) (l : List Int) (p : Int → Bool) (w : World) (row : Option Nat) : Prop :=
  ∀ (W : World) (x : Int), w.grownBy W row → x ∈ l → Calls Try.prog g (#[.int .i64 x] ++ lb) W fun e w' => e = .returned (.bool (p x)) ∧ Below W.heap.size W w'
def setMany (xs : List Int) (o : Nat) : Nat → List Int
  | 0 => xs
  | n + 1 => setMany (xs.set o 0) (o + 1) n
theorem setMany_take (xs : List Int) (m o n : Nat) (h : m ≤ o) : (setMany xs o n).take m = xs.take m := by
  induction n generalizing xs o with
  | zero => rfl
  | succ n ih =>
    unfold setMany
    rw [ih _ _ (by omega), List.take_set_of_le (by omega)]
theorem setMany_length (xs : List Int) (o n : Nat) : (setMany xs o n).length = xs.length := by
  induction n generalizing xs o with
  | zero => rfl
  | succ n ih => unfold setMany; rw [ih]; simp
theorem own_setCells {base gb len cap : Nat} {e : TypeId} (n : Nat) : ∀ (o : Nat) (W : World) (xs : List Int), W.ownsRow base e 1 (.slice (some ⟨gb, 0, none⟩) len cap) len (nums .i64 xs) →
    (W.setCells gb o (List.replicate n (.int .i64 0))).ownsRow base e 1 (.slice (some ⟨gb, 0, none⟩) len cap) len (nums .i64 (setMany xs o n)) ∧ W.grownBy (W.setCells gb o (List.replicate n (.int .i64 0))) (some gb) := by
  induction n with
  | zero => intro o W xs h; exact ⟨h, World.grownBy.refl W _⟩
  | succ n ih =>
    intro o W xs h
    rw [List.replicate_succ]
    unfold World.setCells setMany
    have hs := own_store h (o : Int) 0
    rw [Int.toNat_natCast] at hs
    obtain ⟨h1, h2⟩ := ih (o + 1) _ _ hs.1
    exact ⟨h1, World.grownBy.trans hs.2 h2⟩
theorem own_take_row {W : World} {base gb n m cap : Nat} {e : TypeId} {xs : List Int} (h : W.ownsRow base e 1 (.slice (some ⟨gb, 0, none⟩) n cap) n (nums .i64 xs)) (hm : m ≤ n) : W.ownsRow base e 1 (.slice (some ⟨gb, 0, none⟩) m cap) m (nums .i64 (xs.take m)) := by
  have hl : xs.length = n := by have := h.1; simp [nums] at this; exact this
  refine ⟨by simp [nums]; omega, ?_⟩
  rcases h.2 with ⟨h0, _⟩ | ⟨g', cap', cur, he, hg, hh, h1, h2, h3, h4⟩
  · cases h0
  · cases he
    refine .inr ⟨gb, cap, cur, rfl, hg, hh, by omega, h2, h3, ?_⟩
    have := congrArg (List.take m) h4
    rw [Nat.mul_one, List.take_take, Nat.min_eq_left hm] at this
    rw [Nat.mul_one, this]
    simp [nums, List.map_take]
theorem filter_snoc (p : Int → Bool) (l : List Int) (j : Nat) (h : j < l.length) : (l.take (j + 1)).filter p = (l.take j).filter p ++ (if p (rd l (j : Int)) = true then [rd l (j : Int)] else []) := by
  rw [take_succ_rd l j h, List.filter_append]
  congr 1
  by_cases hc : p (rd l (j : Int)) = true
  · rw [if_pos hc, List.filter_cons, if_pos hc]; rfl
  · rw [if_neg hc, List.filter_cons, if_neg hc]; rfl
/-- The row after j rounds: what stays has been moved to the front, what comes has not been touched. -/
structure DelAt (p : Int → Bool) (l cur : List Int) (j : Nat) : Prop where
  len : cur.length = l.length
  front : cur.take ((l.take j).filter fun x => !p x).length = (l.take j).filter fun x => !p x
  back : cur.drop j = l.drop j
theorem DelAt.keep {p : Int → Bool} {l cur : List Int} {j : Nat} (h : DelAt p l cur j) (hj : j < l.length) (hp : p (rd l (j : Int)) = true) : DelAt p l cur (j + 1) ∧ ((l.take (j + 1)).filter fun x => !p x).length = ((l.take j).filter fun x => !p x).length := by
  have e := filter_snoc (fun x => !p x) l j hj
  rw [if_neg (by simp [hp]), List.append_nil] at e
  refine ⟨⟨h.len, by rw [e]; exact h.front, ?_⟩, by rw [e]⟩
  have := congrArg (List.drop 1) h.back
  rwa [List.drop_drop, List.drop_drop] at this
theorem DelAt.move {p : Int → Bool} {l cur : List Int} {j : Nat} (h : DelAt p l cur j) (hj : j < l.length) (hp : p (rd l (j : Int)) = false) :
    DelAt p l (cur.set ((l.take j).filter fun x => !p x).length (rd l (j : Int))) (j + 1) ∧ ((l.take (j + 1)).filter fun x => !p x).length = ((l.take j).filter fun x => !p x).length + 1 := by
  have e := filter_snoc (fun x => !p x) l j hj
  rw [if_pos (by simp [hp])] at e
  have hml : ((l.take j).filter fun x => !p x).length ≤ j := by
    have := List.length_filter_le (fun x => !p x) (l.take j)
    rw [List.length_take] at this; omega
  have hlen := h.len
  refine ⟨⟨by simp [h.len], ?_, ?_⟩, by rw [e]; simp⟩
  · rw [e, List.length_append, List.length_singleton, List.take_succ_eq_append_getElem (by simp; omega)]
    congr 1
    · rw [List.take_set_of_le (Nat.le_refl _)]; exact h.front
    · simp
  · rw [List.drop_set_of_lt (by omega)]
    have := congrArg (List.drop 1) h.back
    rwa [List.drop_drop, List.drop_drop] at this
set_option maxHeartbeats 4000000 in
set_option maxRecDepth 100000 in
theorem slices_DeleteFunc_i64 (g : Nat) (lb : Array Value) (eg : ∀ args w, (callFunc g args).run Try.prog w = .ok (.enter g args) w) (p : Int → Bool) (base : Nat) (v : Value) (l : List Int) (w : World) (ho : w.ownsRow base 2 1 v l.length (nums .i64 l)) (hp : PredOverI g lb l p w v.ownBlock) :
    Calls Try.prog 91 #[v, .func (.func g) #[] lb] w fun e w' => ∃ v', e = .returned v' ∧ w'.ownsRow base 2 1 v' (l.filter fun x => !p x).length (nums .i64 (l.filter fun x => !p x)) ∧ w.grownBy w' v.ownBlock ∧ v'.ownBlock = v.ownBlock := by
  have hpi : PredI g lb l p w := fun W x hW hx => hp W x (grown_of_below hW _) hx
  obtain ⟨A, c, he, hcl, hC⟩ := C_of_own (n := 0) (v := v) (xs := l) ho
  have HI := Aside0.mk (slices_IndexFunc_i64 g lb eg p A c l w hC hpi)
  clear hpi hC
  by_cases hany : ∃ i, ∃ (h : i < l.length), idxF p l = (i : Int) ∧ p l[i] = true ∧ ∀ j, (hj : j < i) → p (l[j]'(by omega)) = false
  · obtain ⟨i0, hi0, hix, hpt, hpb⟩ := hany
    rw [hix] at HI
    have hpos : 0 < l.length := by omega
    obtain ⟨gb, cap, rfl, _, _⟩ := ho.form hpos
    injection he with e1_ e2_ e3_
    subst e1_ e3_
    clear e2_
    have hd0 : DelAt p l l (i0 + 1) ∧ ((l.take (i0 + 1)).filter fun x => !p x).length = i0 := by
      have e0 : (l.take i0).filter (fun x => !p x) = l.take i0 := by
        rw [List.filter_eq_self]
        intro x hx
        obtain ⟨j, hj, rfl⟩ := List.getElem_of_mem hx
        rw [List.getElem_take]
        simp [hpb j (by simp at hj; omega)]
      have hd : DelAt p l l i0 := ⟨rfl, by rw [e0, List.length_take, Nat.min_eq_left (by omega)], rfl⟩
      obtain ⟨h1, h2⟩ := hd.keep hi0 (by rw [rd_lt l i0 hi0]; exact hpt)
      refine ⟨h1, ?_⟩
      rw [h2, e0, List.length_take, Nat.min_eq_left (by omega)]
    have hcapm : cap ≤ 9223372036854775807 := by
      rcases ho.2 with ⟨h0, _⟩ | ⟨_, _, _, e2, _, _, _, h5, _⟩
      · cases h0
      · cases e2; simpa [maxLen] using h5
    have HO := Aside0.mk ho
    have HP := Aside0.mk hp
    have HD0 := Aside0.mk hd0
    clear ho hp hd0 hix hpt hpb
    have hne : ((i0 : Int) == -1) = false := by simp <;> omega
    obtain ⟨n, hn⟩ : ∃ n, n = l.length := ⟨_, rfl⟩
    rw [← hn] at HO HI hcl hi0 hpos
    have HN := Aside0.mk hn
    rw [← hn]
    clear hn
    go_enter Try.func91, Try.ntmps91
    go_wp2_with (go_at_call 109; refine HI.out.mono ?_; rintro e w1 ⟨rfl, hb⟩; have HB0 := Aside0.mk hb; clear hb)
    go_loopg [5, 6, 7] n (fun gg s5 s6 s7 wr => ∃ (j : Nat) (m : Nat) (cur : List Int), s5 = .int .i64 m ∧ s6 = .int .i64 j ∧ Aside0 (j ≤ n ∧ n - j ≤ gg ∧ m = ((l.take j).filter fun x => !p x).length ∧ m < j) ∧ Aside0 (DelAt p l cur j) ∧ Aside0 (wr.ownsRow base 2 1 (.slice (some ⟨gb, 0, none⟩) n cap) n (nums .i64 cur)) ∧ Aside0 (w.grownBy wr (some gb)))
    case atStart =>
      exact ⟨i0 + 1, i0, l, rfl, by go_num, ⟨⟨by omega, by omega, HD0.out.2.symm, by omega⟩⟩, ⟨HD0.out.1⟩, ⟨pw_own_below HO.out HB0.out⟩, ⟨grown_of_below HB0.out _⟩⟩
    case round =>
      clear HI HB0 HD0 hne hi0
      obtain ⟨j, m, cur, rfl, rfl, HK, HDl, HR, HG⟩ := hrel
      have hmj : m < j := HK.out.2.2.2
      by_cases hlt : j < n
      · have hltz : (j : Int) < (n : Int) := by omega
        have h0z : (0 : Int) ≤ (j : Int) := by omega
        obtain ⟨hcell, hfr⟩ := own_at HR.out (j : Int) h0z hltz
        have hrdl : rd cur (j : Int) = rd l (j : Int) := by
          have h1 := congrArg (fun q => q.getD 0 0) HDl.out.back
          simp only [getD_drop_zero] at h1
          exact h1
        rw [hrdl] at hcell
        simp only [Int.toNat_natCast] at hcell hfr
        have hjl : j < l.length := by have := HN.out; omega
        have hcall := HP.out wr (rd l (j : Int)) HG.out (by rw [rd_lt l j hjl]; exact List.getElem_mem hjl)
        have HKeep := Aside0.mk (fun h => HDl.out.keep hjl h)
        have HMove := Aside0.mk (fun h => HDl.out.move hjl h)
        clear hrdl
        obtain ⟨y, hy⟩ : ∃ y, y = rd l (j : Int) := ⟨_, rfl⟩
        rw [← hy] at hcell hcall HKeep HMove
        clear hy hfr hjl
        cases hq : p y with
        | true =>
          rw [hq] at hcall HKeep
          have HQ := Aside0.mk (HKeep.out rfl)
          clear HKeep HMove hq
          go_wp2_with (go_at_fn g; refine hcall.mono ?_; rintro e w2 ⟨rfl, hb⟩; have HB1 := Aside0.mk hb; clear hb)
          go_roundg (n - (j + 1))
          case measure => have := HK.out; omega
          case rel => exact ⟨j + 1, m, cur, rfl, by go_num, ⟨⟨by omega, by omega, by rw [HQ.out.2]; exact HK.out.2.2.1, by omega⟩⟩, ⟨HQ.out.1⟩, ⟨pw_own_below HR.out HB1.out⟩, ⟨World.grownBy.trans HG.out (grown_of_below HB1.out _)⟩⟩
        | false =>
          rw [hq] at hcall HMove
          have HQ := Aside0.mk (HMove.out rfl)
          clear HKeep HMove hq
          have hm0 : (0 : Int) ≤ (m : Int) := by omega
          have hmn : (m : Int) < (n : Int) := by omega
          go_wp2_with (go_at_fn g; refine hcall.mono ?_; rintro e w2 ⟨rfl, hb⟩; have HR2 := Aside0.mk (pw_own_below HR.out hb); have HG2 := Aside0.mk (World.grownBy.trans HG.out (grown_of_below hb (some gb))); clear hb; obtain ⟨hcm, hfm⟩ := own_at HR2.out (m : Int) hm0 hmn; simp only [Int.toNat_natCast] at hcm hfm)
          go_roundg (n - (j + 1))
          case measure => have := HK.out; omega
          case rel =>
            have hs := own_store HR2.out (m : Int) y
            rw [Int.toNat_natCast] at hs
            have hq2 := HQ.out
            rw [← HK.out.2.2.1] at hq2
            exact ⟨j + 1, m + 1, cur.set m y, by go_num, by go_num, ⟨⟨by omega, by omega, hq2.2.symm, by omega⟩⟩, ⟨hq2.1⟩, ⟨hs.1⟩, ⟨World.grownBy.trans HG2.out hs.2⟩⟩
      · have hltz : ¬ (j : Int) < (n : Int) := by omega
        have hjn : j = n := by have := HK.out.1; omega
        subst hjn
        have hk3 := HK.out.2.2.1
        have hcl2 : ∀ ty, (Builtin.clear_ #[24] ty #[.slice (some ⟨gb, m, none⟩) (j - m) (cap - m)]).run Try.prog wr = .ok (.tuple #[]) (wr.setCells gb m (List.replicate (j - m) (.int .i64 0))) :=
          fun ty => Go.Lib.run_clear_slice wr _ _ ty (.int .i64 0) Try.underlying24 Try.zeroValue2 rfl rfl gb m _ _ (by omega)
            (fun t ht => by have := (own_at HR.out ((m + t : Nat) : Int) (by omega) (by omega)).1; rw [Int.toNat_natCast] at this; rw [this]; rfl)
            (fun t ht => by have := (own_at HR.out ((m + t : Nat) : Int) (by omega) (by omega)).2; rw [Int.toNat_natCast] at this; exact this)
        have hfin := own_setCells (j - m) m wr cur HR.out
        have htk := own_take_row hfin.1 (show m ≤ j by omega)
        rw [setMany_take _ _ _ _ (Nat.le_refl _)] at htk
        have hall : l.take j = l := by rw [HN.out, List.take_length]
        have hfr := HDl.out.front
        rw [← hk3] at hfr
        rw [hall] at hfr hk3
        rw [hfr] at htk
        have HF := Aside0.mk (And.intro htk (World.grownBy.trans HG.out hfin.2))
        have HM := Aside0.mk hk3
        clear hk3 hfr htk hfin HR HG HDl HO HP
        have hmj1 : ((m : Int)) ≤ (j : Int) := by omega
        have hmj2 : (0 : Int) ≤ (m : Int) := by omega
        have hmc : m < cap := by omega
        go_wp2
        go_ret
        exact ⟨_, rfl, by rw [← HM.out]; exact HF.out.1, HF.out.2, rfl⟩
  · have hno : ∀ x ∈ l, p x = false := by
      intro x hx
      cases hq : p x with
      | false => rfl
      | true =>
        exfalso
        have hlt : l.findIdx p < l.length := List.findIdx_lt_length_of_exists ⟨x, hx, hq⟩
        refine hany ⟨l.findIdx p, hlt, by unfold idxF; rw [if_pos hlt], List.findIdx_getElem (w := hlt), fun j hj => ?_⟩
        have := List.not_of_lt_findIdx hj
        simpa using this
    have hix : idxF p l = -1 := idxF_miss p l (fun j hj => hno _ (List.getElem_mem hj))
    have hfl : (l.filter fun x => !p x) = l := List.filter_eq_self.2 (fun x hx => by simp [hno x hx])
    rw [hix] at HI
    rw [hfl]
    subst he
    have HO := Aside0.mk ho
    clear ho hp hany hno hix hfl
    go_enter Try.func91, Try.ntmps91
    go_wp2_with (go_at_call 109; refine HI.out.mono ?_; rintro e w1 ⟨rfl, hb⟩; have HB0 := Aside0.mk hb; clear hb)
    go_ret
    exact ⟨_, rfl, pw_own_below HO.out HB0.out, grown_of_below HB0.out _, rfl⟩
end Go.Proofs.Ytdhkcnhmmiigoaa.Q
