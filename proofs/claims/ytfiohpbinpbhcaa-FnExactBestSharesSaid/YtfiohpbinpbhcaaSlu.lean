/- Parts of the proof, laid together: contracts and lemmas; no conditions beyond those written. -/
import Derived.Test.YtfiohpbinpbhcaaQx0
import Derived.Test.YtfiohpbinpbhcaaQx1
import Derived.Test.YtfiohpbinpbhcaaSsetldef
import Derived.Test.YtfiohpbinpbhcaaSsetl
import Derived.Test.YtfiohpbinpbhcaaSsortl
import Derived.Shelf.Abstract
namespace Go.Proofs.Ytfiohpbinpbhcaa.Q
open Go.RowKit Go.Proofs.YtfiohpbinpbhcaaW.PrintWords Go.Proofs.YtfiohpbinpbhcaaW.PrintLast Go.Proofs.YtfiohpbinpbhcaaW.PrintMore
attribute [local go_sem] max2_int min2_int max_two min_two max_three min_three max_four min_four   -- for this text's walks alone
set_option linter.unusedVariables false
set_option linter.unusedSimpArgs false
section
def lu (l : List Int) (a : Int) : Nat → Int
  | 0 => -1
  | i + 1 => if rd l (i : Int) = a then (i : Int) else lu l a i
theorem lu_range (l : List Int) (a : Int) (i : Nat) : -1 ≤ lu l a i ∧ lu l a i < (i : Int) := by
  induction i with
  | zero => exact ⟨by simp [lu], by simp [lu]⟩
  | succ i ih =>
    unfold lu
    split <;> omega
theorem lu_hit {l : List Int} {a : Int} {i : Nat} (h : 0 ≤ lu l a i) : rd l (lu l a i) = a := by
  induction i with
  | zero => simp [lu] at h
  | succ i ih =>
    unfold lu at h ⊢
    by_cases e : rd l (i : Int) = a
    · rw [if_pos e]; exact e
    · rw [if_neg e] at h ⊢; exact ih h
theorem lu_after {l : List Int} {a : Int} {i : Nat} : ∀ j : Nat, lu l a i < (j : Int) → j < i → rd l (j : Int) ≠ a := by
  induction i with
  | zero => intro j _ h; omega
  | succ i ih =>
    intro j h1 h2
    unfold lu at h1
    by_cases e : rd l (i : Int) = a
    · rw [if_pos e] at h1; omega
    · rw [if_neg e] at h1
      by_cases hj : j = i
      · subst hj; exact e
      · exact ih j h1 (by omega)
theorem rd_take (l : List Int) (n j : Nat) (h : j < n) : rd (l.take n) (j : Int) = rd l (j : Int) := by
  show (l.take n).getD j 0 = l.getD j 0
  rw [List.getD_eq_getElem?_getD, List.getD_eq_getElem?_getD, List.getElem?_take_of_lt h]
theorem lu_take (l : List Int) (a : Int) (n i : Nat) (h : i ≤ n) : lu (l.take n) a i = lu l a i := by
  induction i with
  | zero => rfl
  | succ i ih =>
    unfold lu
    rw [rd_take l n i (by omega), ih (by omega)]
theorem ev_lastUse_l0 (l : List Int) (a : Int) (h : l.length ≤ 35184372088832) : ∀ i : Nat, i ≤ l.length → Ev (fun k => impl_lastUse.l0 k l a ((i : Int) - 1)) (lu l a i) := by
  intro i
  induction i with
  | zero =>
    intro _
    apply Ev.succ
    simp only [impl_lastUse.l0]
    exact Ev.ite_neg (by omega) (Ev.now _)
  | succ i ih =>
    intro hi
    apply Ev.succ
    simp only [impl_lastUse.l0]
    rw [show ((i + 1 : Nat) : Int) - 1 = (i : Int) by omega]
    refine Ev.ite_pos (by omega) (Ev.ite_pos (by omega) (Ev.ite_pos (by omega) ?_))
    unfold lu
    by_cases e : rd l (i : Int) = a
    · rw [if_pos e]; exact Ev.ite_pos e (Ev.now _)
    · rw [if_neg e, wrap64_id (by omega) (by omega)]
      exact Ev.ite_neg e (ih (by omega))
theorem ev_lastUse (l : List Int) (a : Int) (h : l.length ≤ 35184372088832) : Ev (fun k => impl_lastUse.f k l a) (lu l a l.length) := by
  unfold impl_lastUse.f
  rw [wrap64_id (by omega) (by omega)]
  exact ev_lastUse_l0 l a h l.length (Nat.le_refl _)
theorem ev_lastUse_take (l : List Int) (a : Int) (i : Nat) (hi : i ≤ l.length) (h : l.length ≤ 35184372088832) : Ev (fun k => impl_lastUse.f k (l.take i) a) (lu l a i) := by
  have hl : (l.take i).length = i := by simp; omega
  have := ev_lastUse (l.take i) a (by omega)
  rwa [hl, lu_take l a i i (Nat.le_refl _)] at this
/-- What has been used between the last use of an address and its use i. -/
def between (l : List Int) (i : Nat) : List Int := setL ((l.take i).drop (lu l (rd l (i : Int)) i + 1).toNat)
theorem between_length (l : List Int) (i : Nat) : (between l i).length ≤ i := by
  unfold between
  have h := setL_length_le ((l.take i).drop (lu l (rd l (i : Int)) i + 1).toNat)
  rw [List.length_drop, List.length_take] at h
  omega
end
section
/-- What is asked of a predicate that is handed to the library. -/
def PredI (g : Nat) (lb : Array Value) (l : List Int) (p : Int → Bool) (w : World) : Prop :=
  ∀ (W : World) (x : Int), Below w.heap.size w W → x ∈ l → Calls Try.prog g (#[.int .i64 x] ++ lb) W fun e w' => e = .returned (.bool (p x)) ∧ Below W.heap.size W w'
theorem PredI.later {g : Nat} {lb : Array Value} {l : List Int} {p : Int → Bool} {w w1 : World} (h : PredI g lb l p w) (hb : Below w.heap.size w w1) : PredI g lb l p w1 :=
  fun W x hW hx => h W x (hb.trans (hW.mono hb.size)) hx
set_option maxHeartbeats 2000000 in
set_option maxRecDepth 100000 in
theorem slices_IndexFunc_i64 (g : Nat) (lb : Array Value) (eg : ∀ args w, (callFunc g args).run Try.prog w = .ok (.enter g args) w) (p : Int → Bool) (A : Option Addr) (c : Nat) (l : List Int) (w : World) (hr : Kd.C (Kd.int .i64) w A l.length l) (hp : PredI g lb l p w) :
    Calls Try.prog 59 #[.slice A l.length c, .func (.func g) #[] lb] w fun e w' => e = .returned (.int .i64 (idxF p l)) ∧ Below w.heap.size w w' := by
  have HR := Aside0.mk hr
  have HP := Aside0.mk hp
  have hn : l.length ≤ 9223372036854775807 := hr.2.1
  clear hr hp
  go_enter Try.func59, Try.ntmps59
  go_wp2
  go_loopg [5, 8] l.length (fun gg _ s8 wr => ∃ kk : Nat, s8 = .int .i64 kk ∧ Aside0 (kk ≤ l.length ∧ l.length - kk ≤ gg) ∧ Aside0 (Below w.heap.size w wr) ∧ Aside0 (∀ j, (hj : j < kk) → (hl : j < l.length) → p l[j] = false))
  case atStart => exact ⟨0, rfl, ⟨⟨Nat.zero_le _, by omega⟩⟩, ⟨Below.refl _ _⟩, ⟨fun j hj => absurd hj (Nat.not_lt_zero _)⟩⟩
  case round =>
    obtain ⟨kk, rfl, HK, HB, AB⟩ := hrel
    by_cases hlt : kk < l.length
    · have hltz : (kk : Int) < (l.length : Int) := by omega
      have h0z : (0 : Int) ≤ (kk : Int) := by omega
      obtain ⟨ad, e, hx⟩ := Kd.at_int HR.out (kk : Int) h0z hltz
      cases e
      rw [rd_lt l kk hlt] at hx
      simp only [Int.toNat_natCast] at hx
      have hcell := (HB.out.cell (World.block_lt_of_cell? w _ hx)).trans hx
      clear hx
      have hcall := HP.out wr (l[kk]) HB.out (List.getElem_mem hlt)
      obtain ⟨y, hy⟩ : ∃ y, y = l[kk] := ⟨_, rfl⟩
      rw [← hy] at hcell hcall
      have HY := Aside0.mk hy
      clear hy
      cases hq : p y with
      | true =>
        rw [hq] at hcall
        have HQ := Aside0.mk hq
        clear hq
        go_wp2_with (go_at_fn g; refine hcall.mono ?_; rintro e w' ⟨rfl, hb⟩; have HB1 := Aside0.mk (below_step HB.out hb); clear hb)
        go_ret
        exact ⟨ret_int (idxF_hit p l kk hlt (by rw [← HY.out]; exact HQ.out) (fun j hj => AB.out j hj (by omega))).symm, HB1.out⟩
      | false =>
        rw [hq] at hcall
        have HQ := Aside0.mk hq
        clear hq
        go_wp2_with (go_at_fn g; refine hcall.mono ?_; rintro e w' ⟨rfl, hb⟩; have HB1 := Aside0.mk (below_step HB.out hb); clear hb)
        go_roundg (l.length - (kk + 1))
        case measure => have := HK.out; omega
        case rel =>
          refine ⟨kk + 1, by go_num, ⟨by omega⟩, HB1, ⟨fun j hj hl => ?_⟩⟩
          by_cases e : j = kk
          · subst e
            rw [← HY.out]; exact HQ.out
          · exact AB.out j (by omega) hl
    · have hltz : ¬ (kk : Int) < (l.length : Int) := by omega
      go_wp2
      go_ret
      exact ⟨ret_int (idxF_miss p l (fun j hj => AB.out j (by have := HK.out; omega) hj)).symm, HB.out⟩
set_option maxHeartbeats 2000000 in
theorem slices_ContainsFunc_i64 (g : Nat) (lb : Array Value) (eg : ∀ args w, (callFunc g args).run Try.prog w = .ok (.enter g args) w) (p : Int → Bool) (A : Option Addr) (c : Nat) (l : List Int) (w : World) (hr : Kd.C (Kd.int .i64) w A l.length l) (hp : PredI g lb l p w) :
    Calls Try.prog 82 #[.slice A l.length c, .func (.func g) #[] lb] w fun e w' => e = .returned (.bool (l.any p)) ∧ Below w.heap.size w w' := by
  rw [← idxF_nonneg]
  have H := slices_IndexFunc_i64 g lb eg p A c l w hr hp
  have HH := Aside0.mk H
  clear H hr hp eg
  generalize idxF p l = r at HH ⊢
  go_enter Try.func82, Try.ntmps82
  go_wp2_with (go_at_call 59; refine HH.out.mono ?_; rintro e w' ⟨rfl, hb⟩; have HB := Aside0.mk hb; clear hb)
  all_goals (go_ret; exact ⟨rfl, HB.out⟩)
end
end Go.Proofs.Ytfiohpbinpbhcaa.Q
