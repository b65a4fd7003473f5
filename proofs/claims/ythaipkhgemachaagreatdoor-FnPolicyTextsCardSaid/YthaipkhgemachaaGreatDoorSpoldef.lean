/- Parts of the proof, laid together: contracts and lemmas; no conditions beyond those written. -/
import Derived.Test.YthaipkhgemachaaGreatDoorQx0
import Derived.Test.YthaipkhgemachaaGreatDoorSlawptmem
import Derived.Test.YthaipkhgemachaaGreatDoorSbase
import Derived.Shelf.Abstract
namespace Go.Proofs.YthaipkhgemachaaGreatDoor.Q
open Go.RowKit Go.Proofs.YthaipkhgemachaaGreatDoorW.PrintWords Go.Proofs.YthaipkhgemachaaGreatDoorW.PrintLast Go.Proofs.YthaipkhgemachaaGreatDoorW.PrintMore
attribute [local go_sem] max2_int min2_int max_two min_two max_three min_three max_four min_four   -- for this text's walks alone
set_option linter.unusedVariables false
set_option linter.unusedSimpArgs false
section
def polTo (H : List (List Int)) : Nat → ByteArray
  | 0 => ⟨#[]⟩
  | i + 1 => (if i = 0 then polTo H i else polTo H i ++ ⟨#[47]⟩) ++ digTxt (rd_L2 H (i : Int))
def polTxt (H : List (List Int)) (M : List Int) : ByteArray := polTo H H.length ++ ⟨#[124]⟩ ++ digTxt M
def okDigs (H : List (List Int)) (M : List Int) : Bool := isDig M && (H.all isDig && decide (H.length ≤ 6))
theorem pt_append_size (a b : ByteArray) : (a ++ b).size = a.size + b.size := by
  first | exact ByteArray.size_append | exact ByteArray.size_append a b | simp
theorem polTo_size (H : List (List Int)) (hH : ∀ y ∈ H, isDig y = true) (i : Nat) (hi : i ≤ H.length) : (polTo H i).size ≤ 7 * i := by
  induction i with
  | zero => exact Nat.le_refl _
  | succ i ih =>
    have ih := ih (by omega)
    have hm : isDig (rd_L2 H (i : Int)) = true := hH _ (by
      show H.getD i _ ∈ H
      rw [List.getD_eq_getElem?_getD, List.getElem?_eq_getElem (by omega), Option.getD_some]
      exact List.getElem_mem _)
    have hl := of_decide_eq_true (Bool.and_eq_true_iff.1 hm).1
    unfold polTo
    rw [pt_append_size, digTxt_size]
    split
    · omega
    · rw [pt_append_size, show (⟨#[47]⟩ : ByteArray).size = 1 from rfl]; omega
end
section
def areBytes (l : List Int) : Bool := l.all fun n => decide (0 ≤ n) && decide (n ≤ 255)
/-- What a law over two texts of bytes comes to. -/
def lawOf2 (l0 l1 : List Int) : Option Bool := if (areBytes l0 && areBytes l1) = true then some true else none
theorem lawOf2_some {l0 l1 : List Int} {r : Bool} (h : lawOf2 l0 l1 = some r) : r = true ∧ (∀ y ∈ l0, 0 ≤ y ∧ y ≤ 255) ∧ ∀ y ∈ l1, 0 ≤ y ∧ y ≤ 255 := by
  unfold lawOf2 at h
  by_cases hb : (areBytes l0 && areBytes l1) = true
  · rw [if_pos hb] at h
    obtain ⟨h0, h1⟩ := Bool.and_eq_true_iff.1 hb
    refine ⟨(Option.some.inj h).symm, fun y hy => ?_, fun y hy => ?_⟩
    · have := List.all_eq_true.1 h0 y hy; simpa using this
    · have := List.all_eq_true.1 h1 y hy; simpa using this
  · rw [if_neg hb] at h; exact absurd h (by simp)
theorem lawOf2_of {l0 l1 : List Int} (h0 : ∀ y ∈ l0, (Lit.int .u8 y).wf = true) (h1 : ∀ y ∈ l1, (Lit.int .u8 y).wf = true) : lawOf2 l0 l1 = some true := by
  have key : ∀ l : List Int, (∀ y ∈ l, (Lit.int .u8 y).wf = true) → areBytes l = true := by
    intro l h
    refine List.all_eq_true.2 fun y hy => ?_
    have := h y hy
    simp [Lit.wf] at this
    have e1 : IntKind.u8.min = 0 := by decide
    have e2 : IntKind.u8.max = 255 := by decide
    simp; omega
  unfold lawOf2
  rw [key l0 h0, key l1 h1]; rfl
end
section
/-- What is asked of a predicate on rows of numbers that is handed to the library. -/
def PredRows (g : Nat) (lb : Array Value) (l : List (List Int)) (p : (List Int) → Bool) (w : World) : Prop :=
  ∀ (W : World) (x : (List Int)) (A : Option Addr) (c : Nat), Below w.heap.size w W → x ∈ l → x.length ≤ c → Kd.C (Kd.int .i64) W A x.length x → Calls Tryz.prog g (#[.slice A x.length c] ++ lb) W fun e w' => e = .returned (.bool (p x)) ∧ Below W.heap.size W w'
set_option maxHeartbeats 2000000 in
set_option maxRecDepth 100000 in
theorem slices_IndexFunc_rows (g : Nat) (lb : Array Value) (eg : ∀ args w, (callFunc g args).run Tryz.prog w = .ok (.enter g args) w) (p : (List Int) → Bool) (A : Option Addr) (c : Nat) (l : List (List Int)) (w : World) (hr : Kd.C (Kd.slice 2 (Kd.int .i64)) w A l.length l) (hp : PredRows g lb l p w) :
    Calls Tryz.prog 55 #[.slice A l.length c, .func (.func g) #[] lb] w fun e w' => e = .returned (.int .i64 (idxF p l)) ∧ Below w.heap.size w w' := by
  have HR := Aside0.mk hr
  have HP := Aside0.mk hp
  have hn : l.length ≤ 9223372036854775807 := hr.2.1
  clear hr hp
  go_enter Tryz.func55, Tryz.ntmps55
  go_wp2
  go_loopg [5, 8] l.length (fun gg _ s8 wr => ∃ kk : Nat, s8 = .int .i64 kk ∧ Aside0 (kk ≤ l.length ∧ l.length - kk ≤ gg) ∧ Aside0 (Below w.heap.size w wr) ∧ Aside0 (∀ j, (hj : j < kk) → (hl : j < l.length) → p l[j] = false))
  case atStart => exact ⟨0, rfl, ⟨⟨Nat.zero_le _, by omega⟩⟩, ⟨Below.refl _ _⟩, ⟨fun j hj => absurd hj (Nat.not_lt_zero _)⟩⟩
  case round =>
    obtain ⟨kk, rfl, HK, HB, AB⟩ := hrel
    by_cases hlt : kk < l.length
    · have hltz : (kk : Int) < (l.length : Int) := by omega
      have h0z : (0 : Int) ≤ (kk : Int) := by omega
      obtain ⟨ad, A0, c0, e, hx, hc0, hC0⟩ := at_L2 HR.out (kk : Int) h0z hltz
      cases e
      have hrd : rd_L2 l (kk : Int) = l[kk] := by
        show l.getD kk _ = l[kk]
        rw [List.getD_eq_getElem?_getD, List.getElem?_eq_getElem hlt, Option.getD_some]
      rw [hrd] at hx hc0 hC0
      simp only [Int.toNat_natCast] at hx
      have hcell := (HB.out.cell (World.block_lt_of_cell? w _ hx)).trans hx
      have hcall := HP.out wr (l[kk]) A0 c0 HB.out (List.getElem_mem hlt) hc0 (Kd.C_below hC0 HB.out)
      clear hx hrd hc0 hC0
      obtain ⟨y, hy⟩ : ∃ y, y = l[kk] := ⟨_, rfl⟩
      rw [← hy] at hcell hcall
      have HY := Aside0.mk hy
      clear hy
      cases hq : p y with
      | true =>
        rw [hq] at hcall
        have HQ := Aside0.mk hq
        clear hq
        go_wp2_with (go_at_fn g; refine hcall.mono ?_; rintro e w' ⟨rfl, hb⟩; have HB1 := Aside0.mk (below_step HB.out hb); clear hb)
        go_ret
        exact ⟨ret_int (idxF_hit p l kk hlt (by rw [← HY.out]; exact HQ.out) (fun j hj => AB.out j hj (by omega))).symm, HB1.out⟩
      | false =>
        rw [hq] at hcall
        have HQ := Aside0.mk hq
        clear hq
        go_wp2_with (go_at_fn g; refine hcall.mono ?_; rintro e w' ⟨rfl, hb⟩; have HB1 := Aside0.mk (below_step HB.out hb); clear hb)
        go_roundg (l.length - (kk + 1))
        case measure => have := HK.out; omega
        case rel =>
          refine ⟨kk + 1, by go_num, ⟨by omega⟩, HB1, ⟨fun j hj hl => ?_⟩⟩
          by_cases e : j = kk
          · subst e
            rw [← HY.out]; exact HQ.out
          · exact AB.out j (by omega) hl
    · have hltz : ¬ (kk : Int) < (l.length : Int) := by omega
      go_wp2
      go_ret
      exact ⟨ret_int (idxF_miss p l (fun j hj => AB.out j (by have := HK.out; omega) hj)).symm, HB.out⟩
set_option maxHeartbeats 2000000 in
theorem slices_ContainsFunc_rows (g : Nat) (lb : Array Value) (eg : ∀ args w, (callFunc g args).run Tryz.prog w = .ok (.enter g args) w) (p : (List Int) → Bool) (A : Option Addr) (c : Nat) (l : List (List Int)) (w : World) (hr : Kd.C (Kd.slice 2 (Kd.int .i64)) w A l.length l) (hp : PredRows g lb l p w) :
    Calls Tryz.prog 39 #[.slice A l.length c, .func (.func g) #[] lb] w fun e w' => e = .returned (.bool (l.any p)) ∧ Below w.heap.size w w' := by
  rw [← idxF_nonneg]
  have H := slices_IndexFunc_rows g lb eg p A c l w hr hp
  have HH := Aside0.mk H
  clear H hr hp eg
  generalize idxF p l = r at HH ⊢
  go_enter Tryz.func39, Tryz.ntmps39
  go_wp2_with (go_at_call 55; refine HH.out.mono ?_; rintro e w' ⟨rfl, hb⟩; have HB := Aside0.mk hb; clear hb)
  all_goals (go_ret; exact ⟨rfl, HB.out⟩)
end
end Go.Proofs.YthaipkhgemachaaGreatDoor.Q
