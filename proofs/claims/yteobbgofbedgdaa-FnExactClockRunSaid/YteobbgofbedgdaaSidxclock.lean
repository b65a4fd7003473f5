/- The library's IndexFunc over frames of the clock, for every predicate that answers by a plain function; no other conditions. -/
import Derived.Test.YteobbgofbedgdaaQx0
import Derived.Test.YteobbgofbedgdaaSbase
import Derived.Test.YteobbgofbedgdaaSclockdef
import Derived.Test.YteobbgofbedgdaaSidxf
import Derived.Shelf.Abstract
namespace Go.Proofs.Yteobbgofbedgdaa.Q
open Go.RowKit Go.Proofs.YteobbgofbedgdaaW.PrintWords Go.Proofs.YteobbgofbedgdaaW.PrintLast Go.Proofs.YteobbgofbedgdaaW.PrintMore
attribute [local go_sem] max2_int min2_int max_two min_two max_three min_three max_four min_four   -- for this text's walks alone
set_option linter.unusedVariables false
set_option linter.unusedSimpArgs false

/-- What is asked of a predicate on frames that is handed to the library. -/
def PredClock (g : Nat) (lb : Array Value) (l : List CF) (p : CF → Bool) (w : World) : Prop :=
  ∀ (W : World) (x : CF), Below w.heap.size w W → x ∈ l → Calls Try.prog g (#[.agg #[.int .i64 x.1, .bool x.2.1, .bool x.2.2]] ++ lb) W fun e w' => e = .returned (.bool (p x)) ∧ Below W.heap.size W w'
set_option maxHeartbeats 2000000 in
set_option maxRecDepth 100000 in
theorem slices_IndexFunc_clock (g : Nat) (lb : Array Value) (eg : ∀ args w, (callFunc g args).run Try.prog w = .ok (.enter g args) w) (p : CF → Bool) (base G c : Nat) (l : List CF) (w : World) (hr : Held w base G c l) (hp : PredClock g lb l p w) :
    Calls Try.prog 47 #[.slice (some ⟨G, 0, none⟩) l.length c, .func (.func g) #[] lb] w fun e w' => e = .returned (.int .i64 (idxF p l)) ∧ Below w.heap.size w w' := by
  have HR := Aside0.mk hr
  have HP := Aside0.mk hp
  have hn : l.length ≤ 9223372036854775807 := by
    obtain ⟨_, _, _, h3, h4, _⟩ := hr.blk
    exact Nat.le_trans h3 h4
  clear hr hp
  go_enter Try.func47, Try.ntmps47
  go_wp2
  go_loopg [5, 8] l.length (fun gg _ s8 wr => ∃ kk : Nat, s8 = .int .i64 kk ∧ Aside0 (kk ≤ l.length ∧ l.length - kk ≤ gg) ∧ Aside0 (Below w.heap.size w wr) ∧ Aside0 (∀ j, (hj : j < kk) → (hl : j < l.length) → p l[j] = false))
  case atStart => exact ⟨0, rfl, ⟨⟨Nat.zero_le _, by omega⟩⟩, ⟨Below.refl _ _⟩, ⟨fun j hj => absurd hj (Nat.not_lt_zero _)⟩⟩
  case round =>
    obtain ⟨kk, rfl, HK, HB, AB⟩ := hrel
    by_cases hlt : kk < l.length
    · have hltz : (kk : Int) < (l.length : Int) := by omega
      have h0z : (0 : Int) ≤ (kk : Int) := by omega
      have hrd : rdC l kk = l[kk] := rdC_lt l kk hlt
      obtain ⟨hc0, hc1, hc2⟩ := (HR.out.below HB.out).cells kk hlt
      rw [hrd] at hc0 hc1 hc2
      clear hrd
      have hcall := HP.out wr (l[kk]) HB.out (List.getElem_mem hlt)
      obtain ⟨y, hy⟩ : ∃ y, y = l[kk] := ⟨_, rfl⟩
      rw [← hy] at hc0 hc1 hc2 hcall
      have HY := Aside0.mk hy
      clear hy
      cases hq : p y with
      | true =>
        rw [hq] at hcall
        have HQ := Aside0.mk hq
        clear hq
        go_wp2_with (go_at_fn g; refine hcall.mono ?_; rintro e w' ⟨rfl, hb⟩; have HB1 := Aside0.mk (below_step HB.out hb); clear hb)
        go_ret
        exact ⟨ret_int (idxF_hit p l kk hlt (by rw [← HY.out]; exact HQ.out) (fun j hj => AB.out j hj (by omega))).symm, HB1.out⟩
      | false =>
        rw [hq] at hcall
        have HQ := Aside0.mk hq
        clear hq
        go_wp2_with (go_at_fn g; refine hcall.mono ?_; rintro e w' ⟨rfl, hb⟩; have HB1 := Aside0.mk (below_step HB.out hb); clear hb)
        go_roundg (l.length - (kk + 1))
        case measure => have := HK.out; omega
        case rel =>
          refine ⟨kk + 1, by go_num, ⟨by omega⟩, HB1, ⟨fun j hj hl => ?_⟩⟩
          by_cases e : j = kk
          · subst e
            rw [← HY.out]; exact HQ.out
          · exact AB.out j (by omega) hl
    · have hltz : ¬ (kk : Int) < (l.length : Int) := by omega
      go_wp2
      go_ret
      exact ⟨ret_int (idxF_miss p l (fun j hj => AB.out j (by have := HK.out; omega) hj)).symm, HB.out⟩

theorem ClockRun_1.pred (l : List CF) (w : World) (bx : Nat) (ad : Int) (h1 : w.cell? ⟨bx, 1, none⟩ = some (.int .i64 ad)) : PredClock 48 #[.pointer (some ⟨bx, 0, none⟩)] l (fun f => f.1 == ad) w := fun W x hb _ => by
  have hc := (hb.cell (World.block_lt_of_cell? _ _ h1)).trans h1
  clear hb h1
  show Calls Try.prog 48 #[.agg #[.int .i64 x.1, .bool x.2.1, .bool x.2.2], .pointer (some ⟨bx, 0, none⟩)] W _
  obtain ⟨a, b, c⟩ := x
  have hc2 : (W.alloc (.cells #[.int .i64 a, .bool b, .bool c] 66)).cell? ⟨bx, 1, none⟩ = some (.int .i64 ad) := ((below_alloc (Below.refl W.heap.size W) _).cell (World.block_lt_of_cell? _ _ hc)).trans hc
  go_enter Try.func48, Try.ntmps48
  go_wp2
  go_ret
  exact ⟨rfl, below_alloc (Below.refl _ _) _⟩
end Go.Proofs.Yteobbgofbedgdaa.Q
