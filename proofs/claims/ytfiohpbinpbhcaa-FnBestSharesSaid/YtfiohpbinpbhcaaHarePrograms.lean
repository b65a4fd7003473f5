/- impl.arePrograms answers whether lists are programs; no conditions. -/
import Derived.Test.YtfiohpbinpbhcaaQx0
import Derived.Test.YtfiohpbinpbhcaaQx2
import Derived.Test.YtfiohpbinpbhcaaSidxrows
import Derived.Test.YtfiohpbinpbhcaaSokuses
namespace Go.Proofs.Ytfiohpbinpbhcaa.Q
open Go.RowKit Go.Proofs.YtfiohpbinpbhcaaW.PrintWords Go.Proofs.YtfiohpbinpbhcaaW.PrintLast Go.Proofs.YtfiohpbinpbhcaaW.PrintMore
attribute [local go_sem] max2_int min2_int max_two min_two max_three min_three max_four min_four   -- for this text's walks alone
set_option linter.unusedVariables false
set_option linter.unusedSimpArgs false

def okProgs (l : List (List Int)) : Bool := decide (l.length ≤ 4) && l.all okUses
def impl_arePrograms.f (l0 : List (List Int)) : Option Bool := some (okProgs l0)
theorem arePrograms_1.pred (l : List (List Int)) (w : World) : PredRows 79 #[] l (fun x => !(okUses x)) w := fun W x A c hb _ hc hC => by
  have HV := Aside0.mk (impl_ValidUses.calls A c x (okUses x) W hC hc (impl_ValidUses_f x))
  clear hb hC hc
  show Calls Try.prog 79 #[.slice A x.length c] W (fun e w' => e = .returned (.bool (!okUses x)) ∧ Below W.heap.size W w')
  obtain ⟨q, hq⟩ : ∃ q, q = okUses x := ⟨_, rfl⟩
  rw [← hq] at HV ⊢
  clear hq
  cases q
  all_goals
    go_enter Try.func79, Try.ntmps79
    go_wp2_with (go_at_call 45; with_reducible refine HV.out.mono ?_; rintro e w' ⟨rfl, hb⟩; have HB1 := Aside0.mk hb; clear hb)
    go_ret
    exact ⟨rfl, HB1.out⟩
set_option maxHeartbeats 2000000 in
theorem impl_arePrograms.calls (A0 : Option Addr) (c0 : Nat) (l0 : List (List Int)) (r : Bool) (w : World) (hr0 : Kd.C (Kd.slice 2 (Kd.int .i64)) w A0 l0.length l0) (hc0 : l0.length ≤ c0) (h : impl_arePrograms.f l0 = some r) :
    Calls Try.prog 63 #[.slice A0 l0.length c0] w fun e w' => e = .returned (.bool r) ∧ Below w.heap.size w w' := by
  obtain rfl : okProgs l0 = r := Option.some.inj h
  clear h
  have eg : ∀ args w, (callFunc 79 args).run Try.prog w = .ok (.enter 79 args) w := enters_of Try.func79 (by kernel_rfl) rfl
  have HC := Aside0.mk (slices_ContainsFunc_rows 79 #[] eg (fun x => !(okUses x)) A0 c0 l0 w hr0 (arePrograms_1.pred l0 w))
  have e : okProgs l0 = (decide (l0.length ≤ 4) && !(l0.any fun x => !(okUses x))) := by
    unfold okProgs
    rw [List.not_any_eq_all_not]; simp
  rw [e]
  clear hr0 hc0 eg e
  generalize (l0.any fun x => !(okUses x)) = q at HC ⊢
  by_cases h : (l0.length : Int) ≤ 4
  · have hd : decide (l0.length ≤ 4) = true := by simp; omega
    rw [hd]
    cases q
    all_goals
      go_enter Try.func63, Try.ntmps63
      go_wp2_with (go_at_call 78; refine HC.out.mono ?_; rintro e w' ⟨rfl, hb⟩; have HB1 := Aside0.mk hb; clear hb)
      go_ret
      exact ⟨rfl, HB1.out⟩
  · have hd : decide (l0.length ≤ 4) = false := by simp; omega
    rw [hd]
    go_enter Try.func63, Try.ntmps63
    go_wp2
    go_ret
    exact ⟨rfl, Below.refl _ _⟩
end Go.Proofs.Ytfiohpbinpbhcaa.Q
