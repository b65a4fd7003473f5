/- The plain law of FnBestShares: what it computes answers true; no conditions. -/
import Derived.Test.YtfiohpbinpbhcaaQx0
import Derived.Test.YtfiohpbinpbhcaaQx1
import Derived.Test.YtfiohpbinpbhcaaQx3
import Derived.Test.YtfiohpbinpbhcaaSbase
import Derived.Test.YtfiohpbinpbhcaaSbsbest
import Derived.Test.YtfiohpbinpbhcaaSdraw
import Derived.Test.YtfiohpbinpbhcaaSbsboth
import Derived.Test.YtfiohpbinpbhcaaSidxf
import Derived.Test.YtfiohpbinpbhcaaSokuses
import Derived.Test.YtfiohpbinpbhcaaSr8sum
namespace Go.Proofs.Ytfiohpbinpbhcaa.Q
open Go.RowKit Go.Proofs.YtfiohpbinpbhcaaW.PrintWords Go.Proofs.YtfiohpbinpbhcaaW.PrintLast Go.Proofs.YtfiohpbinpbhcaaW.PrintMore
attribute [local go_sem] max2_int min2_int max_two min_two max_three min_three max_four min_four   -- for this text's walks alone
set_option linter.unusedVariables false
set_option linter.unusedSimpArgs false

def laws_FnBestShares.PureQ : Prop := ∀ (l0 : List Int) (l1 : List Int), l0.length ≤ 9223372036854775807 → (∀ y ∈ l0, (Lit.int .u8 y).wf = true) → l1.length ≤ 9223372036854775807 → (∀ y ∈ l1, (Lit.int .u8 y).wf = true) → ∃ k, laws_FnBestShares.f k l0 l1 = some true
end Go.Proofs.Ytfiohpbinpbhcaa.Q
namespace Go.Proofs.Ytfiohpbinpbhcaa.Pure
open Go.RowKit Go.Proofs.Ytfiohpbinpbhcaa.Q Go.Proofs.YtfiohpbinpbhcaaW.PrintWords
theorem wraps_bs (T x y : Nat) (hT : T ≤ 100) (hx : x ≤ T) (hy : y ≤ T - x) : wrap64 ((T : Int) + 1) = ((T + 1 : Nat) : Int) ∧ wrap64 ((T : Int) - (x : Int)) = ((T - x : Nat) : Int) ∧ wrap64 (((T - x : Nat) : Int) + 1) = ((T - x + 1 : Nat) : Int) ∧ wrap64 (((T - x : Nat) : Int) - (y : Int)) = ((T - x - y : Nat) : Int) := by
  refine ⟨wrap64_succ (by omega), ?_, wrap64_succ (by omega), ?_⟩
  · rw [wrap64_id (by omega) (by omega)]; omega
  · rw [wrap64_id (by omega) (by omega)]; omega
theorem FnBestShares : laws_FnBestShares.PureQ := by
  intro l0 l1 h0 b0 h1 b1
  have B0 := Bytes.of b0
  have B1 := Bytes.of b1
  refine Ev.rounds (g := fun k => laws_FnBestShares.f k l0 l1) ?_
  unfold laws_FnBestShares.f
  by_cases hlong : laws_r8Long.f l0 l1 = some true
  · exact Ev.cbind hlong (Ev.ite_pos rfl (Ev.now _))
  · obtain ⟨hlong', hl0, hl1⟩ := r8Long_no l0 l1 hlong
    obtain ⟨u1, e1, o1, _⟩ := ev_R8Uses l0 B0
    obtain ⟨u2, e2, o2, _⟩ := ev_R8Uses l1 B1
    obtain ⟨u3, e3, o3, _⟩ := ev_R8Near l0 B0
    obtain ⟨T, eT, hT⟩ := r8At_ok l1 B1 0 14 (by omega)
    obtain ⟨a, b, c, m, hs, hI, hM, hall⟩ := best3 u1 u2 u3 T o1 o2 o3 (by omega)
    obtain ⟨x, ex, hx⟩ := r8At_ok l1 B1 1 (T + 1) (by omega)
    obtain ⟨y, ey, hy⟩ := r8At_ok l1 B1 2 (T - x + 1) (by omega)
    obtain ⟨o, hO, hle⟩ := hall x y (T - x - y) (by omega)
    have h3 := sum3B a b c (by omega)
    have hsum : Ev (fun k => laws_r8Sum.f k [(a : Int), (b : Int), (c : Int)]) (T : Int) := Ev.eq (ev_r8Sum [(a : Int), (b : Int), (c : Int)] (by simp)) (h3.trans (congrArg Nat.cast hs))
    clear h3
    obtain ⟨w1, w2, w3, w4⟩ := wraps_bs T x y (by omega) (by omega) (by omega)
    refine Ev.cbind hlong' (Ev.ite_neg (by simp) ?_)
    with_reducible refine Ev.bind e1 ?_
    with_reducible refine Ev.bind e2 ?_
    with_reducible refine Ev.bind e3 ?_
    simp only [Option.bind_some]
    with_reducible refine Ev.cbind eT ?_
    with_reducible refine Ev.cbind hI ?_
    with_reducible refine Ev.cbind hM ?_
    rw [w1]
    with_reducible refine Ev.cbind ex ?_
    rw [w2, w3]
    with_reducible refine Ev.cbind ey ?_
    rw [w4]
    with_reducible refine Ev.cbind hO ?_
    dsimp only
    refine Ev.ite_pos rfl (Ev.ite_pos rfl (Ev.ite_pos rfl (Ev.ite_pos (by simp) ?_)))
    with_reducible refine Ev.bind hsum ?_
    exact Ev.ite_pos rfl (Ev.ite_pos rfl (Ev.eq (Ev.now _) (decide_eq_true hle)))
end Go.Proofs.Ytfiohpbinpbhcaa.Pure
