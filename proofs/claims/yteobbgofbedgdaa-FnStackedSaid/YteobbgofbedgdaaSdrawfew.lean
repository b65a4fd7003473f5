/- Draws of few uses; no conditions beyond those written. -/
import Derived.Test.YteobbgofbedgdaaQx0
import Derived.Test.YteobbgofbedgdaaQx2
import Derived.Test.YteobbgofbedgdaaSusesimpl
import Derived.Test.YteobbgofbedgdaaSbase
import Derived.Test.YteobbgofbedgdaaSsetldef
namespace Go.Proofs.Yteobbgofbedgdaa.Q
open Go.RowKit Go.Proofs.YteobbgofbedgdaaW.PrintWords Go.Proofs.YteobbgofbedgdaaW.PrintLast Go.Proofs.YteobbgofbedgdaaW.PrintMore
attribute [local go_sem] max2_int min2_int max_two min_two max_three min_three max_four min_four   -- for this text's walks alone
set_option linter.unusedVariables false
set_option linter.unusedSimpArgs false

theorem few_l1 (l : List Int) (hb : Bytes l) (base : List Int) (h1 : 1 ≤ base.length) (h2 : base.length ≤ 200) (d : Nat) : ∀ (out : List Int) (a : Nat) (sd : Int), (∀ x ∈ out, x ∈ base) → out.length + d ≤ 1000000 → a + d ≤ 1000000000000 →
    ∃ (r : List Int) (a' : Nat) (s : Int), Ev (fun k => spec_l02DrawFew.l1 k (d : Int) base out l (a : Int) sd) (r, (a' : Int), s) ∧ r.length = out.length + d ∧ (∀ x ∈ r, x ∈ base) ∧ a' ≤ a + d := by
  induction d with
  | zero =>
    intro out a sd ho hl ha
    refine ⟨out, a, sd, Ev.succ ?_, by omega, ho, by omega⟩
    simp only [spec_l02DrawFew.l1]
    exact Ev.ite_neg (by omega) (Ev.now _)
  | succ d ih =>
    intro out a sd ho hl ha
    obtain ⟨x, a1, s, e, hx, ha1⟩ := among_ok l hb a sd base h1 h2 (by omega)
    obtain ⟨r, a2, s2, e2, hr, hm, ha2⟩ := ih (out ++ [x]) a1 s (by intro y hy; rcases List.mem_append.1 hy with h | h; exact ho y h; rw [List.mem_singleton.1 h]; exact hx) (by rw [List.length_append, List.length_singleton]; omega) (by omega)
    refine ⟨r, a2, s2, Ev.succ ?_, by rw [hr, List.length_append, List.length_singleton]; omega, hm, by omega⟩
    simp only [spec_l02DrawFew.l1]
    refine Ev.ite_pos (by omega) (Ev.cbind e (Ev.ite_pos (by omega) ?_))
    have : wrap64 (((d + 1 : Nat) : Int) - 1) = (d : Int) := by rw [wrap64_id (by omega) (by omega)]; omega
    rw [this]
    exact e2
theorem few_l0 (l : List Int) (hb : Bytes l) (n kinds : Nat) (hk1 : 1 ≤ kinds) (hk : kinds ≤ 200) (hn : n ≤ 1000000) (d : Nat) : ∀ (base : List Int) (a : Nat) (sd : Int), base.length + d = kinds → (∀ x ∈ base, 0 ≤ x ∧ x ≤ 63) → a + d + n ≤ 1000000000000 →
    ∃ (r : List Int) (a' : Nat) (s : Int), Ev (fun k => spec_l02DrawFew.l0 k (n : Int) (kinds : Int) base (base.length : Int) l (a : Int) sd) (r, (a' : Int), s) ∧ r.length = n ∧ (∀ x ∈ r, 0 ≤ x ∧ x ≤ 63) ∧ a' ≤ a + d + n := by
  induction d with
  | zero =>
    intro base a sd hc hm ha
    obtain ⟨r, a2, s2, e2, hr, hm2, ha2⟩ := few_l1 l hb base (by omega) (by omega) n [] a sd (by simp) (by simp; omega) (by omega)
    refine ⟨r, a2, s2, Ev.succ ?_, by rw [hr]; simp, fun x hx => hm x (hm2 x hx), by omega⟩
    simp only [spec_l02DrawFew.l0]
    exact Ev.ite_neg (by omega) e2
  | succ d ih =>
    intro base a sd hc hm ha
    obtain ⟨x, a1, s, e, hx, ha1⟩ := pick_ok l hb a sd 64 (by omega) (by omega) (by omega)
    obtain ⟨r, a2, s2, e2, hr, hm2, ha2⟩ := ih (base ++ [(x : Int)]) a1 s (by rw [List.length_append, List.length_singleton]; omega) (by intro y hy; rcases List.mem_append.1 hy with h | h; exact hm y h; rw [List.mem_singleton.1 h]; omega) (by omega)
    refine ⟨r, a2, s2, Ev.succ ?_, hr, hm2, by omega⟩
    simp only [spec_l02DrawFew.l0]
    refine Ev.ite_pos (by omega) (Ev.cbind e (Ev.ite_pos (by omega) ?_))
    rw [wrap64_succ (by omega)]
    rw [List.length_append, List.length_singleton] at e2
    exact e2
theorem few_ok (l : List Int) (hb : Bytes l) (a : Nat) (sd : Int) (n kinds : Nat) (hk1 : 1 ≤ kinds) (hk : kinds ≤ 200) (hn : n ≤ 1000000) (ha : a ≤ 1000000000) :
    ∃ (r : List Int) (a' : Nat) (s : Int), Ev (fun k => spec_l02DrawFew.f k l (a : Int) sd (n : Int) (kinds : Int)) (r, (a' : Int), s) ∧ r.length = n ∧ (∀ x ∈ r, 0 ≤ x ∧ x ≤ 63) ∧ a' ≤ a + kinds + n := by
  unfold spec_l02DrawFew.f
  exact few_l0 l hb n kinds hk1 hk hn kinds [] a sd (by simp) (by simp) (by omega)
end Go.Proofs.Yteobbgofbedgdaa.Q
