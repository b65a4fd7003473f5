/- The plain law of FnExactValidRanks: what it computes answers true; no conditions. -/
import Derived.Test.YteobbgofbedgdaaQx0
import Derived.Test.YteobbgofbedgdaaQx14
import Derived.Test.YteobbgofbedgdaaQx25
import Derived.Test.YteobbgofbedgdaaSbase
import Derived.Test.YteobbgofbedgdaaSranks
import Derived.Test.YteobbgofbedgdaaSwords
namespace Go.Proofs.Yteobbgofbedgdaa.Q
open Go.RowKit Go.Proofs.YteobbgofbedgdaaW.PrintWords Go.Proofs.YteobbgofbedgdaaW.PrintLast Go.Proofs.YteobbgofbedgdaaW.PrintMore
attribute [local go_sem] max2_int min2_int max_two min_two max_three min_three max_four min_four   -- for this text's walks alone
set_option linter.unusedVariables false
set_option linter.unusedSimpArgs false

def laws_FnExactValidRanks.PureQ : Prop := ∀ (l0 : List Int), l0.length ≤ 9223372036854775807 → ∃ k, laws_FnExactValidRanks.f k l0 = some true
end Go.Proofs.Yteobbgofbedgdaa.Q
namespace Go.Proofs.Yteobbgofbedgdaa.Pure
open Go.RowKit Go.Proofs.Yteobbgofbedgdaa.Q Go.Proofs.YteobbgofbedgdaaW.PrintWords
theorem bothValidRanks (l : List Int) (h : l.length ≤ 1048576) : ∃ b, Ev (fun k => spec_ValidRanks.f k l) b ∧ Ev (fun _ => impl_ValidRanks.f l) b := by
  unfold spec_ValidRanks.f
  exact ⟨okRanks l, Ev.bind (ev_l04Ranks l (by omega)) (Ev.now _), Ev.const (impl_ValidRanks_f l)⟩
theorem FnExactValidRanks : laws_FnExactValidRanks.PureQ := by
  intro l0
  intros
  refine Ev.rounds (g := fun k => laws_FnExactValidRanks.f k l0) ?_
  unfold laws_FnExactValidRanks.f
  by_cases cl0 : (l0.length : Int) > 1048576
  · exact Ev.ite_pos cl0 (Ev.now _)
  refine Ev.ite_neg cl0 ?_
  obtain ⟨b, es, ei⟩ := bothValidRanks l0 (by omega)
  have etl0 := ev_toInt64S l0 (by omega)
  have eql0 := ev_eqInt64S_same l0 (by omega)
  repeat' first
    | exact Ev.now _
    | (with_reducible refine Ev.bind es ?_)
    | (with_reducible refine Ev.bind ei ?_)
    | (with_reducible refine Ev.bind etl0 ?_)
    | (with_reducible refine Ev.bind eql0 ?_)
    | (with_reducible refine Ev.ite_pos (by first | rfl | omega | (dsimp only; omega)) ?_)
    | (with_reducible refine Ev.ite_neg (by first | omega | (dsimp only; omega) | (simp; done) | (simp; omega)) ?_)
end Go.Proofs.Yteobbgofbedgdaa.Pure
