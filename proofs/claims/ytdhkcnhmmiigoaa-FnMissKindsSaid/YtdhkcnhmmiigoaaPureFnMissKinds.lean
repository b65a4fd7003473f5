/- The plain law of FnMissKinds: what it computes answers true; no conditions. -/
import Derived.Test.YtdhkcnhmmiigoaaQx0
import Derived.Test.YtdhkcnhmmiigoaaHlawMissKinds
import Derived.Test.YtdhkcnhmmiigoaaSsortl
namespace Go.Proofs.Ytdhkcnhmmiigoaa.Q
open Go.RowKit Go.Proofs.YtdhkcnhmmiigoaaW.PrintWords Go.Proofs.YtdhkcnhmmiigoaaW.PrintLast Go.Proofs.YtdhkcnhmmiigoaaW.PrintMore
attribute [local go_sem] max2_int min2_int max_two min_two max_three min_three max_four min_four   -- for this text's walks alone
set_option linter.unusedVariables false
set_option linter.unusedSimpArgs false

def laws_FnMissKinds.PureQ : Prop := ∀ (l0 : List Int) (l1 : List Int), l0.length ≤ 9223372036854775807 → (∀ y ∈ l0, (Lit.int .u8 y).wf = true) → l1.length ≤ 9223372036854775807 → (∀ y ∈ l1, (Lit.int .u8 y).wf = true) → laws_FnMissKinds.f l0 l1 = some true
end Go.Proofs.Ytdhkcnhmmiigoaa.Q
namespace Go.Proofs.Ytdhkcnhmmiigoaa.Pure
open Go.RowKit Go.Proofs.Ytdhkcnhmmiigoaa.Q Go.Proofs.YtdhkcnhmmiigoaaW.PrintWords
theorem FnMissKinds : laws_FnMissKinds.PureQ := by
  intro l0 l1 h0 b0 h1 b1
  exact lawOf2_of b0 b1
end Go.Proofs.Ytdhkcnhmmiigoaa.Pure
