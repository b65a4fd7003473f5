/- The plain law of FnExactBestShares: what it computes answers true; no conditions. -/
import Derived.Test.YtfiohpbinpbhcaaQx0
import Derived.Test.YtfiohpbinpbhcaaHlawBestShares
namespace Go.Proofs.Ytfiohpbinpbhcaa.Q
open Go.RowKit Go.Proofs.YtfiohpbinpbhcaaW.PrintWords Go.Proofs.YtfiohpbinpbhcaaW.PrintLast Go.Proofs.YtfiohpbinpbhcaaW.PrintMore
attribute [local go_sem] max2_int min2_int max_two min_two max_three min_three max_four min_four   -- for this text's walks alone
set_option linter.unusedVariables false
set_option linter.unusedSimpArgs false

def laws_FnExactBestShares.PureQ : Prop := ∀ (l0 : List (List Int)) (a1 : Int), l0.length ≤ 9223372036854775807 → (∀ y ∈ l0, y.length ≤ 9223372036854775807) → (Lit.int .i64 a1).wf = true → laws_FnExactBestShares.f l0 a1 = some true
end Go.Proofs.Ytfiohpbinpbhcaa.Q
namespace Go.Proofs.Ytfiohpbinpbhcaa.Pure
open Go.RowKit Go.Proofs.Ytfiohpbinpbhcaa.Q Go.Proofs.YtfiohpbinpbhcaaW.PrintWords
theorem FnExactBestShares : laws_FnExactBestShares.PureQ := by
  intro l0 a1
  intros
  rfl
end Go.Proofs.Ytfiohpbinpbhcaa.Pure
