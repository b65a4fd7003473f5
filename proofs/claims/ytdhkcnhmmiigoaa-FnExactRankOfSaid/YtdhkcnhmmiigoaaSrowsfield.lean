/- The rows of an index's value; no conditions. -/
import Derived.Test.YtdhkcnhmmiigoaaQx0
namespace Go.Proofs.Ytdhkcnhmmiigoaa.Q
open Go.RowKit Go.Proofs.YtdhkcnhmmiigoaaW.PrintWords Go.Proofs.YtdhkcnhmmiigoaaW.PrintLast Go.Proofs.YtdhkcnhmmiigoaaW.PrintMore
attribute [local go_sem] max2_int min2_int max_two min_two max_three min_three max_four min_four   -- for this text's walks alone
set_option linter.unusedVariables false
set_option linter.unusedSimpArgs false

theorem run_rowsField (v : Value) (w : World) : (Sem.run Try.prog (Instr.field 26 (Value.agg #[v]) 0) w) = .ok v w := by kernel_rfl
end Go.Proofs.Ytdhkcnhmmiigoaa.Q
