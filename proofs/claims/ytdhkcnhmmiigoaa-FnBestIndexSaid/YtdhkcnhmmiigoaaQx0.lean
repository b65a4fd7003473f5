/- The answers of functions of the program as plain Lean functions, with the proof that the Go code comes to them; no conditions. Written by our program sprint.py over the kit's printer, for this claim. -/
import Derived.Test.YtdhkcnhmmiigoaaProg
import Derived.Below
import Derived.Deep.Draws
import Derived.Deep.AppendLies
import Derived.Maps.AppendAt
import Derived.OwnWalk
import Derived.Laws.BytesArg
import Derived.Laws.MakeOwn
import Derived.Laws.OwnMore
import Derived.Deep.OwnRows
import Derived.Tactics
import Derived.Lib.ConvBytes
import Derived.Laws.Slices
import Derived.WalkKit
import Derived.KernelRfl
import Derived.RowKit3
import Derived.Deep.LoopGhost
import Derived.Deep.QuietTactic
import Derived.BigQuiet
import Derived.WideLaws
import Derived.Deep.DeepCutAuto
import Derived.Deep.CutBlock
import Derived.Deep.RegionHeld3
import Derived.Laws.Rows
import Derived.Lib.AppendStr
import Derived.ArgAppend
import Derived.Laws.IdiomCopy
import Derived.OrdersHeld
import Derived.Laws.BitsLemmas
import Derived.RowKit
import Derived.Test.YtdhkcnhmmiigoaaWWords
import Derived.Test.YtdhkcnhmmiigoaaWLast
import Derived.Test.YtdhkcnhmmiigoaaWTab
import Derived.Test.YtdhkcnhmmiigoaaWFour
import Derived.Test.YtdhkcnhmmiigoaaWQPut
import Derived.Test.YtdhkcnhmmiigoaaWApart
import Derived.Test.YtdhkcnhmmiigoaaWArr
import Derived.Test.YtdhkcnhmmiigoaaWZeros
import Derived.Test.YtdhkcnhmmiigoaaWFoot
import Derived.Test.YtdhkcnhmmiigoaaWKept
import Derived.Test.YtdhkcnhmmiigoaaWShare
import Derived.Test.YtdhkcnhmmiigoaaWN
import Derived.Test.YtdhkcnhmmiigoaaWFootNe
import Derived.Test.YtdhkcnhmmiigoaaWAt
import Derived.Test.YtdhkcnhmmiigoaaWEqStruct
import Derived.Test.YtdhkcnhmmiigoaaWRepsOne
import Derived.Test.YtdhkcnhmmiigoaaWInv
import Derived.Test.YtdhkcnhmmiigoaaWInvWords
import Derived.Test.YtdhkcnhmmiigoaaWGuard
import Derived.Test.YtdhkcnhmmiigoaaWNEv
import Derived.Test.YtdhkcnhmmiigoaaWMore
namespace Go.Proofs.Ytdhkcnhmmiigoaa.Q
open Go.RowKit Go.Proofs.YtdhkcnhmmiigoaaW.PrintWords Go.Proofs.YtdhkcnhmmiigoaaW.PrintLast Go.Proofs.YtdhkcnhmmiigoaaW.PrintMore
attribute [local go_sem] max2_int min2_int max_two min_two max_three min_three max_four min_four   -- for this text's walks alone
set_option linter.unusedVariables false
set_option linter.unusedSimpArgs false



def errW : Option Int → Value
  | none => .nilIface
  | some c => .iface 0 (.int .i64 c)
theorem errW_none : errW none = .nilIface := rfl
theorem errW_some (c : Int) : errW (some c) = .iface 0 (.int .i64 c) := rfl

theorem info2 : (Try.prog.info? 2).map (fun i => (i.zero, i.size, i.bytes)) = some (some (.int .i64 0), 1, 8) := by kernel_rfl
-- the values' own types

end Go.Proofs.Ytdhkcnhmmiigoaa.Q
