/- The answers of functions of the program as plain Lean functions, with the proof that the Go code comes to them; no conditions. Written by our program sprint.py over the kit's printer, for this claim. -/
import Derived.Test.YthnpcalkcjkdhaaDoorProg
import Derived.Below
import Derived.Deep.Draws
import Derived.Deep.AppendLies
import Derived.Maps.AppendAt
import Derived.OwnWalk
import Derived.Laws.BytesArg
import Derived.Laws.MakeOwn
import Derived.Laws.OwnMore
import Derived.Deep.OwnRows
import Derived.Tactics
import Derived.Lib.ConvBytes
import Derived.Laws.Slices
import Derived.WalkKit
import Derived.KernelRfl
import Derived.RowKit3
import Derived.Deep.LoopGhost
import Derived.Deep.QuietTactic
import Derived.BigQuiet
import Derived.WideLaws
import Derived.Deep.DeepCutAuto
import Derived.Deep.CutBlock
import Derived.Deep.RegionHeld3
import Derived.Laws.Rows
import Derived.Lib.AppendStr
import Derived.ArgAppend
import Derived.Laws.IdiomCopy
import Derived.OrdersHeld
import Derived.Laws.BitsLemmas
import Derived.RowKit
import Derived.Test.YthnpcalkcjkdhaaDoorWWords
import Derived.Test.YthnpcalkcjkdhaaDoorWLast
import Derived.Test.YthnpcalkcjkdhaaDoorWTab
import Derived.Test.YthnpcalkcjkdhaaDoorWFour
import Derived.Test.YthnpcalkcjkdhaaDoorWQPut
import Derived.Test.YthnpcalkcjkdhaaDoorWApart
import Derived.Test.YthnpcalkcjkdhaaDoorWArr
import Derived.Test.YthnpcalkcjkdhaaDoorWZeros
import Derived.Test.YthnpcalkcjkdhaaDoorWFoot
import Derived.Test.YthnpcalkcjkdhaaDoorWKept
import Derived.Test.YthnpcalkcjkdhaaDoorWShare
import Derived.Test.YthnpcalkcjkdhaaDoorWN
import Derived.Test.YthnpcalkcjkdhaaDoorWFootNe
import Derived.Test.YthnpcalkcjkdhaaDoorWAt
import Derived.Test.YthnpcalkcjkdhaaDoorWEqStruct
import Derived.Test.YthnpcalkcjkdhaaDoorWRepsOne
import Derived.Test.YthnpcalkcjkdhaaDoorWInv
import Derived.Test.YthnpcalkcjkdhaaDoorWInvWords
import Derived.Test.YthnpcalkcjkdhaaDoorWGuard
import Derived.Test.YthnpcalkcjkdhaaDoorWNEv
import Derived.Test.YthnpcalkcjkdhaaDoorWMore
namespace Go.Proofs.YthnpcalkcjkdhaaDoor.Q
open Go.RowKit Go.Proofs.YthnpcalkcjkdhaaDoorW.PrintWords Go.Proofs.YthnpcalkcjkdhaaDoorW.PrintLast Go.Proofs.YthnpcalkcjkdhaaDoorW.PrintMore
attribute [local go_sem] max2_int min2_int max_two min_two max_three min_three max_four min_four   -- for this text's walks alone
set_option linter.unusedVariables false
set_option linter.unusedSimpArgs false



def errW : Option Int → Value
  | none => .nilIface
  | some c => .iface 0 (.int .i64 c)
theorem errW_none : errW none = .nilIface := rfl
theorem errW_some (c : Int) : errW (some c) = .iface 0 (.int .i64 c) := rfl

theorem info5 : (Tryd.prog.info? 5).map (fun i => (i.zero, i.size, i.bytes)) = some (some (.int .u8 0), 1, 1) := by kernel_rfl
theorem info9 : (Tryd.prog.info? 9).map (fun i => (i.zero, i.size, i.bytes)) = some (some (.string ⟨#[]⟩), 1, 16) := by kernel_rfl
-- the values' own types

end Go.Proofs.YthnpcalkcjkdhaaDoor.Q
