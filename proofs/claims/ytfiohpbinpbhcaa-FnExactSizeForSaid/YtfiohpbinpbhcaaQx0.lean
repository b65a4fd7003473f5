/- The answers of functions of the program as plain Lean functions, with the proof that the Go code comes to them; no conditions. Written by our program sprint.py over the kit's printer, for this claim. -/
import Derived.Test.YtfiohpbinpbhcaaProg
import Derived.Below
import Derived.Deep.Draws
import Derived.Deep.AppendLies
import Derived.Maps.AppendAt
import Derived.OwnWalk
import Derived.Laws.BytesArg
import Derived.Laws.MakeOwn
import Derived.Laws.OwnMore
import Derived.Deep.OwnRows
import Derived.Tactics
import Derived.Lib.ConvBytes
import Derived.Laws.Slices
import Derived.WalkKit
import Derived.KernelRfl
import Derived.RowKit3
import Derived.Deep.LoopGhost
import Derived.Deep.QuietTactic
import Derived.BigQuiet
import Derived.WideLaws
import Derived.Deep.DeepCutAuto
import Derived.Deep.CutBlock
import Derived.Deep.RegionHeld3
import Derived.Laws.Rows
import Derived.Lib.AppendStr
import Derived.ArgAppend
import Derived.Laws.IdiomCopy
import Derived.OrdersHeld
import Derived.Laws.BitsLemmas
import Derived.RowKit
import Derived.Test.YtfiohpbinpbhcaaWWords
import Derived.Test.YtfiohpbinpbhcaaWLast
import Derived.Test.YtfiohpbinpbhcaaWTab
import Derived.Test.YtfiohpbinpbhcaaWFour
import Derived.Test.YtfiohpbinpbhcaaWQPut
import Derived.Test.YtfiohpbinpbhcaaWApart
import Derived.Test.YtfiohpbinpbhcaaWArr
import Derived.Test.YtfiohpbinpbhcaaWZeros
import Derived.Test.YtfiohpbinpbhcaaWFoot
import Derived.Test.YtfiohpbinpbhcaaWKept
import Derived.Test.YtfiohpbinpbhcaaWShare
import Derived.Test.YtfiohpbinpbhcaaWN
import Derived.Test.YtfiohpbinpbhcaaWFootNe
import Derived.Test.YtfiohpbinpbhcaaWAt
import Derived.Test.YtfiohpbinpbhcaaWEqStruct
import Derived.Test.YtfiohpbinpbhcaaWRepsOne
import Derived.Test.YtfiohpbinpbhcaaWInv
import Derived.Test.YtfiohpbinpbhcaaWInvWords
import Derived.Test.YtfiohpbinpbhcaaWGuard
import Derived.Test.YtfiohpbinpbhcaaWNEv
import Derived.Test.YtfiohpbinpbhcaaWMore
namespace Go.Proofs.Ytfiohpbinpbhcaa.Q
open Go.RowKit Go.Proofs.YtfiohpbinpbhcaaW.PrintWords Go.Proofs.YtfiohpbinpbhcaaW.PrintLast Go.Proofs.YtfiohpbinpbhcaaW.PrintMore
attribute [local go_sem] max2_int min2_int max_two min_two max_three min_three max_four min_four   -- for this text's walks alone
set_option linter.unusedVariables false
set_option linter.unusedSimpArgs false



def errW : Option Int → Value
  | none => .nilIface
  | some c => .iface 0 (.int .i64 c)
theorem errW_none : errW none = .nilIface := rfl
theorem errW_some (c : Int) : errW (some c) = .iface 0 (.int .i64 c) := rfl

theorem info2 : (Try.prog.info? 2).map (fun i => (i.zero, i.size, i.bytes)) = some (some (.int .i64 0), 1, 8) := by kernel_rfl
-- the values' own types

end Go.Proofs.Ytfiohpbinpbhcaa.Q
