/- The answers of functions of the program as plain Lean functions, with the proof that the Go code comes to them; no conditions. Written by our program sprint.py over the kit's printer, for this claim. -/
import Derived.Test.YtdhkcnhmmiigoaaGreatDoorProg
import Derived.Below
import Derived.Deep.Draws
import Derived.Deep.AppendLies
import Derived.Maps.AppendAt
import Derived.OwnWalk
import Derived.Laws.BytesArg
import Derived.Laws.MakeOwn
import Derived.Laws.OwnMore
import Derived.Deep.OwnRows
import Derived.Tactics
import Derived.Lib.ConvBytes
import Derived.Laws.Slices
import Derived.WalkKit
import Derived.KernelRfl
import Derived.RowKit3
import Derived.Deep.LoopGhost
import Derived.Deep.QuietTactic
import Derived.BigQuiet
import Derived.WideLaws
import Derived.Deep.DeepCutAuto
import Derived.Deep.CutBlock
import Derived.Deep.RegionHeld3
import Derived.Laws.Rows
import Derived.Lib.AppendStr
import Derived.ArgAppend
import Derived.Laws.IdiomCopy
import Derived.OrdersHeld
import Derived.Laws.BitsLemmas
import Derived.RowKit
import Derived.Test.YtdhkcnhmmiigoaaGreatDoorWWords
import Derived.Test.YtdhkcnhmmiigoaaGreatDoorWLast
import Derived.Test.YtdhkcnhmmiigoaaGreatDoorWTab
import Derived.Test.YtdhkcnhmmiigoaaGreatDoorWFour
import Derived.Test.YtdhkcnhmmiigoaaGreatDoorWQPut
import Derived.Test.YtdhkcnhmmiigoaaGreatDoorWApart
import Derived.Test.YtdhkcnhmmiigoaaGreatDoorWArr
import Derived.Test.YtdhkcnhmmiigoaaGreatDoorWZeros
import Derived.Test.YtdhkcnhmmiigoaaGreatDoorWFoot
import Derived.Test.YtdhkcnhmmiigoaaGreatDoorWKept
import Derived.Test.YtdhkcnhmmiigoaaGreatDoorWShare
import Derived.Test.YtdhkcnhmmiigoaaGreatDoorWN
import Derived.Test.YtdhkcnhmmiigoaaGreatDoorWFootNe
import Derived.Test.YtdhkcnhmmiigoaaGreatDoorWAt
import Derived.Test.YtdhkcnhmmiigoaaGreatDoorWEqStruct
import Derived.Test.YtdhkcnhmmiigoaaGreatDoorWRepsOne
import Derived.Test.YtdhkcnhmmiigoaaGreatDoorWInv
import Derived.Test.YtdhkcnhmmiigoaaGreatDoorWInvWords
import Derived.Test.YtdhkcnhmmiigoaaGreatDoorWGuard
import Derived.Test.YtdhkcnhmmiigoaaGreatDoorWNEv
import Derived.Test.YtdhkcnhmmiigoaaGreatDoorWMore
namespace Go.Proofs.YtdhkcnhmmiigoaaGreatDoor.Q
open Go.RowKit Go.Proofs.YtdhkcnhmmiigoaaGreatDoorW.PrintWords Go.Proofs.YtdhkcnhmmiigoaaGreatDoorW.PrintLast Go.Proofs.YtdhkcnhmmiigoaaGreatDoorW.PrintMore
attribute [local go_sem] max2_int min2_int max_two min_two max_three min_three max_four min_four   -- for this text's walks alone
set_option linter.unusedVariables false
set_option linter.unusedSimpArgs false



def errW : Option Int → Value
  | none => .nilIface
  | some c => .iface 0 (.int .i64 c)
theorem errW_none : errW none = .nilIface := rfl
theorem errW_some (c : Int) : errW (some c) = .iface 0 (.int .i64 c) := rfl

theorem info2 : (Tryz.prog.info? 2).map (fun i => (i.zero, i.size, i.bytes)) = some (some (.int .i64 0), 1, 8) := by kernel_rfl
theorem info5 : (Tryz.prog.info? 5).map (fun i => (i.zero, i.size, i.bytes)) = some (some (.int .u8 0), 1, 1) := by kernel_rfl
theorem info9 : (Tryz.prog.info? 9).map (fun i => (i.zero, i.size, i.bytes)) = some (some (.string ⟨#[]⟩), 1, 16) := by kernel_rfl
-- the values' own types

end Go.Proofs.YtdhkcnhmmiigoaaGreatDoor.Q
