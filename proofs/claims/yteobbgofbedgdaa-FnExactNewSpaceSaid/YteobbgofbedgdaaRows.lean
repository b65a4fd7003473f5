/-
  No cell of these rows narrows 'for every input' (looked for: loops, veiled, ifaces, maps, wideKeys, modest, calm, conditions, laid).
  DERIVED. THE GIVEN ROWS OF THIS SEAT. 8 by the template 'for every input the law returns true; each argument reads behind the call as it read before'; 0 by the template 'total and deterministic' (their statements: YteobbgofbedgdaaTotals.lean).
  GIVEN WITH THE SEED: the statements are not yours to turn. If you find one false, say at which input.
  Laid BY PROGRAM, IN A SANDBOX (cutbox-rows.mjs): the forced cells as the released guide's own fill.sh prints them over the translation 453c96743bf02e3d… (all of the seat's roots in one cut). By AI agents, Wed Nov 11 2026. No macro, syntax, notation, axiom, sorry.
-/
import Derived.Test.YteobbgofbedgdaaChecked
import GoSem.Claim
import GoSem.ClaimJoined
import GoSem.ClaimMapViews
import Derived.JoinedTies
import Derived.KernelRfl
namespace Go.Proofs.Yteobbgofbedgdaa
/- THE CELL 'sum', in the pinned program and in every row, IS THE sha256 OF THE DUMP (.gsa) THAT YteobbgofbedgdaaProg.lean LOADS. Nothing in Lean hashes anything: it is a label: what it is worth is what the hold of that sum in a sandbox is worth. -/
noncomputable def Try.pinned : Pinned := { name := "yteobbgofbedgdaa", sum := "453c96743bf02e3d0a44ab7721d188cfa742caca9f15a932c68663caab9ea138", checked := Try.checked }
namespace Rows
def none {H : Type} : Left H := { results := [], args := [] }

/-- 'laws.FnExactClockRun': WHATEVER THE INPUT: true; the input reads as it did. -/
def fnExactClockRunSpec : ChangeSpec := { name := "fnExactClockRun", fn := fun _ => fun
  | [d1, d2] => { results := [.lit (.bool true)], args := [d1, d2] }
  | _ => none }
def fnExactClockRunRow : OpenClaim := { program := "yteobbgofbedgdaa", sum := "453c96743bf02e3d0a44ab7721d188cfa742caca9f15a932c68663caab9ea138", func := "loop.example/g01112/laws.FnExactClockRun", spec := "fnExactClockRun", unfollowed := true, recurses := true, apart := false }
def FnExactClockRunSaid : Prop := fnExactClockRunRow.holds Try.pinned (OpenSpec.ofChange fnExactClockRunSpec)

/-- ITS FALSE NEIGHBOUR: 'it returns false'. Refute it at one input. -/
def fnExactClockRunWrong : ChangeSpec := { name := "fnExactClockRun", fn := fun _ => fun
  | [d1, d2] => { results := [.lit (.bool false)], args := [d1, d2] }
  | _ => none }
def FnExactClockRunWrongFalsely : Prop := fnExactClockRunRow.holds Try.pinned (OpenSpec.ofChange fnExactClockRunWrong)

/-- 'laws.FnExactNewSpace': WHATEVER THE INPUT: true; the input reads as it did. -/
def fnExactNewSpaceSpec : ChangeSpec := { name := "fnExactNewSpace", fn := fun _ => fun
  | [d] => { results := [.lit (.bool true)], args := [d] }
  | _ => none }
def fnExactNewSpaceRow : OpenClaim := { program := "yteobbgofbedgdaa", sum := "453c96743bf02e3d0a44ab7721d188cfa742caca9f15a932c68663caab9ea138", func := "loop.example/g01112/laws.FnExactNewSpace", spec := "fnExactNewSpace", apart := false }
def FnExactNewSpaceSaid : Prop := fnExactNewSpaceRow.holds Try.pinned (OpenSpec.ofChange fnExactNewSpaceSpec)

/-- ITS FALSE NEIGHBOUR: 'it returns false'. Refute it at one input. -/
def fnExactNewSpaceWrong : ChangeSpec := { name := "fnExactNewSpace", fn := fun _ => fun
  | [d] => { results := [.lit (.bool false)], args := [d] }
  | _ => none }
def FnExactNewSpaceWrongFalsely : Prop := fnExactNewSpaceRow.holds Try.pinned (OpenSpec.ofChange fnExactNewSpaceWrong)

/-- 'laws.FnExactBestCuts': WHATEVER THE INPUT: true; the input reads as it did. -/
def fnExactBestCutsSpec : ChangeSpec := { name := "fnExactBestCuts", fn := fun _ => fun
  | [d1, d2] => { results := [.lit (.bool true)], args := [d1, d2] }
  | _ => none }
def fnExactBestCutsRow : OpenClaim := { program := "yteobbgofbedgdaa", sum := "453c96743bf02e3d0a44ab7721d188cfa742caca9f15a932c68663caab9ea138", func := "loop.example/g01112/laws.FnExactBestCuts", spec := "fnExactBestCuts", unfollowed := true, recurses := true, apart := false }
def FnExactBestCutsSaid : Prop := fnExactBestCutsRow.holds Try.pinned (OpenSpec.ofChange fnExactBestCutsSpec)

/-- ITS FALSE NEIGHBOUR: 'it returns false'. Refute it at one input. -/
def fnExactBestCutsWrong : ChangeSpec := { name := "fnExactBestCuts", fn := fun _ => fun
  | [d1, d2] => { results := [.lit (.bool false)], args := [d1, d2] }
  | _ => none }
def FnExactBestCutsWrongFalsely : Prop := fnExactBestCutsRow.holds Try.pinned (OpenSpec.ofChange fnExactBestCutsWrong)

/-- 'laws.FnExactValidRanks': WHATEVER THE INPUT: true; the input reads as it did. -/
def fnExactValidRanksSpec : ChangeSpec := { name := "fnExactValidRanks", fn := fun _ => fun
  | [d] => { results := [.lit (.bool true)], args := [d] }
  | _ => none }
def fnExactValidRanksRow : OpenClaim := { program := "yteobbgofbedgdaa", sum := "453c96743bf02e3d0a44ab7721d188cfa742caca9f15a932c68663caab9ea138", func := "loop.example/g01112/laws.FnExactValidRanks", spec := "fnExactValidRanks", unfollowed := true, recurses := true, apart := false }
def FnExactValidRanksSaid : Prop := fnExactValidRanksRow.holds Try.pinned (OpenSpec.ofChange fnExactValidRanksSpec)

/-- ITS FALSE NEIGHBOUR: 'it returns false'. Refute it at one input. -/
def fnExactValidRanksWrong : ChangeSpec := { name := "fnExactValidRanks", fn := fun _ => fun
  | [d] => { results := [.lit (.bool false)], args := [d] }
  | _ => none }
def FnExactValidRanksWrongFalsely : Prop := fnExactValidRanksRow.holds Try.pinned (OpenSpec.ofChange fnExactValidRanksWrong)

/-- 'laws.FnExactRankStack': WHATEVER THE INPUT: true; the input reads as it did. -/
def fnExactRankStackSpec : ChangeSpec := { name := "fnExactRankStack", fn := fun _ => fun
  | [d1, d2] => { results := [.lit (.bool true)], args := [d1, d2] }
  | _ => none }
def fnExactRankStackRow : OpenClaim := { program := "yteobbgofbedgdaa", sum := "453c96743bf02e3d0a44ab7721d188cfa742caca9f15a932c68663caab9ea138", func := "loop.example/g01112/laws.FnExactRankStack", spec := "fnExactRankStack", unfollowed := true, recurses := true, apart := false }
def FnExactRankStackSaid : Prop := fnExactRankStackRow.holds Try.pinned (OpenSpec.ofChange fnExactRankStackSpec)

/-- ITS FALSE NEIGHBOUR: 'it returns false'. Refute it at one input. -/
def fnExactRankStackWrong : ChangeSpec := { name := "fnExactRankStack", fn := fun _ => fun
  | [d1, d2] => { results := [.lit (.bool false)], args := [d1, d2] }
  | _ => none }
def FnExactRankStackWrongFalsely : Prop := fnExactRankStackRow.holds Try.pinned (OpenSpec.ofChange fnExactRankStackWrong)

/-- 'laws.FnExactRankCurve': WHATEVER THE INPUT: true; the input reads as it did. -/
def fnExactRankCurveSpec : ChangeSpec := { name := "fnExactRankCurve", fn := fun _ => fun
  | [d1, d2, d3] => { results := [.lit (.bool true)], args := [d1, d2, d3] }
  | _ => none }
def fnExactRankCurveRow : OpenClaim := { program := "yteobbgofbedgdaa", sum := "453c96743bf02e3d0a44ab7721d188cfa742caca9f15a932c68663caab9ea138", func := "loop.example/g01112/laws.FnExactRankCurve", spec := "fnExactRankCurve", unfollowed := true, recurses := true, apart := false }
def FnExactRankCurveSaid : Prop := fnExactRankCurveRow.holds Try.pinned (OpenSpec.ofChange fnExactRankCurveSpec)

/-- ITS FALSE NEIGHBOUR: 'it returns false'. Refute it at one input. -/
def fnExactRankCurveWrong : ChangeSpec := { name := "fnExactRankCurve", fn := fun _ => fun
  | [d1, d2, d3] => { results := [.lit (.bool false)], args := [d1, d2, d3] }
  | _ => none }
def FnExactRankCurveWrongFalsely : Prop := fnExactRankCurveRow.holds Try.pinned (OpenSpec.ofChange fnExactRankCurveWrong)

/-- 'laws.FnExactRankContents': WHATEVER THE INPUT: true; the input reads as it did. -/
def fnExactRankContentsSpec : ChangeSpec := { name := "fnExactRankContents", fn := fun _ => fun
  | [d1, d2, d3] => { results := [.lit (.bool true)], args := [d1, d2, d3] }
  | _ => none }
def fnExactRankContentsRow : OpenClaim := { program := "yteobbgofbedgdaa", sum := "453c96743bf02e3d0a44ab7721d188cfa742caca9f15a932c68663caab9ea138", func := "loop.example/g01112/laws.FnExactRankContents", spec := "fnExactRankContents", unfollowed := true, recurses := true, apart := false }
def FnExactRankContentsSaid : Prop := fnExactRankContentsRow.holds Try.pinned (OpenSpec.ofChange fnExactRankContentsSpec)

/-- ITS FALSE NEIGHBOUR: 'it returns false'. Refute it at one input. -/
def fnExactRankContentsWrong : ChangeSpec := { name := "fnExactRankContents", fn := fun _ => fun
  | [d1, d2, d3] => { results := [.lit (.bool false)], args := [d1, d2, d3] }
  | _ => none }
def FnExactRankContentsWrongFalsely : Prop := fnExactRankContentsRow.holds Try.pinned (OpenSpec.ofChange fnExactRankContentsWrong)

/-- 'laws.FnStacked': WHATEVER THE INPUT: true; the input reads as it did. -/
def fnStackedSpec : ChangeSpec := { name := "fnStacked", fn := fun _ => fun
  | [d1, d2] => { results := [.lit (.bool true)], args := [d1, d2] }
  | _ => none }
def fnStackedRow : OpenClaim := { program := "yteobbgofbedgdaa", sum := "453c96743bf02e3d0a44ab7721d188cfa742caca9f15a932c68663caab9ea138", func := "loop.example/g01112/laws.FnStacked", spec := "fnStacked", unfollowed := true, recurses := true, apart := false }
def FnStackedSaid : Prop := fnStackedRow.holds Try.pinned (OpenSpec.ofChange fnStackedSpec)

/-- ITS FALSE NEIGHBOUR: 'it returns false'. Refute it at one input. -/
def fnStackedWrong : ChangeSpec := { name := "fnStacked", fn := fun _ => fun
  | [d1, d2] => { results := [.lit (.bool false)], args := [d1, d2] }
  | _ => none }
def FnStackedWrongFalsely : Prop := fnStackedRow.holds Try.pinned (OpenSpec.ofChange fnStackedWrong)

/- THE SECOND FORM. 'bulk': how many values and letters a reading holds, each counted each time it is reached (what is shared counts as often as it is met; a slice's spare places count too). A statement '..UptoSaid' is the law's where the arguments, and the package variables that the reading takes, are together of bulk at most 1048576: NARROWER than '..Said'. Prove '..Said' where nothing that the law and all that it calls make is longer than what came in: it says more and counts as full. Else prove '..UptoSaid'. A law counts once. -/
mutual
def uptoBulk {H : Type} : DataW H → Nat
  | .lit (.string bytes) => bytes.length + 1
  | .lit _ => 1
  | .nil => 1
  | .ptr d => uptoBulk d + 1
  | .slice elems spare => uptoBulkAll elems + uptoBulkAll spare + 1
  | .agg parts => uptoBulkAll parts + 1
  | .iface _ d => uptoBulk d + 1
  | .map entries => uptoBulkEntries entries + 1
  | .held _ => 1
def uptoBulkAll {H : Type} : List (DataW H) → Nat
  | [] => 0
  | d :: r => uptoBulk d + uptoBulkAll r
def uptoBulkEntries {H : Type} : List (Lit × DataW H) → Nat
  | [] => 0
  | x :: r => uptoBulkEntry x + uptoBulkEntries r
def uptoBulkEntry {H : Type} : Lit × DataW H → Nat
  | (.string bytes, d) => bytes.length + uptoBulk d + 1
  | (_, d) => uptoBulk d + 1
 end
def uptoSmall : (H : Type) → List (DataW H) → Bool := fun _ ds => decide (uptoBulkAll ds ≤ 1048576)
def OpenSpec.upto (s : _root_.Go.ChangeSpec) : _root_.Go.OpenSpec := { _root_.Go.OpenSpec.ofChange s with cond := some uptoSmall }

/-- 'laws.FnExactClockRun', WHERE WHAT IT READS IS OF BULK AT MOST 1048576: true; the input reads as it did. -/
def fnExactClockRunUptoRow : OpenClaim := { program := "yteobbgofbedgdaa", sum := "453c96743bf02e3d0a44ab7721d188cfa742caca9f15a932c68663caab9ea138", func := "loop.example/g01112/laws.FnExactClockRun", spec := "fnExactClockRun", unfollowed := true, recurses := true, apart := false, narrowed := true }
def FnExactClockRunUptoSaid : Prop := fnExactClockRunUptoRow.holds Try.pinned (OpenSpec.upto fnExactClockRunSpec)

/-- 'laws.FnExactNewSpace', WHERE WHAT IT READS IS OF BULK AT MOST 1048576: true; the input reads as it did. -/
def fnExactNewSpaceUptoRow : OpenClaim := { program := "yteobbgofbedgdaa", sum := "453c96743bf02e3d0a44ab7721d188cfa742caca9f15a932c68663caab9ea138", func := "loop.example/g01112/laws.FnExactNewSpace", spec := "fnExactNewSpace", apart := false, narrowed := true }
def FnExactNewSpaceUptoSaid : Prop := fnExactNewSpaceUptoRow.holds Try.pinned (OpenSpec.upto fnExactNewSpaceSpec)

/-- 'laws.FnExactBestCuts', WHERE WHAT IT READS IS OF BULK AT MOST 1048576: true; the input reads as it did. -/
def fnExactBestCutsUptoRow : OpenClaim := { program := "yteobbgofbedgdaa", sum := "453c96743bf02e3d0a44ab7721d188cfa742caca9f15a932c68663caab9ea138", func := "loop.example/g01112/laws.FnExactBestCuts", spec := "fnExactBestCuts", unfollowed := true, recurses := true, apart := false, narrowed := true }
def FnExactBestCutsUptoSaid : Prop := fnExactBestCutsUptoRow.holds Try.pinned (OpenSpec.upto fnExactBestCutsSpec)

/-- 'laws.FnExactValidRanks', WHERE WHAT IT READS IS OF BULK AT MOST 1048576: true; the input reads as it did. -/
def fnExactValidRanksUptoRow : OpenClaim := { program := "yteobbgofbedgdaa", sum := "453c96743bf02e3d0a44ab7721d188cfa742caca9f15a932c68663caab9ea138", func := "loop.example/g01112/laws.FnExactValidRanks", spec := "fnExactValidRanks", unfollowed := true, recurses := true, apart := false, narrowed := true }
def FnExactValidRanksUptoSaid : Prop := fnExactValidRanksUptoRow.holds Try.pinned (OpenSpec.upto fnExactValidRanksSpec)

/-- 'laws.FnExactRankStack', WHERE WHAT IT READS IS OF BULK AT MOST 1048576: true; the input reads as it did. -/
def fnExactRankStackUptoRow : OpenClaim := { program := "yteobbgofbedgdaa", sum := "453c96743bf02e3d0a44ab7721d188cfa742caca9f15a932c68663caab9ea138", func := "loop.example/g01112/laws.FnExactRankStack", spec := "fnExactRankStack", unfollowed := true, recurses := true, apart := false, narrowed := true }
def FnExactRankStackUptoSaid : Prop := fnExactRankStackUptoRow.holds Try.pinned (OpenSpec.upto fnExactRankStackSpec)

/-- 'laws.FnExactRankCurve', WHERE WHAT IT READS IS OF BULK AT MOST 1048576: true; the input reads as it did. -/
def fnExactRankCurveUptoRow : OpenClaim := { program := "yteobbgofbedgdaa", sum := "453c96743bf02e3d0a44ab7721d188cfa742caca9f15a932c68663caab9ea138", func := "loop.example/g01112/laws.FnExactRankCurve", spec := "fnExactRankCurve", unfollowed := true, recurses := true, apart := false, narrowed := true }
def FnExactRankCurveUptoSaid : Prop := fnExactRankCurveUptoRow.holds Try.pinned (OpenSpec.upto fnExactRankCurveSpec)

/-- 'laws.FnExactRankContents', WHERE WHAT IT READS IS OF BULK AT MOST 1048576: true; the input reads as it did. -/
def fnExactRankContentsUptoRow : OpenClaim := { program := "yteobbgofbedgdaa", sum := "453c96743bf02e3d0a44ab7721d188cfa742caca9f15a932c68663caab9ea138", func := "loop.example/g01112/laws.FnExactRankContents", spec := "fnExactRankContents", unfollowed := true, recurses := true, apart := false, narrowed := true }
def FnExactRankContentsUptoSaid : Prop := fnExactRankContentsUptoRow.holds Try.pinned (OpenSpec.upto fnExactRankContentsSpec)

/-- 'laws.FnStacked', WHERE WHAT IT READS IS OF BULK AT MOST 1048576: true; the input reads as it did. -/
def fnStackedUptoRow : OpenClaim := { program := "yteobbgofbedgdaa", sum := "453c96743bf02e3d0a44ab7721d188cfa742caca9f15a932c68663caab9ea138", func := "loop.example/g01112/laws.FnStacked", spec := "fnStacked", unfollowed := true, recurses := true, apart := false, narrowed := true }
def FnStackedUptoSaid : Prop := fnStackedUptoRow.holds Try.pinned (OpenSpec.upto fnStackedSpec)

end Rows
end Go.Proofs.Yteobbgofbedgdaa
