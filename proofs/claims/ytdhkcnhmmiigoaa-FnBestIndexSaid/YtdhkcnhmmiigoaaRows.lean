/-
  No cell of these rows narrows 'for every input' (looked for: loops, veiled, ifaces, maps, wideKeys, modest, calm, conditions, laid).
  DERIVED. THE GIVEN ROWS OF THIS SEAT. 10 by the template 'for every input the law returns true; each argument reads behind the call as it read before'; 0 by the template 'total and deterministic' (their statements: YtdhkcnhmmiigoaaTotals.lean).
  GIVEN WITH THE SEED: the statements are not yours to turn. If you find one false, say at which input.
  Laid BY PROGRAM, IN A SANDBOX (cutbox-rows.mjs): the forced cells as the released guide's own fill.sh prints them over the translation d9b6112e56cc4ca8… (all of the seat's roots in one cut). By AI agents, Wed Nov 11 2026. No macro, syntax, notation, axiom, sorry.
-/
import Derived.Test.YtdhkcnhmmiigoaaChecked
import GoSem.Claim
import GoSem.ClaimJoined
import GoSem.ClaimMapViews
import Derived.JoinedTies
import Derived.KernelRfl
namespace Go.Proofs.Ytdhkcnhmmiigoaa
/- THE CELL 'sum', in the pinned program and in every row, IS THE sha256 OF THE DUMP (.gsa) THAT YtdhkcnhmmiigoaaProg.lean LOADS. Nothing in Lean hashes anything: it is a label: what it is worth is what the hold of that sum in a sandbox is worth. -/
noncomputable def Try.pinned : Pinned := { name := "ytdhkcnhmmiigoaa", sum := "d9b6112e56cc4ca84a5414c5bce3bb1e5a7f982230957b1b4ab1e2212b1f1655", checked := Try.checked }
namespace Rows
def none {H : Type} : Left H := { results := [], args := [] }

/-- 'laws.FnBestIndex': WHATEVER THE INPUT: true; the input reads as it did. -/
def fnBestIndexSpec : ChangeSpec := { name := "fnBestIndex", fn := fun _ => fun
  | [d1, d2] => { results := [.lit (.bool true)], args := [d1, d2] }
  | _ => none }
def fnBestIndexRow : OpenClaim := { program := "ytdhkcnhmmiigoaa", sum := "d9b6112e56cc4ca84a5414c5bce3bb1e5a7f982230957b1b4ab1e2212b1f1655", func := "loop.example/g01112/laws.FnBestIndex", spec := "fnBestIndex", unfollowed := true, recurses := true, apart := false }
def FnBestIndexSaid : Prop := fnBestIndexRow.holds Try.pinned (OpenSpec.ofChange fnBestIndexSpec)

/-- ITS FALSE NEIGHBOUR: 'it returns false'. Refute it at one input. -/
def fnBestIndexWrong : ChangeSpec := { name := "fnBestIndex", fn := fun _ => fun
  | [d1, d2] => { results := [.lit (.bool false)], args := [d1, d2] }
  | _ => none }
def FnBestIndexWrongFalsely : Prop := fnBestIndexRow.holds Try.pinned (OpenSpec.ofChange fnBestIndexWrong)

/-- 'laws.FnExactRankOf': WHATEVER THE INPUT: true; the input reads as it did. -/
def fnExactRankOfSpec : ChangeSpec := { name := "fnExactRankOf", fn := fun _ => fun
  | [d] => { results := [.lit (.bool true)], args := [d] }
  | _ => none }
def fnExactRankOfRow : OpenClaim := { program := "ytdhkcnhmmiigoaa", sum := "d9b6112e56cc4ca84a5414c5bce3bb1e5a7f982230957b1b4ab1e2212b1f1655", func := "loop.example/g01112/laws.FnExactRankOf", spec := "fnExactRankOf", unfollowed := true, recurses := true, apart := false }
def FnExactRankOfSaid : Prop := fnExactRankOfRow.holds Try.pinned (OpenSpec.ofChange fnExactRankOfSpec)

/-- ITS FALSE NEIGHBOUR: 'it returns false'. Refute it at one input. -/
def fnExactRankOfWrong : ChangeSpec := { name := "fnExactRankOf", fn := fun _ => fun
  | [d] => { results := [.lit (.bool false)], args := [d] }
  | _ => none }
def FnExactRankOfWrongFalsely : Prop := fnExactRankOfRow.holds Try.pinned (OpenSpec.ofChange fnExactRankOfWrong)

/-- 'laws.FnExactDifferencesOf': WHATEVER THE INPUT: true; the input reads as it did. -/
def fnExactDifferencesOfSpec : ChangeSpec := { name := "fnExactDifferencesOf", fn := fun _ => fun
  | [d] => { results := [.lit (.bool true)], args := [d] }
  | _ => none }
def fnExactDifferencesOfRow : OpenClaim := { program := "ytdhkcnhmmiigoaa", sum := "d9b6112e56cc4ca84a5414c5bce3bb1e5a7f982230957b1b4ab1e2212b1f1655", func := "loop.example/g01112/laws.FnExactDifferencesOf", spec := "fnExactDifferencesOf", unfollowed := true, recurses := true, apart := false }
def FnExactDifferencesOfSaid : Prop := fnExactDifferencesOfRow.holds Try.pinned (OpenSpec.ofChange fnExactDifferencesOfSpec)

/-- ITS FALSE NEIGHBOUR: 'it returns false'. Refute it at one input. -/
def fnExactDifferencesOfWrong : ChangeSpec := { name := "fnExactDifferencesOf", fn := fun _ => fun
  | [d] => { results := [.lit (.bool false)], args := [d] }
  | _ => none }
def FnExactDifferencesOfWrongFalsely : Prop := fnExactDifferencesOfRow.holds Try.pinned (OpenSpec.ofChange fnExactDifferencesOfWrong)

/-- 'laws.FnExactReducedIndex': WHATEVER THE INPUT: true; the input reads as it did. -/
def fnExactReducedIndexSpec : ChangeSpec := { name := "fnExactReducedIndex", fn := fun _ => fun
  | [d] => { results := [.lit (.bool true)], args := [d] }
  | _ => none }
def fnExactReducedIndexRow : OpenClaim := { program := "ytdhkcnhmmiigoaa", sum := "d9b6112e56cc4ca84a5414c5bce3bb1e5a7f982230957b1b4ab1e2212b1f1655", func := "loop.example/g01112/laws.FnExactReducedIndex", spec := "fnExactReducedIndex", unfollowed := true, recurses := true, apart := false }
def FnExactReducedIndexSaid : Prop := fnExactReducedIndexRow.holds Try.pinned (OpenSpec.ofChange fnExactReducedIndexSpec)

/-- ITS FALSE NEIGHBOUR: 'it returns false'. Refute it at one input. -/
def fnExactReducedIndexWrong : ChangeSpec := { name := "fnExactReducedIndex", fn := fun _ => fun
  | [d] => { results := [.lit (.bool false)], args := [d] }
  | _ => none }
def FnExactReducedIndexWrongFalsely : Prop := fnExactReducedIndexRow.holds Try.pinned (OpenSpec.ofChange fnExactReducedIndexWrong)

/-- 'laws.FnExactSpanOf': WHATEVER THE INPUT: true; the input reads as it did. -/
def fnExactSpanOfSpec : ChangeSpec := { name := "fnExactSpanOf", fn := fun _ => fun
  | [d] => { results := [.lit (.bool true)], args := [d] }
  | _ => none }
def fnExactSpanOfRow : OpenClaim := { program := "ytdhkcnhmmiigoaa", sum := "d9b6112e56cc4ca84a5414c5bce3bb1e5a7f982230957b1b4ab1e2212b1f1655", func := "loop.example/g01112/laws.FnExactSpanOf", spec := "fnExactSpanOf", unfollowed := true, recurses := true, apart := false }
def FnExactSpanOfSaid : Prop := fnExactSpanOfRow.holds Try.pinned (OpenSpec.ofChange fnExactSpanOfSpec)

/-- ITS FALSE NEIGHBOUR: 'it returns false'. Refute it at one input. -/
def fnExactSpanOfWrong : ChangeSpec := { name := "fnExactSpanOf", fn := fun _ => fun
  | [d] => { results := [.lit (.bool false)], args := [d] }
  | _ => none }
def FnExactSpanOfWrongFalsely : Prop := fnExactSpanOfRow.holds Try.pinned (OpenSpec.ofChange fnExactSpanOfWrong)

/-- 'laws.FnExactSetMisses': WHATEVER THE INPUT: true; the input reads as it did. -/
def fnExactSetMissesSpec : ChangeSpec := { name := "fnExactSetMisses", fn := fun _ => fun
  | [d1, d2, d3] => { results := [.lit (.bool true)], args := [d1, d2, d3] }
  | _ => none }
def fnExactSetMissesRow : OpenClaim := { program := "ytdhkcnhmmiigoaa", sum := "d9b6112e56cc4ca84a5414c5bce3bb1e5a7f982230957b1b4ab1e2212b1f1655", func := "loop.example/g01112/laws.FnExactSetMisses", spec := "fnExactSetMisses", unfollowed := true, recurses := true, apart := false }
def FnExactSetMissesSaid : Prop := fnExactSetMissesRow.holds Try.pinned (OpenSpec.ofChange fnExactSetMissesSpec)

/-- ITS FALSE NEIGHBOUR: 'it returns false'. Refute it at one input. -/
def fnExactSetMissesWrong : ChangeSpec := { name := "fnExactSetMisses", fn := fun _ => fun
  | [d1, d2, d3] => { results := [.lit (.bool false)], args := [d1, d2, d3] }
  | _ => none }
def FnExactSetMissesWrongFalsely : Prop := fnExactSetMissesRow.holds Try.pinned (OpenSpec.ofChange fnExactSetMissesWrong)

/-- 'laws.FnExactPressureOf': WHATEVER THE INPUT: true; the input reads as it did. -/
def fnExactPressureOfSpec : ChangeSpec := { name := "fnExactPressureOf", fn := fun _ => fun
  | [d1, d2] => { results := [.lit (.bool true)], args := [d1, d2] }
  | _ => none }
def fnExactPressureOfRow : OpenClaim := { program := "ytdhkcnhmmiigoaa", sum := "d9b6112e56cc4ca84a5414c5bce3bb1e5a7f982230957b1b4ab1e2212b1f1655", func := "loop.example/g01112/laws.FnExactPressureOf", spec := "fnExactPressureOf", unfollowed := true, recurses := true, apart := false }
def FnExactPressureOfSaid : Prop := fnExactPressureOfRow.holds Try.pinned (OpenSpec.ofChange fnExactPressureOfSpec)

/-- ITS FALSE NEIGHBOUR: 'it returns false'. Refute it at one input. -/
def fnExactPressureOfWrong : ChangeSpec := { name := "fnExactPressureOf", fn := fun _ => fun
  | [d1, d2] => { results := [.lit (.bool false)], args := [d1, d2] }
  | _ => none }
def FnExactPressureOfWrongFalsely : Prop := fnExactPressureOfRow.holds Try.pinned (OpenSpec.ofChange fnExactPressureOfWrong)

/-- 'laws.FnMissKinds': WHATEVER THE INPUT: true; the input reads as it did. -/
def fnMissKindsSpec : ChangeSpec := { name := "fnMissKinds", fn := fun _ => fun
  | [d1, d2] => { results := [.lit (.bool true)], args := [d1, d2] }
  | _ => none }
def fnMissKindsRow : OpenClaim := { program := "ytdhkcnhmmiigoaa", sum := "d9b6112e56cc4ca84a5414c5bce3bb1e5a7f982230957b1b4ab1e2212b1f1655", func := "loop.example/g01112/laws.FnMissKinds", spec := "fnMissKinds", unfollowed := true, recurses := true, apart := false }
def FnMissKindsSaid : Prop := fnMissKindsRow.holds Try.pinned (OpenSpec.ofChange fnMissKindsSpec)

/-- ITS FALSE NEIGHBOUR: 'it returns false'. Refute it at one input. -/
def fnMissKindsWrong : ChangeSpec := { name := "fnMissKinds", fn := fun _ => fun
  | [d1, d2] => { results := [.lit (.bool false)], args := [d1, d2] }
  | _ => none }
def FnMissKindsWrongFalsely : Prop := fnMissKindsRow.holds Try.pinned (OpenSpec.ofChange fnMissKindsWrong)

/-- 'laws.FnExactBestIndex': WHATEVER THE INPUT: true; the input reads as it did. -/
def fnExactBestIndexSpec : ChangeSpec := { name := "fnExactBestIndex", fn := fun _ => fun
  | [d1, d2, d3] => { results := [.lit (.bool true)], args := [d1, d2, d3] }
  | _ => none }
def fnExactBestIndexRow : OpenClaim := { program := "ytdhkcnhmmiigoaa", sum := "d9b6112e56cc4ca84a5414c5bce3bb1e5a7f982230957b1b4ab1e2212b1f1655", func := "loop.example/g01112/laws.FnExactBestIndex", spec := "fnExactBestIndex", unfollowed := true, recurses := true, apart := false }
def FnExactBestIndexSaid : Prop := fnExactBestIndexRow.holds Try.pinned (OpenSpec.ofChange fnExactBestIndexSpec)

/-- ITS FALSE NEIGHBOUR: 'it returns false'. Refute it at one input. -/
def fnExactBestIndexWrong : ChangeSpec := { name := "fnExactBestIndex", fn := fun _ => fun
  | [d1, d2, d3] => { results := [.lit (.bool false)], args := [d1, d2, d3] }
  | _ => none }
def FnExactBestIndexWrongFalsely : Prop := fnExactBestIndexRow.holds Try.pinned (OpenSpec.ofChange fnExactBestIndexWrong)

/-- 'laws.FnExactMissKinds': WHATEVER THE INPUT: true; the input reads as it did. -/
def fnExactMissKindsSpec : ChangeSpec := { name := "fnExactMissKinds", fn := fun _ => fun
  | [d1, d2, d3] => { results := [.lit (.bool true)], args := [d1, d2, d3] }
  | _ => none }
def fnExactMissKindsRow : OpenClaim := { program := "ytdhkcnhmmiigoaa", sum := "d9b6112e56cc4ca84a5414c5bce3bb1e5a7f982230957b1b4ab1e2212b1f1655", func := "loop.example/g01112/laws.FnExactMissKinds", spec := "fnExactMissKinds", unfollowed := true, recurses := true, apart := false }
def FnExactMissKindsSaid : Prop := fnExactMissKindsRow.holds Try.pinned (OpenSpec.ofChange fnExactMissKindsSpec)

/-- ITS FALSE NEIGHBOUR: 'it returns false'. Refute it at one input. -/
def fnExactMissKindsWrong : ChangeSpec := { name := "fnExactMissKinds", fn := fun _ => fun
  | [d1, d2, d3] => { results := [.lit (.bool false)], args := [d1, d2, d3] }
  | _ => none }
def FnExactMissKindsWrongFalsely : Prop := fnExactMissKindsRow.holds Try.pinned (OpenSpec.ofChange fnExactMissKindsWrong)

/- THE SECOND FORM. 'bulk': how many values and letters a reading holds, each counted each time it is reached (what is shared counts as often as it is met; a slice's spare places count too). A statement '..UptoSaid' is the law's where the arguments, and the package variables that the reading takes, are together of bulk at most 1048576: NARROWER than '..Said'. Prove '..Said' where nothing that the law and all that it calls make is longer than what came in: it says more and counts as full. Else prove '..UptoSaid'. A law counts once. -/
mutual
def uptoBulk {H : Type} : DataW H → Nat
  | .lit (.string bytes) => bytes.length + 1
  | .lit _ => 1
  | .nil => 1
  | .ptr d => uptoBulk d + 1
  | .slice elems spare => uptoBulkAll elems + uptoBulkAll spare + 1
  | .agg parts => uptoBulkAll parts + 1
  | .iface _ d => uptoBulk d + 1
  | .map entries => uptoBulkEntries entries + 1
  | .held _ => 1
def uptoBulkAll {H : Type} : List (DataW H) → Nat
  | [] => 0
  | d :: r => uptoBulk d + uptoBulkAll r
def uptoBulkEntries {H : Type} : List (Lit × DataW H) → Nat
  | [] => 0
  | x :: r => uptoBulkEntry x + uptoBulkEntries r
def uptoBulkEntry {H : Type} : Lit × DataW H → Nat
  | (.string bytes, d) => bytes.length + uptoBulk d + 1
  | (_, d) => uptoBulk d + 1
 end
def uptoSmall : (H : Type) → List (DataW H) → Bool := fun _ ds => decide (uptoBulkAll ds ≤ 1048576)
def OpenSpec.upto (s : _root_.Go.ChangeSpec) : _root_.Go.OpenSpec := { _root_.Go.OpenSpec.ofChange s with cond := some uptoSmall }

/-- 'laws.FnBestIndex', WHERE WHAT IT READS IS OF BULK AT MOST 1048576: true; the input reads as it did. -/
def fnBestIndexUptoRow : OpenClaim := { program := "ytdhkcnhmmiigoaa", sum := "d9b6112e56cc4ca84a5414c5bce3bb1e5a7f982230957b1b4ab1e2212b1f1655", func := "loop.example/g01112/laws.FnBestIndex", spec := "fnBestIndex", unfollowed := true, recurses := true, apart := false, narrowed := true }
def FnBestIndexUptoSaid : Prop := fnBestIndexUptoRow.holds Try.pinned (OpenSpec.upto fnBestIndexSpec)

/-- 'laws.FnExactRankOf', WHERE WHAT IT READS IS OF BULK AT MOST 1048576: true; the input reads as it did. -/
def fnExactRankOfUptoRow : OpenClaim := { program := "ytdhkcnhmmiigoaa", sum := "d9b6112e56cc4ca84a5414c5bce3bb1e5a7f982230957b1b4ab1e2212b1f1655", func := "loop.example/g01112/laws.FnExactRankOf", spec := "fnExactRankOf", unfollowed := true, recurses := true, apart := false, narrowed := true }
def FnExactRankOfUptoSaid : Prop := fnExactRankOfUptoRow.holds Try.pinned (OpenSpec.upto fnExactRankOfSpec)

/-- 'laws.FnExactDifferencesOf', WHERE WHAT IT READS IS OF BULK AT MOST 1048576: true; the input reads as it did. -/
def fnExactDifferencesOfUptoRow : OpenClaim := { program := "ytdhkcnhmmiigoaa", sum := "d9b6112e56cc4ca84a5414c5bce3bb1e5a7f982230957b1b4ab1e2212b1f1655", func := "loop.example/g01112/laws.FnExactDifferencesOf", spec := "fnExactDifferencesOf", unfollowed := true, recurses := true, apart := false, narrowed := true }
def FnExactDifferencesOfUptoSaid : Prop := fnExactDifferencesOfUptoRow.holds Try.pinned (OpenSpec.upto fnExactDifferencesOfSpec)

/-- 'laws.FnExactReducedIndex', WHERE WHAT IT READS IS OF BULK AT MOST 1048576: true; the input reads as it did. -/
def fnExactReducedIndexUptoRow : OpenClaim := { program := "ytdhkcnhmmiigoaa", sum := "d9b6112e56cc4ca84a5414c5bce3bb1e5a7f982230957b1b4ab1e2212b1f1655", func := "loop.example/g01112/laws.FnExactReducedIndex", spec := "fnExactReducedIndex", unfollowed := true, recurses := true, apart := false, narrowed := true }
def FnExactReducedIndexUptoSaid : Prop := fnExactReducedIndexUptoRow.holds Try.pinned (OpenSpec.upto fnExactReducedIndexSpec)

/-- 'laws.FnExactSpanOf', WHERE WHAT IT READS IS OF BULK AT MOST 1048576: true; the input reads as it did. -/
def fnExactSpanOfUptoRow : OpenClaim := { program := "ytdhkcnhmmiigoaa", sum := "d9b6112e56cc4ca84a5414c5bce3bb1e5a7f982230957b1b4ab1e2212b1f1655", func := "loop.example/g01112/laws.FnExactSpanOf", spec := "fnExactSpanOf", unfollowed := true, recurses := true, apart := false, narrowed := true }
def FnExactSpanOfUptoSaid : Prop := fnExactSpanOfUptoRow.holds Try.pinned (OpenSpec.upto fnExactSpanOfSpec)

/-- 'laws.FnExactSetMisses', WHERE WHAT IT READS IS OF BULK AT MOST 1048576: true; the input reads as it did. -/
def fnExactSetMissesUptoRow : OpenClaim := { program := "ytdhkcnhmmiigoaa", sum := "d9b6112e56cc4ca84a5414c5bce3bb1e5a7f982230957b1b4ab1e2212b1f1655", func := "loop.example/g01112/laws.FnExactSetMisses", spec := "fnExactSetMisses", unfollowed := true, recurses := true, apart := false, narrowed := true }
def FnExactSetMissesUptoSaid : Prop := fnExactSetMissesUptoRow.holds Try.pinned (OpenSpec.upto fnExactSetMissesSpec)

/-- 'laws.FnExactPressureOf', WHERE WHAT IT READS IS OF BULK AT MOST 1048576: true; the input reads as it did. -/
def fnExactPressureOfUptoRow : OpenClaim := { program := "ytdhkcnhmmiigoaa", sum := "d9b6112e56cc4ca84a5414c5bce3bb1e5a7f982230957b1b4ab1e2212b1f1655", func := "loop.example/g01112/laws.FnExactPressureOf", spec := "fnExactPressureOf", unfollowed := true, recurses := true, apart := false, narrowed := true }
def FnExactPressureOfUptoSaid : Prop := fnExactPressureOfUptoRow.holds Try.pinned (OpenSpec.upto fnExactPressureOfSpec)

/-- 'laws.FnMissKinds', WHERE WHAT IT READS IS OF BULK AT MOST 1048576: true; the input reads as it did. -/
def fnMissKindsUptoRow : OpenClaim := { program := "ytdhkcnhmmiigoaa", sum := "d9b6112e56cc4ca84a5414c5bce3bb1e5a7f982230957b1b4ab1e2212b1f1655", func := "loop.example/g01112/laws.FnMissKinds", spec := "fnMissKinds", unfollowed := true, recurses := true, apart := false, narrowed := true }
def FnMissKindsUptoSaid : Prop := fnMissKindsUptoRow.holds Try.pinned (OpenSpec.upto fnMissKindsSpec)

/-- 'laws.FnExactBestIndex', WHERE WHAT IT READS IS OF BULK AT MOST 1048576: true; the input reads as it did. -/
def fnExactBestIndexUptoRow : OpenClaim := { program := "ytdhkcnhmmiigoaa", sum := "d9b6112e56cc4ca84a5414c5bce3bb1e5a7f982230957b1b4ab1e2212b1f1655", func := "loop.example/g01112/laws.FnExactBestIndex", spec := "fnExactBestIndex", unfollowed := true, recurses := true, apart := false, narrowed := true }
def FnExactBestIndexUptoSaid : Prop := fnExactBestIndexUptoRow.holds Try.pinned (OpenSpec.upto fnExactBestIndexSpec)

/-- 'laws.FnExactMissKinds', WHERE WHAT IT READS IS OF BULK AT MOST 1048576: true; the input reads as it did. -/
def fnExactMissKindsUptoRow : OpenClaim := { program := "ytdhkcnhmmiigoaa", sum := "d9b6112e56cc4ca84a5414c5bce3bb1e5a7f982230957b1b4ab1e2212b1f1655", func := "loop.example/g01112/laws.FnExactMissKinds", spec := "fnExactMissKinds", unfollowed := true, recurses := true, apart := false, narrowed := true }
def FnExactMissKindsUptoSaid : Prop := fnExactMissKindsUptoRow.holds Try.pinned (OpenSpec.upto fnExactMissKindsSpec)

end Rows
end Go.Proofs.Ytdhkcnhmmiigoaa
