/-
  No cell of these rows narrows 'for every input' (looked for: loops, veiled, ifaces, maps, wideKeys, modest, calm, conditions, laid).
  DERIVED. THE GIVEN ROWS OF THIS SEAT. 9 by the template 'for every input the law returns true; each argument reads behind the call as it read before'; 0 by the template 'total and deterministic' (their statements: YtfiohpbinpbhcaaTotals.lean).
  GIVEN WITH THE SEED: the statements are not yours to turn. If you find one false, say at which input.
  Laid BY PROGRAM, IN A SANDBOX (cutbox-rows.mjs): the forced cells as the released guide's own fill.sh prints them over the translation 865a60d25a3aa8dd… (all of the seat's roots in one cut). By AI agents, Wed Nov 11 2026. No macro, syntax, notation, axiom, sorry.
-/
import Derived.Test.YtfiohpbinpbhcaaChecked
import GoSem.Claim
import GoSem.ClaimJoined
import GoSem.ClaimMapViews
import Derived.JoinedTies
import Derived.KernelRfl
namespace Go.Proofs.Ytfiohpbinpbhcaa
/- THE CELL 'sum', in the pinned program and in every row, IS THE sha256 OF THE DUMP (.gsa) THAT YtfiohpbinpbhcaaProg.lean LOADS. Nothing in Lean hashes anything: it is a label: what it is worth is what the hold of that sum in a sandbox is worth. -/
noncomputable def Try.pinned : Pinned := { name := "ytfiohpbinpbhcaa", sum := "865a60d25a3aa8dd65e5d78a50d44a45b71f03848fdaa2b60c0ec508fb1ced17", checked := Try.checked }
namespace Rows
def none {H : Type} : Left H := { results := [], args := [] }

/-- 'laws.FnExactSetFaults': WHATEVER THE INPUT: true; the input reads as it did. -/
def fnExactSetFaultsSpec : ChangeSpec := { name := "fnExactSetFaults", fn := fun _ => fun
  | [d1, d2] => { results := [.lit (.bool true)], args := [d1, d2] }
  | _ => none }
def fnExactSetFaultsRow : OpenClaim := { program := "ytfiohpbinpbhcaa", sum := "865a60d25a3aa8dd65e5d78a50d44a45b71f03848fdaa2b60c0ec508fb1ced17", func := "loop.example/g01112/laws.FnExactSetFaults", spec := "fnExactSetFaults", unfollowed := true, recurses := true, apart := false }
def FnExactSetFaultsSaid : Prop := fnExactSetFaultsRow.holds Try.pinned (OpenSpec.ofChange fnExactSetFaultsSpec)

/-- ITS FALSE NEIGHBOUR: 'it returns false'. Refute it at one input. -/
def fnExactSetFaultsWrong : ChangeSpec := { name := "fnExactSetFaults", fn := fun _ => fun
  | [d1, d2] => { results := [.lit (.bool false)], args := [d1, d2] }
  | _ => none }
def FnExactSetFaultsWrongFalsely : Prop := fnExactSetFaultsRow.holds Try.pinned (OpenSpec.ofChange fnExactSetFaultsWrong)

/-- 'laws.FnSetFaults': WHATEVER THE INPUT: true; the input reads as it did. -/
def fnSetFaultsSpec : ChangeSpec := { name := "fnSetFaults", fn := fun _ => fun
  | [d1, d2] => { results := [.lit (.bool true)], args := [d1, d2] }
  | _ => none }
def fnSetFaultsRow : OpenClaim := { program := "ytfiohpbinpbhcaa", sum := "865a60d25a3aa8dd65e5d78a50d44a45b71f03848fdaa2b60c0ec508fb1ced17", func := "loop.example/g01112/laws.FnSetFaults", spec := "fnSetFaults", unfollowed := true, recurses := true, apart := false }
def FnSetFaultsSaid : Prop := fnSetFaultsRow.holds Try.pinned (OpenSpec.ofChange fnSetFaultsSpec)

/-- ITS FALSE NEIGHBOUR: 'it returns false'. Refute it at one input. -/
def fnSetFaultsWrong : ChangeSpec := { name := "fnSetFaults", fn := fun _ => fun
  | [d1, d2] => { results := [.lit (.bool false)], args := [d1, d2] }
  | _ => none }
def FnSetFaultsWrongFalsely : Prop := fnSetFaultsRow.holds Try.pinned (OpenSpec.ofChange fnSetFaultsWrong)

/-- 'laws.FnExactDistancesOf': WHATEVER THE INPUT: true; the input reads as it did. -/
def fnExactDistancesOfSpec : ChangeSpec := { name := "fnExactDistancesOf", fn := fun _ => fun
  | [d] => { results := [.lit (.bool true)], args := [d] }
  | _ => none }
def fnExactDistancesOfRow : OpenClaim := { program := "ytfiohpbinpbhcaa", sum := "865a60d25a3aa8dd65e5d78a50d44a45b71f03848fdaa2b60c0ec508fb1ced17", func := "loop.example/g01112/laws.FnExactDistancesOf", spec := "fnExactDistancesOf", unfollowed := true, recurses := true, apart := false }
def FnExactDistancesOfSaid : Prop := fnExactDistancesOfRow.holds Try.pinned (OpenSpec.ofChange fnExactDistancesOfSpec)

/-- ITS FALSE NEIGHBOUR: 'it returns false'. Refute it at one input. -/
def fnExactDistancesOfWrong : ChangeSpec := { name := "fnExactDistancesOf", fn := fun _ => fun
  | [d] => { results := [.lit (.bool false)], args := [d] }
  | _ => none }
def FnExactDistancesOfWrongFalsely : Prop := fnExactDistancesOfRow.holds Try.pinned (OpenSpec.ofChange fnExactDistancesOfWrong)

/-- 'laws.FnExactDistanceCounts': WHATEVER THE INPUT: true; the input reads as it did. -/
def fnExactDistanceCountsSpec : ChangeSpec := { name := "fnExactDistanceCounts", fn := fun _ => fun
  | [d] => { results := [.lit (.bool true)], args := [d] }
  | _ => none }
def fnExactDistanceCountsRow : OpenClaim := { program := "ytfiohpbinpbhcaa", sum := "865a60d25a3aa8dd65e5d78a50d44a45b71f03848fdaa2b60c0ec508fb1ced17", func := "loop.example/g01112/laws.FnExactDistanceCounts", spec := "fnExactDistanceCounts", unfollowed := true, recurses := true, apart := false }
def FnExactDistanceCountsSaid : Prop := fnExactDistanceCountsRow.holds Try.pinned (OpenSpec.ofChange fnExactDistanceCountsSpec)

/-- ITS FALSE NEIGHBOUR: 'it returns false'. Refute it at one input. -/
def fnExactDistanceCountsWrong : ChangeSpec := { name := "fnExactDistanceCounts", fn := fun _ => fun
  | [d] => { results := [.lit (.bool false)], args := [d] }
  | _ => none }
def FnExactDistanceCountsWrongFalsely : Prop := fnExactDistanceCountsRow.holds Try.pinned (OpenSpec.ofChange fnExactDistanceCountsWrong)

/-- 'laws.FnExactSizeFor': WHATEVER THE INPUT: true; the input reads as it did. -/
def fnExactSizeForSpec : ChangeSpec := { name := "fnExactSizeFor", fn := fun _ => fun
  | [d1, d2] => { results := [.lit (.bool true)], args := [d1, d2] }
  | _ => none }
def fnExactSizeForRow : OpenClaim := { program := "ytfiohpbinpbhcaa", sum := "865a60d25a3aa8dd65e5d78a50d44a45b71f03848fdaa2b60c0ec508fb1ced17", func := "loop.example/g01112/laws.FnExactSizeFor", spec := "fnExactSizeFor", unfollowed := true, recurses := true, apart := false }
def FnExactSizeForSaid : Prop := fnExactSizeForRow.holds Try.pinned (OpenSpec.ofChange fnExactSizeForSpec)

/-- ITS FALSE NEIGHBOUR: 'it returns false'. Refute it at one input. -/
def fnExactSizeForWrong : ChangeSpec := { name := "fnExactSizeFor", fn := fun _ => fun
  | [d1, d2] => { results := [.lit (.bool false)], args := [d1, d2] }
  | _ => none }
def FnExactSizeForWrongFalsely : Prop := fnExactSizeForRow.holds Try.pinned (OpenSpec.ofChange fnExactSizeForWrong)

/-- 'laws.FnExactLruCurve': WHATEVER THE INPUT: true; the input reads as it did. -/
def fnExactLruCurveSpec : ChangeSpec := { name := "fnExactLruCurve", fn := fun _ => fun
  | [d1, d2] => { results := [.lit (.bool true)], args := [d1, d2] }
  | _ => none }
def fnExactLruCurveRow : OpenClaim := { program := "ytfiohpbinpbhcaa", sum := "865a60d25a3aa8dd65e5d78a50d44a45b71f03848fdaa2b60c0ec508fb1ced17", func := "loop.example/g01112/laws.FnExactLruCurve", spec := "fnExactLruCurve", unfollowed := true, recurses := true, apart := false }
def FnExactLruCurveSaid : Prop := fnExactLruCurveRow.holds Try.pinned (OpenSpec.ofChange fnExactLruCurveSpec)

/-- ITS FALSE NEIGHBOUR: 'it returns false'. Refute it at one input. -/
def fnExactLruCurveWrong : ChangeSpec := { name := "fnExactLruCurve", fn := fun _ => fun
  | [d1, d2] => { results := [.lit (.bool false)], args := [d1, d2] }
  | _ => none }
def FnExactLruCurveWrongFalsely : Prop := fnExactLruCurveRow.holds Try.pinned (OpenSpec.ofChange fnExactLruCurveWrong)

/-- 'laws.FnBestShares': WHATEVER THE INPUT: true; the input reads as it did. -/
def fnBestSharesSpec : ChangeSpec := { name := "fnBestShares", fn := fun _ => fun
  | [d1, d2] => { results := [.lit (.bool true)], args := [d1, d2] }
  | _ => none }
def fnBestSharesRow : OpenClaim := { program := "ytfiohpbinpbhcaa", sum := "865a60d25a3aa8dd65e5d78a50d44a45b71f03848fdaa2b60c0ec508fb1ced17", func := "loop.example/g01112/laws.FnBestShares", spec := "fnBestShares", unfollowed := true, recurses := true, apart := false }
def FnBestSharesSaid : Prop := fnBestSharesRow.holds Try.pinned (OpenSpec.ofChange fnBestSharesSpec)

/-- ITS FALSE NEIGHBOUR: 'it returns false'. Refute it at one input. -/
def fnBestSharesWrong : ChangeSpec := { name := "fnBestShares", fn := fun _ => fun
  | [d1, d2] => { results := [.lit (.bool false)], args := [d1, d2] }
  | _ => none }
def FnBestSharesWrongFalsely : Prop := fnBestSharesRow.holds Try.pinned (OpenSpec.ofChange fnBestSharesWrong)

/-- 'laws.FnExactShareMisses': WHATEVER THE INPUT: true; the input reads as it did. -/
def fnExactShareMissesSpec : ChangeSpec := { name := "fnExactShareMisses", fn := fun _ => fun
  | [d1, d2] => { results := [.lit (.bool true)], args := [d1, d2] }
  | _ => none }
def fnExactShareMissesRow : OpenClaim := { program := "ytfiohpbinpbhcaa", sum := "865a60d25a3aa8dd65e5d78a50d44a45b71f03848fdaa2b60c0ec508fb1ced17", func := "loop.example/g01112/laws.FnExactShareMisses", spec := "fnExactShareMisses", unfollowed := true, recurses := true, apart := false }
def FnExactShareMissesSaid : Prop := fnExactShareMissesRow.holds Try.pinned (OpenSpec.ofChange fnExactShareMissesSpec)

/-- ITS FALSE NEIGHBOUR: 'it returns false'. Refute it at one input. -/
def fnExactShareMissesWrong : ChangeSpec := { name := "fnExactShareMisses", fn := fun _ => fun
  | [d1, d2] => { results := [.lit (.bool false)], args := [d1, d2] }
  | _ => none }
def FnExactShareMissesWrongFalsely : Prop := fnExactShareMissesRow.holds Try.pinned (OpenSpec.ofChange fnExactShareMissesWrong)

/-- 'laws.FnExactBestShares': WHATEVER THE INPUT: true; the input reads as it did. -/
def fnExactBestSharesSpec : ChangeSpec := { name := "fnExactBestShares", fn := fun _ => fun
  | [d1, d2] => { results := [.lit (.bool true)], args := [d1, d2] }
  | _ => none }
def fnExactBestSharesRow : OpenClaim := { program := "ytfiohpbinpbhcaa", sum := "865a60d25a3aa8dd65e5d78a50d44a45b71f03848fdaa2b60c0ec508fb1ced17", func := "loop.example/g01112/laws.FnExactBestShares", spec := "fnExactBestShares", unfollowed := true, recurses := true, apart := false }
def FnExactBestSharesSaid : Prop := fnExactBestSharesRow.holds Try.pinned (OpenSpec.ofChange fnExactBestSharesSpec)

/-- ITS FALSE NEIGHBOUR: 'it returns false'. Refute it at one input. -/
def fnExactBestSharesWrong : ChangeSpec := { name := "fnExactBestShares", fn := fun _ => fun
  | [d1, d2] => { results := [.lit (.bool false)], args := [d1, d2] }
  | _ => none }
def FnExactBestSharesWrongFalsely : Prop := fnExactBestSharesRow.holds Try.pinned (OpenSpec.ofChange fnExactBestSharesWrong)

/- THE SECOND FORM. 'bulk': how many values and letters a reading holds, each counted each time it is reached (what is shared counts as often as it is met; a slice's spare places count too). A statement '..UptoSaid' is the law's where the arguments, and the package variables that the reading takes, are together of bulk at most 1048576: NARROWER than '..Said'. Prove '..Said' where nothing that the law and all that it calls make is longer than what came in: it says more and counts as full. Else prove '..UptoSaid'. A law counts once. -/
mutual
def uptoBulk {H : Type} : DataW H → Nat
  | .lit (.string bytes) => bytes.length + 1
  | .lit _ => 1
  | .nil => 1
  | .ptr d => uptoBulk d + 1
  | .slice elems spare => uptoBulkAll elems + uptoBulkAll spare + 1
  | .agg parts => uptoBulkAll parts + 1
  | .iface _ d => uptoBulk d + 1
  | .map entries => uptoBulkEntries entries + 1
  | .held _ => 1
def uptoBulkAll {H : Type} : List (DataW H) → Nat
  | [] => 0
  | d :: r => uptoBulk d + uptoBulkAll r
def uptoBulkEntries {H : Type} : List (Lit × DataW H) → Nat
  | [] => 0
  | x :: r => uptoBulkEntry x + uptoBulkEntries r
def uptoBulkEntry {H : Type} : Lit × DataW H → Nat
  | (.string bytes, d) => bytes.length + uptoBulk d + 1
  | (_, d) => uptoBulk d + 1
 end
def uptoSmall : (H : Type) → List (DataW H) → Bool := fun _ ds => decide (uptoBulkAll ds ≤ 1048576)
def OpenSpec.upto (s : _root_.Go.ChangeSpec) : _root_.Go.OpenSpec := { _root_.Go.OpenSpec.ofChange s with cond := some uptoSmall }

/-- 'laws.FnExactSetFaults', WHERE WHAT IT READS IS OF BULK AT MOST 1048576: true; the input reads as it did. -/
def fnExactSetFaultsUptoRow : OpenClaim := { program := "ytfiohpbinpbhcaa", sum := "865a60d25a3aa8dd65e5d78a50d44a45b71f03848fdaa2b60c0ec508fb1ced17", func := "loop.example/g01112/laws.FnExactSetFaults", spec := "fnExactSetFaults", unfollowed := true, recurses := true, apart := false, narrowed := true }
def FnExactSetFaultsUptoSaid : Prop := fnExactSetFaultsUptoRow.holds Try.pinned (OpenSpec.upto fnExactSetFaultsSpec)

/-- 'laws.FnSetFaults', WHERE WHAT IT READS IS OF BULK AT MOST 1048576: true; the input reads as it did. -/
def fnSetFaultsUptoRow : OpenClaim := { program := "ytfiohpbinpbhcaa", sum := "865a60d25a3aa8dd65e5d78a50d44a45b71f03848fdaa2b60c0ec508fb1ced17", func := "loop.example/g01112/laws.FnSetFaults", spec := "fnSetFaults", unfollowed := true, recurses := true, apart := false, narrowed := true }
def FnSetFaultsUptoSaid : Prop := fnSetFaultsUptoRow.holds Try.pinned (OpenSpec.upto fnSetFaultsSpec)

/-- 'laws.FnExactDistancesOf', WHERE WHAT IT READS IS OF BULK AT MOST 1048576: true; the input reads as it did. -/
def fnExactDistancesOfUptoRow : OpenClaim := { program := "ytfiohpbinpbhcaa", sum := "865a60d25a3aa8dd65e5d78a50d44a45b71f03848fdaa2b60c0ec508fb1ced17", func := "loop.example/g01112/laws.FnExactDistancesOf", spec := "fnExactDistancesOf", unfollowed := true, recurses := true, apart := false, narrowed := true }
def FnExactDistancesOfUptoSaid : Prop := fnExactDistancesOfUptoRow.holds Try.pinned (OpenSpec.upto fnExactDistancesOfSpec)

/-- 'laws.FnExactDistanceCounts', WHERE WHAT IT READS IS OF BULK AT MOST 1048576: true; the input reads as it did. -/
def fnExactDistanceCountsUptoRow : OpenClaim := { program := "ytfiohpbinpbhcaa", sum := "865a60d25a3aa8dd65e5d78a50d44a45b71f03848fdaa2b60c0ec508fb1ced17", func := "loop.example/g01112/laws.FnExactDistanceCounts", spec := "fnExactDistanceCounts", unfollowed := true, recurses := true, apart := false, narrowed := true }
def FnExactDistanceCountsUptoSaid : Prop := fnExactDistanceCountsUptoRow.holds Try.pinned (OpenSpec.upto fnExactDistanceCountsSpec)

/-- 'laws.FnExactSizeFor', WHERE WHAT IT READS IS OF BULK AT MOST 1048576: true; the input reads as it did. -/
def fnExactSizeForUptoRow : OpenClaim := { program := "ytfiohpbinpbhcaa", sum := "865a60d25a3aa8dd65e5d78a50d44a45b71f03848fdaa2b60c0ec508fb1ced17", func := "loop.example/g01112/laws.FnExactSizeFor", spec := "fnExactSizeFor", unfollowed := true, recurses := true, apart := false, narrowed := true }
def FnExactSizeForUptoSaid : Prop := fnExactSizeForUptoRow.holds Try.pinned (OpenSpec.upto fnExactSizeForSpec)

/-- 'laws.FnExactLruCurve', WHERE WHAT IT READS IS OF BULK AT MOST 1048576: true; the input reads as it did. -/
def fnExactLruCurveUptoRow : OpenClaim := { program := "ytfiohpbinpbhcaa", sum := "865a60d25a3aa8dd65e5d78a50d44a45b71f03848fdaa2b60c0ec508fb1ced17", func := "loop.example/g01112/laws.FnExactLruCurve", spec := "fnExactLruCurve", unfollowed := true, recurses := true, apart := false, narrowed := true }
def FnExactLruCurveUptoSaid : Prop := fnExactLruCurveUptoRow.holds Try.pinned (OpenSpec.upto fnExactLruCurveSpec)

/-- 'laws.FnBestShares', WHERE WHAT IT READS IS OF BULK AT MOST 1048576: true; the input reads as it did. -/
def fnBestSharesUptoRow : OpenClaim := { program := "ytfiohpbinpbhcaa", sum := "865a60d25a3aa8dd65e5d78a50d44a45b71f03848fdaa2b60c0ec508fb1ced17", func := "loop.example/g01112/laws.FnBestShares", spec := "fnBestShares", unfollowed := true, recurses := true, apart := false, narrowed := true }
def FnBestSharesUptoSaid : Prop := fnBestSharesUptoRow.holds Try.pinned (OpenSpec.upto fnBestSharesSpec)

/-- 'laws.FnExactShareMisses', WHERE WHAT IT READS IS OF BULK AT MOST 1048576: true; the input reads as it did. -/
def fnExactShareMissesUptoRow : OpenClaim := { program := "ytfiohpbinpbhcaa", sum := "865a60d25a3aa8dd65e5d78a50d44a45b71f03848fdaa2b60c0ec508fb1ced17", func := "loop.example/g01112/laws.FnExactShareMisses", spec := "fnExactShareMisses", unfollowed := true, recurses := true, apart := false, narrowed := true }
def FnExactShareMissesUptoSaid : Prop := fnExactShareMissesUptoRow.holds Try.pinned (OpenSpec.upto fnExactShareMissesSpec)

/-- 'laws.FnExactBestShares', WHERE WHAT IT READS IS OF BULK AT MOST 1048576: true; the input reads as it did. -/
def fnExactBestSharesUptoRow : OpenClaim := { program := "ytfiohpbinpbhcaa", sum := "865a60d25a3aa8dd65e5d78a50d44a45b71f03848fdaa2b60c0ec508fb1ced17", func := "loop.example/g01112/laws.FnExactBestShares", spec := "fnExactBestShares", unfollowed := true, recurses := true, apart := false, narrowed := true }
def FnExactBestSharesUptoSaid : Prop := fnExactBestSharesUptoRow.holds Try.pinned (OpenSpec.upto fnExactBestSharesSpec)

end Rows
end Go.Proofs.Ytfiohpbinpbhcaa
