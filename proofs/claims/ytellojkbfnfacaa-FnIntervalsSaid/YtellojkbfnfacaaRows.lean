/-
  No cell of these rows narrows 'for every input' (looked for: loops, veiled, ifaces, maps, wideKeys, modest, calm, conditions, laid).
  DERIVED. THE GIVEN ROWS OF THIS SEAT. 7 by the template 'for every input the law returns true; each argument reads behind the call as it read before'; 0 by the template 'total and deterministic' (their statements: YtellojkbfnfacaaTotals.lean).
  GIVEN WITH THE SEED: the statements are not yours to turn. If you find one false, say at which input.
  Laid BY PROGRAM, IN A SANDBOX (cutbox-rows.mjs): the forced cells as the released guide's own fill.sh prints them over the translation e9c36998fd7f9dfa… (all of the seat's roots in one cut). By AI agents, Wed Nov 11 2026. No macro, syntax, notation, axiom, sorry.
-/
import Derived.Test.YtellojkbfnfacaaChecked
import GoSem.Claim
import GoSem.ClaimJoined
import GoSem.ClaimMapViews
import Derived.JoinedTies
import Derived.KernelRfl
namespace Go.Proofs.Ytellojkbfnfacaa
/- THE CELL 'sum', in the pinned program and in every row, IS THE sha256 OF THE DUMP (.gsa) THAT YtellojkbfnfacaaProg.lean LOADS. Nothing in Lean hashes anything: it is a label: what it is worth is what the hold of that sum in a sandbox is worth. -/
noncomputable def Try.pinned : Pinned := { name := "ytellojkbfnfacaa", sum := "e9c36998fd7f9dfa8a2d23bbd194c3a617dc332b341a02e6553b7e4cda4b40f3", checked := Try.checked }
namespace Rows
def none {H : Type} : Left H := { results := [], args := [] }

/-- 'laws.FnIntervals': WHATEVER THE INPUT: true; the input reads as it did. -/
def fnIntervalsSpec : ChangeSpec := { name := "fnIntervals", fn := fun _ => fun
  | [d1, d2] => { results := [.lit (.bool true)], args := [d1, d2] }
  | _ => none }
def fnIntervalsRow : OpenClaim := { program := "ytellojkbfnfacaa", sum := "e9c36998fd7f9dfa8a2d23bbd194c3a617dc332b341a02e6553b7e4cda4b40f3", func := "loop.example/g01112/laws.FnIntervals", spec := "fnIntervals", unfollowed := true, recurses := true, apart := false }
def FnIntervalsSaid : Prop := fnIntervalsRow.holds Try.pinned (OpenSpec.ofChange fnIntervalsSpec)

/-- ITS FALSE NEIGHBOUR: 'it returns false'. Refute it at one input. -/
def fnIntervalsWrong : ChangeSpec := { name := "fnIntervals", fn := fun _ => fun
  | [d1, d2] => { results := [.lit (.bool false)], args := [d1, d2] }
  | _ => none }
def FnIntervalsWrongFalsely : Prop := fnIntervalsRow.holds Try.pinned (OpenSpec.ofChange fnIntervalsWrong)

/-- 'laws.FnVictims': WHATEVER THE INPUT: true; the input reads as it did. -/
def fnVictimsSpec : ChangeSpec := { name := "fnVictims", fn := fun _ => fun
  | [d1, d2] => { results := [.lit (.bool true)], args := [d1, d2] }
  | _ => none }
def fnVictimsRow : OpenClaim := { program := "ytellojkbfnfacaa", sum := "e9c36998fd7f9dfa8a2d23bbd194c3a617dc332b341a02e6553b7e4cda4b40f3", func := "loop.example/g01112/laws.FnVictims", spec := "fnVictims", unfollowed := true, recurses := true, apart := false }
def FnVictimsSaid : Prop := fnVictimsRow.holds Try.pinned (OpenSpec.ofChange fnVictimsSpec)

/-- ITS FALSE NEIGHBOUR: 'it returns false'. Refute it at one input. -/
def fnVictimsWrong : ChangeSpec := { name := "fnVictims", fn := fun _ => fun
  | [d1, d2] => { results := [.lit (.bool false)], args := [d1, d2] }
  | _ => none }
def FnVictimsWrongFalsely : Prop := fnVictimsRow.holds Try.pinned (OpenSpec.ofChange fnVictimsWrong)

/-- 'laws.FnExactBypassMisses': WHATEVER THE INPUT: true; the input reads as it did. -/
def fnExactBypassMissesSpec : ChangeSpec := { name := "fnExactBypassMisses", fn := fun _ => fun
  | [d1, d2] => { results := [.lit (.bool true)], args := [d1, d2] }
  | _ => none }
def fnExactBypassMissesRow : OpenClaim := { program := "ytellojkbfnfacaa", sum := "e9c36998fd7f9dfa8a2d23bbd194c3a617dc332b341a02e6553b7e4cda4b40f3", func := "loop.example/g01112/laws.FnExactBypassMisses", spec := "fnExactBypassMisses", unfollowed := true, recurses := true, apart := false }
def FnExactBypassMissesSaid : Prop := fnExactBypassMissesRow.holds Try.pinned (OpenSpec.ofChange fnExactBypassMissesSpec)

/-- ITS FALSE NEIGHBOUR: 'it returns false'. Refute it at one input. -/
def fnExactBypassMissesWrong : ChangeSpec := { name := "fnExactBypassMisses", fn := fun _ => fun
  | [d1, d2] => { results := [.lit (.bool false)], args := [d1, d2] }
  | _ => none }
def FnExactBypassMissesWrongFalsely : Prop := fnExactBypassMissesRow.holds Try.pinned (OpenSpec.ofChange fnExactBypassMissesWrong)

/-- 'laws.FnExactBestMisses': WHATEVER THE INPUT: true; the input reads as it did. -/
def fnExactBestMissesSpec : ChangeSpec := { name := "fnExactBestMisses", fn := fun _ => fun
  | [d1, d2] => { results := [.lit (.bool true)], args := [d1, d2] }
  | _ => none }
def fnExactBestMissesRow : OpenClaim := { program := "ytellojkbfnfacaa", sum := "e9c36998fd7f9dfa8a2d23bbd194c3a617dc332b341a02e6553b7e4cda4b40f3", func := "loop.example/g01112/laws.FnExactBestMisses", spec := "fnExactBestMisses", unfollowed := true, recurses := true, apart := false }
def FnExactBestMissesSaid : Prop := fnExactBestMissesRow.holds Try.pinned (OpenSpec.ofChange fnExactBestMissesSpec)

/-- ITS FALSE NEIGHBOUR: 'it returns false'. Refute it at one input. -/
def fnExactBestMissesWrong : ChangeSpec := { name := "fnExactBestMisses", fn := fun _ => fun
  | [d1, d2] => { results := [.lit (.bool false)], args := [d1, d2] }
  | _ => none }
def FnExactBestMissesWrongFalsely : Prop := fnExactBestMissesRow.holds Try.pinned (OpenSpec.ofChange fnExactBestMissesWrong)

/-- 'laws.FnExactBestVictims': WHATEVER THE INPUT: true; the input reads as it did. -/
def fnExactBestVictimsSpec : ChangeSpec := { name := "fnExactBestVictims", fn := fun _ => fun
  | [d1, d2] => { results := [.lit (.bool true)], args := [d1, d2] }
  | _ => none }
def fnExactBestVictimsRow : OpenClaim := { program := "ytellojkbfnfacaa", sum := "e9c36998fd7f9dfa8a2d23bbd194c3a617dc332b341a02e6553b7e4cda4b40f3", func := "loop.example/g01112/laws.FnExactBestVictims", spec := "fnExactBestVictims", unfollowed := true, recurses := true, apart := false }
def FnExactBestVictimsSaid : Prop := fnExactBestVictimsRow.holds Try.pinned (OpenSpec.ofChange fnExactBestVictimsSpec)

/-- ITS FALSE NEIGHBOUR: 'it returns false'. Refute it at one input. -/
def fnExactBestVictimsWrong : ChangeSpec := { name := "fnExactBestVictims", fn := fun _ => fun
  | [d1, d2] => { results := [.lit (.bool false)], args := [d1, d2] }
  | _ => none }
def FnExactBestVictimsWrongFalsely : Prop := fnExactBestVictimsRow.holds Try.pinned (OpenSpec.ofChange fnExactBestVictimsWrong)

/-- 'laws.FnExactBestCurve': WHATEVER THE INPUT: true; the input reads as it did. -/
def fnExactBestCurveSpec : ChangeSpec := { name := "fnExactBestCurve", fn := fun _ => fun
  | [d] => { results := [.lit (.bool true)], args := [d] }
  | _ => none }
def fnExactBestCurveRow : OpenClaim := { program := "ytellojkbfnfacaa", sum := "e9c36998fd7f9dfa8a2d23bbd194c3a617dc332b341a02e6553b7e4cda4b40f3", func := "loop.example/g01112/laws.FnExactBestCurve", spec := "fnExactBestCurve", unfollowed := true, recurses := true, apart := false }
def FnExactBestCurveSaid : Prop := fnExactBestCurveRow.holds Try.pinned (OpenSpec.ofChange fnExactBestCurveSpec)

/-- ITS FALSE NEIGHBOUR: 'it returns false'. Refute it at one input. -/
def fnExactBestCurveWrong : ChangeSpec := { name := "fnExactBestCurve", fn := fun _ => fun
  | [d] => { results := [.lit (.bool false)], args := [d] }
  | _ => none }
def FnExactBestCurveWrongFalsely : Prop := fnExactBestCurveRow.holds Try.pinned (OpenSpec.ofChange fnExactBestCurveWrong)

/-- 'laws.FnExactKeptIntervals': WHATEVER THE INPUT: true; the input reads as it did. -/
def fnExactKeptIntervalsSpec : ChangeSpec := { name := "fnExactKeptIntervals", fn := fun _ => fun
  | [d1, d2] => { results := [.lit (.bool true)], args := [d1, d2] }
  | _ => none }
def fnExactKeptIntervalsRow : OpenClaim := { program := "ytellojkbfnfacaa", sum := "e9c36998fd7f9dfa8a2d23bbd194c3a617dc332b341a02e6553b7e4cda4b40f3", func := "loop.example/g01112/laws.FnExactKeptIntervals", spec := "fnExactKeptIntervals", unfollowed := true, recurses := true, apart := false }
def FnExactKeptIntervalsSaid : Prop := fnExactKeptIntervalsRow.holds Try.pinned (OpenSpec.ofChange fnExactKeptIntervalsSpec)

/-- ITS FALSE NEIGHBOUR: 'it returns false'. Refute it at one input. -/
def fnExactKeptIntervalsWrong : ChangeSpec := { name := "fnExactKeptIntervals", fn := fun _ => fun
  | [d1, d2] => { results := [.lit (.bool false)], args := [d1, d2] }
  | _ => none }
def FnExactKeptIntervalsWrongFalsely : Prop := fnExactKeptIntervalsRow.holds Try.pinned (OpenSpec.ofChange fnExactKeptIntervalsWrong)

/- THE SECOND FORM. 'bulk': how many values and letters a reading holds, each counted each time it is reached (what is shared counts as often as it is met; a slice's spare places count too). A statement '..UptoSaid' is the law's where the arguments, and the package variables that the reading takes, are together of bulk at most 1048576: NARROWER than '..Said'. Prove '..Said' where nothing that the law and all that it calls make is longer than what came in: it says more and counts as full. Else prove '..UptoSaid'. A law counts once. -/
mutual
def uptoBulk {H : Type} : DataW H → Nat
  | .lit (.string bytes) => bytes.length + 1
  | .lit _ => 1
  | .nil => 1
  | .ptr d => uptoBulk d + 1
  | .slice elems spare => uptoBulkAll elems + uptoBulkAll spare + 1
  | .agg parts => uptoBulkAll parts + 1
  | .iface _ d => uptoBulk d + 1
  | .map entries => uptoBulkEntries entries + 1
  | .held _ => 1
def uptoBulkAll {H : Type} : List (DataW H) → Nat
  | [] => 0
  | d :: r => uptoBulk d + uptoBulkAll r
def uptoBulkEntries {H : Type} : List (Lit × DataW H) → Nat
  | [] => 0
  | x :: r => uptoBulkEntry x + uptoBulkEntries r
def uptoBulkEntry {H : Type} : Lit × DataW H → Nat
  | (.string bytes, d) => bytes.length + uptoBulk d + 1
  | (_, d) => uptoBulk d + 1
 end
def uptoSmall : (H : Type) → List (DataW H) → Bool := fun _ ds => decide (uptoBulkAll ds ≤ 1048576)
def OpenSpec.upto (s : _root_.Go.ChangeSpec) : _root_.Go.OpenSpec := { _root_.Go.OpenSpec.ofChange s with cond := some uptoSmall }

/-- 'laws.FnIntervals', WHERE WHAT IT READS IS OF BULK AT MOST 1048576: true; the input reads as it did. -/
def fnIntervalsUptoRow : OpenClaim := { program := "ytellojkbfnfacaa", sum := "e9c36998fd7f9dfa8a2d23bbd194c3a617dc332b341a02e6553b7e4cda4b40f3", func := "loop.example/g01112/laws.FnIntervals", spec := "fnIntervals", unfollowed := true, recurses := true, apart := false, narrowed := true }
def FnIntervalsUptoSaid : Prop := fnIntervalsUptoRow.holds Try.pinned (OpenSpec.upto fnIntervalsSpec)

/-- 'laws.FnVictims', WHERE WHAT IT READS IS OF BULK AT MOST 1048576: true; the input reads as it did. -/
def fnVictimsUptoRow : OpenClaim := { program := "ytellojkbfnfacaa", sum := "e9c36998fd7f9dfa8a2d23bbd194c3a617dc332b341a02e6553b7e4cda4b40f3", func := "loop.example/g01112/laws.FnVictims", spec := "fnVictims", unfollowed := true, recurses := true, apart := false, narrowed := true }
def FnVictimsUptoSaid : Prop := fnVictimsUptoRow.holds Try.pinned (OpenSpec.upto fnVictimsSpec)

/-- 'laws.FnExactBypassMisses', WHERE WHAT IT READS IS OF BULK AT MOST 1048576: true; the input reads as it did. -/
def fnExactBypassMissesUptoRow : OpenClaim := { program := "ytellojkbfnfacaa", sum := "e9c36998fd7f9dfa8a2d23bbd194c3a617dc332b341a02e6553b7e4cda4b40f3", func := "loop.example/g01112/laws.FnExactBypassMisses", spec := "fnExactBypassMisses", unfollowed := true, recurses := true, apart := false, narrowed := true }
def FnExactBypassMissesUptoSaid : Prop := fnExactBypassMissesUptoRow.holds Try.pinned (OpenSpec.upto fnExactBypassMissesSpec)

/-- 'laws.FnExactBestMisses', WHERE WHAT IT READS IS OF BULK AT MOST 1048576: true; the input reads as it did. -/
def fnExactBestMissesUptoRow : OpenClaim := { program := "ytellojkbfnfacaa", sum := "e9c36998fd7f9dfa8a2d23bbd194c3a617dc332b341a02e6553b7e4cda4b40f3", func := "loop.example/g01112/laws.FnExactBestMisses", spec := "fnExactBestMisses", unfollowed := true, recurses := true, apart := false, narrowed := true }
def FnExactBestMissesUptoSaid : Prop := fnExactBestMissesUptoRow.holds Try.pinned (OpenSpec.upto fnExactBestMissesSpec)

/-- 'laws.FnExactBestVictims', WHERE WHAT IT READS IS OF BULK AT MOST 1048576: true; the input reads as it did. -/
def fnExactBestVictimsUptoRow : OpenClaim := { program := "ytellojkbfnfacaa", sum := "e9c36998fd7f9dfa8a2d23bbd194c3a617dc332b341a02e6553b7e4cda4b40f3", func := "loop.example/g01112/laws.FnExactBestVictims", spec := "fnExactBestVictims", unfollowed := true, recurses := true, apart := false, narrowed := true }
def FnExactBestVictimsUptoSaid : Prop := fnExactBestVictimsUptoRow.holds Try.pinned (OpenSpec.upto fnExactBestVictimsSpec)

/-- 'laws.FnExactBestCurve', WHERE WHAT IT READS IS OF BULK AT MOST 1048576: true; the input reads as it did. -/
def fnExactBestCurveUptoRow : OpenClaim := { program := "ytellojkbfnfacaa", sum := "e9c36998fd7f9dfa8a2d23bbd194c3a617dc332b341a02e6553b7e4cda4b40f3", func := "loop.example/g01112/laws.FnExactBestCurve", spec := "fnExactBestCurve", unfollowed := true, recurses := true, apart := false, narrowed := true }
def FnExactBestCurveUptoSaid : Prop := fnExactBestCurveUptoRow.holds Try.pinned (OpenSpec.upto fnExactBestCurveSpec)

/-- 'laws.FnExactKeptIntervals', WHERE WHAT IT READS IS OF BULK AT MOST 1048576: true; the input reads as it did. -/
def fnExactKeptIntervalsUptoRow : OpenClaim := { program := "ytellojkbfnfacaa", sum := "e9c36998fd7f9dfa8a2d23bbd194c3a617dc332b341a02e6553b7e4cda4b40f3", func := "loop.example/g01112/laws.FnExactKeptIntervals", spec := "fnExactKeptIntervals", unfollowed := true, recurses := true, apart := false, narrowed := true }
def FnExactKeptIntervalsUptoSaid : Prop := fnExactKeptIntervalsUptoRow.holds Try.pinned (OpenSpec.upto fnExactKeptIntervalsSpec)

end Rows
end Go.Proofs.Ytellojkbfnfacaa
