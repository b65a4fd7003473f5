/-
  No cell of these rows narrows 'for every input' (looked for: loops, veiled, ifaces, maps, wideKeys, modest, calm, conditions, laid).
  DERIVED. THE GIVEN ROWS OF THIS SEAT. 11 by the template 'for every input the law returns true; each argument reads behind the call as it read before'; 0 by the template 'total and deterministic' (their statements: YthnpcalkcjkdhaaTotals.lean).
  GIVEN WITH THE SEED: the statements are not yours to turn. If you find one false, say at which input.
  Laid BY PROGRAM, IN A SANDBOX (cutbox-rows.mjs): the forced cells as the released guide's own fill.sh prints them over the translation 47299ee6643befe8… (all of the seat's roots in one cut). By AI agents, Wed Nov 11 2026. No macro, syntax, notation, axiom, sorry.
-/
import Derived.Test.YthnpcalkcjkdhaaChecked
import GoSem.Claim
import GoSem.ClaimJoined
import GoSem.ClaimMapViews
import Derived.JoinedTies
import Derived.KernelRfl
namespace Go.Proofs.Ythnpcalkcjkdhaa
/- THE CELL 'sum', in the pinned program and in every row, IS THE sha256 OF THE DUMP (.gsa) THAT YthnpcalkcjkdhaaProg.lean LOADS. Nothing in Lean hashes anything: it is a label: what it is worth is what the hold of that sum in a sandbox is worth. -/
noncomputable def Try.pinned : Pinned := { name := "ythnpcalkcjkdhaa", sum := "47299ee6643befe82eae99f9c1288253eb4a8e48045ed98462025e56d7c9dca8", checked := Try.checked }
namespace Rows
def none {H : Type} : Left H := { results := [], args := [] }

/-- 'laws.FnExactValidIndex': WHATEVER THE INPUT: true; the input reads as it did. -/
def fnExactValidIndexSpec : ChangeSpec := { name := "fnExactValidIndex", fn := fun _ => fun
  | [d] => { results := [.lit (.bool true)], args := [d] }
  | _ => none }
def fnExactValidIndexRow : OpenClaim := { program := "ythnpcalkcjkdhaa", sum := "47299ee6643befe82eae99f9c1288253eb4a8e48045ed98462025e56d7c9dca8", func := "loop.example/g01112/laws.FnExactValidIndex", spec := "fnExactValidIndex", unfollowed := true, recurses := true, apart := false }
def FnExactValidIndexSaid : Prop := fnExactValidIndexRow.holds Try.pinned (OpenSpec.ofChange fnExactValidIndexSpec)

/-- ITS FALSE NEIGHBOUR: 'it returns false'. Refute it at one input. -/
def fnExactValidIndexWrong : ChangeSpec := { name := "fnExactValidIndex", fn := fun _ => fun
  | [d] => { results := [.lit (.bool false)], args := [d] }
  | _ => none }
def FnExactValidIndexWrongFalsely : Prop := fnExactValidIndexRow.holds Try.pinned (OpenSpec.ofChange fnExactValidIndexWrong)

/-- 'laws.FnExactStackOf': WHATEVER THE INPUT: true; the input reads as it did. -/
def fnExactStackOfSpec : ChangeSpec := { name := "fnExactStackOf", fn := fun _ => fun
  | [d] => { results := [.lit (.bool true)], args := [d] }
  | _ => none }
def fnExactStackOfRow : OpenClaim := { program := "ythnpcalkcjkdhaa", sum := "47299ee6643befe82eae99f9c1288253eb4a8e48045ed98462025e56d7c9dca8", func := "loop.example/g01112/laws.FnExactStackOf", spec := "fnExactStackOf", unfollowed := true, recurses := true, apart := false }
def FnExactStackOfSaid : Prop := fnExactStackOfRow.holds Try.pinned (OpenSpec.ofChange fnExactStackOfSpec)

/-- ITS FALSE NEIGHBOUR: 'it returns false'. Refute it at one input. -/
def fnExactStackOfWrong : ChangeSpec := { name := "fnExactStackOf", fn := fun _ => fun
  | [d] => { results := [.lit (.bool false)], args := [d] }
  | _ => none }
def FnExactStackOfWrongFalsely : Prop := fnExactStackOfRow.holds Try.pinned (OpenSpec.ofChange fnExactStackOfWrong)

/-- 'laws.FnExactSetOf': WHATEVER THE INPUT: true; the input reads as it did. -/
def fnExactSetOfSpec : ChangeSpec := { name := "fnExactSetOf", fn := fun _ => fun
  | [d1, d2] => { results := [.lit (.bool true)], args := [d1, d2] }
  | _ => none }
def fnExactSetOfRow : OpenClaim := { program := "ythnpcalkcjkdhaa", sum := "47299ee6643befe82eae99f9c1288253eb4a8e48045ed98462025e56d7c9dca8", func := "loop.example/g01112/laws.FnExactSetOf", spec := "fnExactSetOf", unfollowed := true, recurses := true, apart := false }
def FnExactSetOfSaid : Prop := fnExactSetOfRow.holds Try.pinned (OpenSpec.ofChange fnExactSetOfSpec)

/-- ITS FALSE NEIGHBOUR: 'it returns false'. Refute it at one input. -/
def fnExactSetOfWrong : ChangeSpec := { name := "fnExactSetOf", fn := fun _ => fun
  | [d1, d2] => { results := [.lit (.bool false)], args := [d1, d2] }
  | _ => none }
def FnExactSetOfWrongFalsely : Prop := fnExactSetOfRow.holds Try.pinned (OpenSpec.ofChange fnExactSetOfWrong)

/-- 'laws.FnExactIntervalsOf': WHATEVER THE INPUT: true; the input reads as it did. -/
def fnExactIntervalsOfSpec : ChangeSpec := { name := "fnExactIntervalsOf", fn := fun _ => fun
  | [d] => { results := [.lit (.bool true)], args := [d] }
  | _ => none }
def fnExactIntervalsOfRow : OpenClaim := { program := "ythnpcalkcjkdhaa", sum := "47299ee6643befe82eae99f9c1288253eb4a8e48045ed98462025e56d7c9dca8", func := "loop.example/g01112/laws.FnExactIntervalsOf", spec := "fnExactIntervalsOf", unfollowed := true, recurses := true, apart := false }
def FnExactIntervalsOfSaid : Prop := fnExactIntervalsOfRow.holds Try.pinned (OpenSpec.ofChange fnExactIntervalsOfSpec)

/-- ITS FALSE NEIGHBOUR: 'it returns false'. Refute it at one input. -/
def fnExactIntervalsOfWrong : ChangeSpec := { name := "fnExactIntervalsOf", fn := fun _ => fun
  | [d] => { results := [.lit (.bool false)], args := [d] }
  | _ => none }
def FnExactIntervalsOfWrongFalsely : Prop := fnExactIntervalsOfRow.holds Try.pinned (OpenSpec.ofChange fnExactIntervalsOfWrong)

/-- 'laws.FnExactHitBound': WHATEVER THE INPUT: true; the input reads as it did. -/
def fnExactHitBoundSpec : ChangeSpec := { name := "fnExactHitBound", fn := fun _ => fun
  | [d1, d2, d3] => { results := [.lit (.bool true)], args := [d1, d2, d3] }
  | _ => none }
def fnExactHitBoundRow : OpenClaim := { program := "ythnpcalkcjkdhaa", sum := "47299ee6643befe82eae99f9c1288253eb4a8e48045ed98462025e56d7c9dca8", func := "loop.example/g01112/laws.FnExactHitBound", spec := "fnExactHitBound", unfollowed := true, recurses := true, apart := false }
def FnExactHitBoundSaid : Prop := fnExactHitBoundRow.holds Try.pinned (OpenSpec.ofChange fnExactHitBoundSpec)

/-- ITS FALSE NEIGHBOUR: 'it returns false'. Refute it at one input. -/
def fnExactHitBoundWrong : ChangeSpec := { name := "fnExactHitBound", fn := fun _ => fun
  | [d1, d2, d3] => { results := [.lit (.bool false)], args := [d1, d2, d3] }
  | _ => none }
def FnExactHitBoundWrongFalsely : Prop := fnExactHitBoundRow.holds Try.pinned (OpenSpec.ofChange fnExactHitBoundWrong)

/-- 'laws.FnExactIsKept': WHATEVER THE INPUT: true; the input reads as it did. -/
def fnExactIsKeptSpec : ChangeSpec := { name := "fnExactIsKept", fn := fun _ => fun
  | [d1, d2, d3] => { results := [.lit (.bool true)], args := [d1, d2, d3] }
  | _ => none }
def fnExactIsKeptRow : OpenClaim := { program := "ythnpcalkcjkdhaa", sum := "47299ee6643befe82eae99f9c1288253eb4a8e48045ed98462025e56d7c9dca8", func := "loop.example/g01112/laws.FnExactIsKept", spec := "fnExactIsKept", unfollowed := true, recurses := true, apart := false }
def FnExactIsKeptSaid : Prop := fnExactIsKeptRow.holds Try.pinned (OpenSpec.ofChange fnExactIsKeptSpec)

/-- ITS FALSE NEIGHBOUR: 'it returns false'. Refute it at one input. -/
def fnExactIsKeptWrong : ChangeSpec := { name := "fnExactIsKept", fn := fun _ => fun
  | [d1, d2, d3] => { results := [.lit (.bool false)], args := [d1, d2, d3] }
  | _ => none }
def FnExactIsKeptWrongFalsely : Prop := fnExactIsKeptRow.holds Try.pinned (OpenSpec.ofChange fnExactIsKeptWrong)

/-- 'laws.FnExactIndexText': WHATEVER THE INPUT: true; the input reads as it did. -/
def fnExactIndexTextSpec : ChangeSpec := { name := "fnExactIndexText", fn := fun _ => fun
  | [d] => { results := [.lit (.bool true)], args := [d] }
  | _ => none }
def fnExactIndexTextRow : OpenClaim := { program := "ythnpcalkcjkdhaa", sum := "47299ee6643befe82eae99f9c1288253eb4a8e48045ed98462025e56d7c9dca8", func := "loop.example/g01112/laws.FnExactIndexText", spec := "fnExactIndexText", inPlace := ["internal/abi.NoEscape", "internal/bytealg.MakeNoZero"], unfollowed := true, recurses := true, apart := false }
def FnExactIndexTextSaid : Prop := fnExactIndexTextRow.holds Try.pinned (OpenSpec.ofChange fnExactIndexTextSpec)

/-- ITS FALSE NEIGHBOUR: 'it returns false'. Refute it at one input. -/
def fnExactIndexTextWrong : ChangeSpec := { name := "fnExactIndexText", fn := fun _ => fun
  | [d] => { results := [.lit (.bool false)], args := [d] }
  | _ => none }
def FnExactIndexTextWrongFalsely : Prop := fnExactIndexTextRow.holds Try.pinned (OpenSpec.ofChange fnExactIndexTextWrong)

/-- 'laws.FnExactSetMembers': WHATEVER THE INPUT: true; the input reads as it did. -/
def fnExactSetMembersSpec : ChangeSpec := { name := "fnExactSetMembers", fn := fun _ => fun
  | [d1, d2] => { results := [.lit (.bool true)], args := [d1, d2] }
  | _ => none }
def fnExactSetMembersRow : OpenClaim := { program := "ythnpcalkcjkdhaa", sum := "47299ee6643befe82eae99f9c1288253eb4a8e48045ed98462025e56d7c9dca8", func := "loop.example/g01112/laws.FnExactSetMembers", spec := "fnExactSetMembers", unfollowed := true, recurses := true, apart := false }
def FnExactSetMembersSaid : Prop := fnExactSetMembersRow.holds Try.pinned (OpenSpec.ofChange fnExactSetMembersSpec)

/-- ITS FALSE NEIGHBOUR: 'it returns false'. Refute it at one input. -/
def fnExactSetMembersWrong : ChangeSpec := { name := "fnExactSetMembers", fn := fun _ => fun
  | [d1, d2] => { results := [.lit (.bool false)], args := [d1, d2] }
  | _ => none }
def FnExactSetMembersWrongFalsely : Prop := fnExactSetMembersRow.holds Try.pinned (OpenSpec.ofChange fnExactSetMembersWrong)

/-- 'laws.FnExactKernelOf': WHATEVER THE INPUT: true; the input reads as it did. -/
def fnExactKernelOfSpec : ChangeSpec := { name := "fnExactKernelOf", fn := fun _ => fun
  | [d] => { results := [.lit (.bool true)], args := [d] }
  | _ => none }
def fnExactKernelOfRow : OpenClaim := { program := "ythnpcalkcjkdhaa", sum := "47299ee6643befe82eae99f9c1288253eb4a8e48045ed98462025e56d7c9dca8", func := "loop.example/g01112/laws.FnExactKernelOf", spec := "fnExactKernelOf", unfollowed := true, recurses := true, apart := false }
def FnExactKernelOfSaid : Prop := fnExactKernelOfRow.holds Try.pinned (OpenSpec.ofChange fnExactKernelOfSpec)

/-- ITS FALSE NEIGHBOUR: 'it returns false'. Refute it at one input. -/
def fnExactKernelOfWrong : ChangeSpec := { name := "fnExactKernelOf", fn := fun _ => fun
  | [d] => { results := [.lit (.bool false)], args := [d] }
  | _ => none }
def FnExactKernelOfWrongFalsely : Prop := fnExactKernelOfRow.holds Try.pinned (OpenSpec.ofChange fnExactKernelOfWrong)

/-- 'laws.FnExactPlainMemory': WHATEVER THE INPUT: true; the input reads as it did. -/
def fnExactPlainMemorySpec : ChangeSpec := { name := "fnExactPlainMemory", fn := fun _ => fun
  | [d] => { results := [.lit (.bool true)], args := [d] }
  | _ => none }
def fnExactPlainMemoryRow : OpenClaim := { program := "ythnpcalkcjkdhaa", sum := "47299ee6643befe82eae99f9c1288253eb4a8e48045ed98462025e56d7c9dca8", func := "loop.example/g01112/laws.FnExactPlainMemory", spec := "fnExactPlainMemory", unfollowed := true, recurses := true, apart := false }
def FnExactPlainMemorySaid : Prop := fnExactPlainMemoryRow.holds Try.pinned (OpenSpec.ofChange fnExactPlainMemorySpec)

/-- ITS FALSE NEIGHBOUR: 'it returns false'. Refute it at one input. -/
def fnExactPlainMemoryWrong : ChangeSpec := { name := "fnExactPlainMemory", fn := fun _ => fun
  | [d] => { results := [.lit (.bool false)], args := [d] }
  | _ => none }
def FnExactPlainMemoryWrongFalsely : Prop := fnExactPlainMemoryRow.holds Try.pinned (OpenSpec.ofChange fnExactPlainMemoryWrong)

/-- 'laws.FnExactPlainReads': WHATEVER THE INPUT: true; the input reads as it did. -/
def fnExactPlainReadsSpec : ChangeSpec := { name := "fnExactPlainReads", fn := fun _ => fun
  | [d] => { results := [.lit (.bool true)], args := [d] }
  | _ => none }
def fnExactPlainReadsRow : OpenClaim := { program := "ythnpcalkcjkdhaa", sum := "47299ee6643befe82eae99f9c1288253eb4a8e48045ed98462025e56d7c9dca8", func := "loop.example/g01112/laws.FnExactPlainReads", spec := "fnExactPlainReads", unfollowed := true, recurses := true, apart := false }
def FnExactPlainReadsSaid : Prop := fnExactPlainReadsRow.holds Try.pinned (OpenSpec.ofChange fnExactPlainReadsSpec)

/-- ITS FALSE NEIGHBOUR: 'it returns false'. Refute it at one input. -/
def fnExactPlainReadsWrong : ChangeSpec := { name := "fnExactPlainReads", fn := fun _ => fun
  | [d] => { results := [.lit (.bool false)], args := [d] }
  | _ => none }
def FnExactPlainReadsWrongFalsely : Prop := fnExactPlainReadsRow.holds Try.pinned (OpenSpec.ofChange fnExactPlainReadsWrong)

/- THE SECOND FORM. 'bulk': how many values and letters a reading holds, each counted each time it is reached (what is shared counts as often as it is met; a slice's spare places count too). A statement '..UptoSaid' is the law's where the arguments, and the package variables that the reading takes, are together of bulk at most 1048576: NARROWER than '..Said'. Prove '..Said' where nothing that the law and all that it calls make is longer than what came in: it says more and counts as full. Else prove '..UptoSaid'. A law counts once. -/
mutual
def uptoBulk {H : Type} : DataW H → Nat
  | .lit (.string bytes) => bytes.length + 1
  | .lit _ => 1
  | .nil => 1
  | .ptr d => uptoBulk d + 1
  | .slice elems spare => uptoBulkAll elems + uptoBulkAll spare + 1
  | .agg parts => uptoBulkAll parts + 1
  | .iface _ d => uptoBulk d + 1
  | .map entries => uptoBulkEntries entries + 1
  | .held _ => 1
def uptoBulkAll {H : Type} : List (DataW H) → Nat
  | [] => 0
  | d :: r => uptoBulk d + uptoBulkAll r
def uptoBulkEntries {H : Type} : List (Lit × DataW H) → Nat
  | [] => 0
  | x :: r => uptoBulkEntry x + uptoBulkEntries r
def uptoBulkEntry {H : Type} : Lit × DataW H → Nat
  | (.string bytes, d) => bytes.length + uptoBulk d + 1
  | (_, d) => uptoBulk d + 1
 end
def uptoSmall : (H : Type) → List (DataW H) → Bool := fun _ ds => decide (uptoBulkAll ds ≤ 1048576)
def OpenSpec.upto (s : _root_.Go.ChangeSpec) : _root_.Go.OpenSpec := { _root_.Go.OpenSpec.ofChange s with cond := some uptoSmall }

/-- 'laws.FnExactValidIndex', WHERE WHAT IT READS IS OF BULK AT MOST 1048576: true; the input reads as it did. -/
def fnExactValidIndexUptoRow : OpenClaim := { program := "ythnpcalkcjkdhaa", sum := "47299ee6643befe82eae99f9c1288253eb4a8e48045ed98462025e56d7c9dca8", func := "loop.example/g01112/laws.FnExactValidIndex", spec := "fnExactValidIndex", unfollowed := true, recurses := true, apart := false, narrowed := true }
def FnExactValidIndexUptoSaid : Prop := fnExactValidIndexUptoRow.holds Try.pinned (OpenSpec.upto fnExactValidIndexSpec)

/-- 'laws.FnExactStackOf', WHERE WHAT IT READS IS OF BULK AT MOST 1048576: true; the input reads as it did. -/
def fnExactStackOfUptoRow : OpenClaim := { program := "ythnpcalkcjkdhaa", sum := "47299ee6643befe82eae99f9c1288253eb4a8e48045ed98462025e56d7c9dca8", func := "loop.example/g01112/laws.FnExactStackOf", spec := "fnExactStackOf", unfollowed := true, recurses := true, apart := false, narrowed := true }
def FnExactStackOfUptoSaid : Prop := fnExactStackOfUptoRow.holds Try.pinned (OpenSpec.upto fnExactStackOfSpec)

/-- 'laws.FnExactSetOf', WHERE WHAT IT READS IS OF BULK AT MOST 1048576: true; the input reads as it did. -/
def fnExactSetOfUptoRow : OpenClaim := { program := "ythnpcalkcjkdhaa", sum := "47299ee6643befe82eae99f9c1288253eb4a8e48045ed98462025e56d7c9dca8", func := "loop.example/g01112/laws.FnExactSetOf", spec := "fnExactSetOf", unfollowed := true, recurses := true, apart := false, narrowed := true }
def FnExactSetOfUptoSaid : Prop := fnExactSetOfUptoRow.holds Try.pinned (OpenSpec.upto fnExactSetOfSpec)

/-- 'laws.FnExactIntervalsOf', WHERE WHAT IT READS IS OF BULK AT MOST 1048576: true; the input reads as it did. -/
def fnExactIntervalsOfUptoRow : OpenClaim := { program := "ythnpcalkcjkdhaa", sum := "47299ee6643befe82eae99f9c1288253eb4a8e48045ed98462025e56d7c9dca8", func := "loop.example/g01112/laws.FnExactIntervalsOf", spec := "fnExactIntervalsOf", unfollowed := true, recurses := true, apart := false, narrowed := true }
def FnExactIntervalsOfUptoSaid : Prop := fnExactIntervalsOfUptoRow.holds Try.pinned (OpenSpec.upto fnExactIntervalsOfSpec)

/-- 'laws.FnExactHitBound', WHERE WHAT IT READS IS OF BULK AT MOST 1048576: true; the input reads as it did. -/
def fnExactHitBoundUptoRow : OpenClaim := { program := "ythnpcalkcjkdhaa", sum := "47299ee6643befe82eae99f9c1288253eb4a8e48045ed98462025e56d7c9dca8", func := "loop.example/g01112/laws.FnExactHitBound", spec := "fnExactHitBound", unfollowed := true, recurses := true, apart := false, narrowed := true }
def FnExactHitBoundUptoSaid : Prop := fnExactHitBoundUptoRow.holds Try.pinned (OpenSpec.upto fnExactHitBoundSpec)

/-- 'laws.FnExactIsKept', WHERE WHAT IT READS IS OF BULK AT MOST 1048576: true; the input reads as it did. -/
def fnExactIsKeptUptoRow : OpenClaim := { program := "ythnpcalkcjkdhaa", sum := "47299ee6643befe82eae99f9c1288253eb4a8e48045ed98462025e56d7c9dca8", func := "loop.example/g01112/laws.FnExactIsKept", spec := "fnExactIsKept", unfollowed := true, recurses := true, apart := false, narrowed := true }
def FnExactIsKeptUptoSaid : Prop := fnExactIsKeptUptoRow.holds Try.pinned (OpenSpec.upto fnExactIsKeptSpec)

/-- 'laws.FnExactIndexText', WHERE WHAT IT READS IS OF BULK AT MOST 1048576: true; the input reads as it did. -/
def fnExactIndexTextUptoRow : OpenClaim := { program := "ythnpcalkcjkdhaa", sum := "47299ee6643befe82eae99f9c1288253eb4a8e48045ed98462025e56d7c9dca8", func := "loop.example/g01112/laws.FnExactIndexText", spec := "fnExactIndexText", inPlace := ["internal/abi.NoEscape", "internal/bytealg.MakeNoZero"], unfollowed := true, recurses := true, apart := false, narrowed := true }
def FnExactIndexTextUptoSaid : Prop := fnExactIndexTextUptoRow.holds Try.pinned (OpenSpec.upto fnExactIndexTextSpec)

/-- 'laws.FnExactSetMembers', WHERE WHAT IT READS IS OF BULK AT MOST 1048576: true; the input reads as it did. -/
def fnExactSetMembersUptoRow : OpenClaim := { program := "ythnpcalkcjkdhaa", sum := "47299ee6643befe82eae99f9c1288253eb4a8e48045ed98462025e56d7c9dca8", func := "loop.example/g01112/laws.FnExactSetMembers", spec := "fnExactSetMembers", unfollowed := true, recurses := true, apart := false, narrowed := true }
def FnExactSetMembersUptoSaid : Prop := fnExactSetMembersUptoRow.holds Try.pinned (OpenSpec.upto fnExactSetMembersSpec)

/-- 'laws.FnExactKernelOf', WHERE WHAT IT READS IS OF BULK AT MOST 1048576: true; the input reads as it did. -/
def fnExactKernelOfUptoRow : OpenClaim := { program := "ythnpcalkcjkdhaa", sum := "47299ee6643befe82eae99f9c1288253eb4a8e48045ed98462025e56d7c9dca8", func := "loop.example/g01112/laws.FnExactKernelOf", spec := "fnExactKernelOf", unfollowed := true, recurses := true, apart := false, narrowed := true }
def FnExactKernelOfUptoSaid : Prop := fnExactKernelOfUptoRow.holds Try.pinned (OpenSpec.upto fnExactKernelOfSpec)

/-- 'laws.FnExactPlainMemory', WHERE WHAT IT READS IS OF BULK AT MOST 1048576: true; the input reads as it did. -/
def fnExactPlainMemoryUptoRow : OpenClaim := { program := "ythnpcalkcjkdhaa", sum := "47299ee6643befe82eae99f9c1288253eb4a8e48045ed98462025e56d7c9dca8", func := "loop.example/g01112/laws.FnExactPlainMemory", spec := "fnExactPlainMemory", unfollowed := true, recurses := true, apart := false, narrowed := true }
def FnExactPlainMemoryUptoSaid : Prop := fnExactPlainMemoryUptoRow.holds Try.pinned (OpenSpec.upto fnExactPlainMemorySpec)

/-- 'laws.FnExactPlainReads', WHERE WHAT IT READS IS OF BULK AT MOST 1048576: true; the input reads as it did. -/
def fnExactPlainReadsUptoRow : OpenClaim := { program := "ythnpcalkcjkdhaa", sum := "47299ee6643befe82eae99f9c1288253eb4a8e48045ed98462025e56d7c9dca8", func := "loop.example/g01112/laws.FnExactPlainReads", spec := "fnExactPlainReads", unfollowed := true, recurses := true, apart := false, narrowed := true }
def FnExactPlainReadsUptoSaid : Prop := fnExactPlainReadsUptoRow.holds Try.pinned (OpenSpec.upto fnExactPlainReadsSpec)

end Rows
end Go.Proofs.Ythnpcalkcjkdhaa
