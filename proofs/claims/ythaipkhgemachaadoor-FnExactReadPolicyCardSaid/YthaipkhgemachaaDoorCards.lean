/-
  DERIVED. GIVEN WITH THE SEED: THE CARDS: each row of YthaipkhgemachaaDoorRows.lean that lists a variable, with what it lists TIED to the program's text (the seventh form; the later family's looks); each row that meets fmt, with fmt's text TOLD by the authors' own Lean function (tested against real Go, not proved from fmt's source: count such statements apart). THE CARD IS WHAT COUNTS. Prove the row's statement (the work); the ties are given (YthaipkhgemachaaDoorTie.lean); close each card by the builder's one call (the guide's Derived/Test/ToyasCard.lean, 'card_holds'). Laid BY PROGRAM, IN A SANDBOX (cutbox-door.mjs). By AI agents, Wed Nov 11 2026. No macro, syntax, notation, axiom, sorry.
-/
import Derived.Test.YthaipkhgemachaaDoorRows
import GoSem.ClaimSeven
namespace Go.Proofs.YthaipkhgemachaaDoor
namespace Rows

/-- THE TIED CARD OF 'laws.FnExactReadPolicy'. -/
def fnExactReadPolicyCard : Claim7 := { stood := { row := fnExactReadPolicyRow, standIns := [], harness := (true, "3def82b5c87c241875399c8a9b3e91e05473b3a47bd8fa129c5dad3333346300"), looks := false }, kinds := [], alts := [], laidByText := true, laidKinds := [.data, .pinned], laidTests := true, laidLooks := .later }
def FnExactReadPolicyCardSaid : Prop := Claim7.holds Tryd.pinned (.plain (OpenSpec.ofChange fnExactReadPolicySpec)) fnExactReadPolicyCard

/-- THE SECOND FORM's CARD OF 'laws.FnExactReadPolicy'. -/
def fnExactReadPolicyUptoCard : Claim7 := { stood := { row := fnExactReadPolicyUptoRow, standIns := [], harness := (true, "3def82b5c87c241875399c8a9b3e91e05473b3a47bd8fa129c5dad3333346300"), looks := false }, kinds := [], alts := [], laidByText := true, laidKinds := [.data, .pinned], laidTests := true, laidLooks := .later }
def FnExactReadPolicyUptoCardSaid : Prop := Claim7.holds Tryd.pinned (.plain (OpenSpec.upto fnExactReadPolicySpec)) fnExactReadPolicyUptoCard
end Rows
end Go.Proofs.YthaipkhgemachaaDoor
