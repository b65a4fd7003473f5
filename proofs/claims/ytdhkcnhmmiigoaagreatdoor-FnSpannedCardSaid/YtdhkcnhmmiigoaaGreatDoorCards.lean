/-
  DERIVED. GIVEN WITH THE SEED: THE CARDS: each row of YtdhkcnhmmiigoaaGreatDoorRows.lean that lists a variable, with what it lists TIED to the program's text (the seventh form; the later family's looks); each row that meets fmt, with fmt's text TOLD by the authors' own Lean function (tested against real Go, not proved from fmt's source: count such statements apart). THE CARD IS WHAT COUNTS. Prove the row's statement (the work); the ties are given (YtdhkcnhmmiigoaaGreatDoorTie.lean); close each card by the builder's one call (the guide's Derived/Test/ToyasCard.lean, 'card_holds'). Laid BY PROGRAM, IN A SANDBOX (cutbox-door.mjs). By AI agents, Wed Nov 11 2026. No macro, syntax, notation, axiom, sorry.
-/
import Derived.Test.YtdhkcnhmmiigoaaGreatDoorRows
import GoSem.ClaimSeven
namespace Go.Proofs.YtdhkcnhmmiigoaaGreatDoor
namespace Rows

/-- THE TIED CARD OF 'laws.FnSpanned'. -/
def fnSpannedCard : Claim7 := { stood := { row := fnSpannedRow, standIns := [], harness := (true, "4ecc038c95628d33b324b085003027a3a554da9ec664b1025612877bcd7bceb4"), looks := false }, kinds := [], alts := [], laidByText := true, laidKinds := [.data, .pinned], laidTests := true, laidLooks := .later }
def FnSpannedCardSaid : Prop := Claim7.holds Tryz.pinned (.plain (OpenSpec.ofChange fnSpannedSpec)) fnSpannedCard

/-- THE SECOND FORM's CARD OF 'laws.FnSpanned'. -/
def fnSpannedUptoCard : Claim7 := { stood := { row := fnSpannedUptoRow, standIns := [], harness := (true, "4ecc038c95628d33b324b085003027a3a554da9ec664b1025612877bcd7bceb4"), looks := false }, kinds := [], alts := [], laidByText := true, laidKinds := [.data, .pinned], laidTests := true, laidLooks := .later }
def FnSpannedUptoCardSaid : Prop := Claim7.holds Tryz.pinned (.plain (OpenSpec.upto fnSpannedSpec)) fnSpannedUptoCard
end Rows
end Go.Proofs.YtdhkcnhmmiigoaaGreatDoor
