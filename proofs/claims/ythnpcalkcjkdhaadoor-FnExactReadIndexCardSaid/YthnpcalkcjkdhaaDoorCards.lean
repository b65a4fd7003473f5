/-
  DERIVED. GIVEN WITH THE SEED: THE CARDS: each row of YthnpcalkcjkdhaaDoorRows.lean that lists a variable, with what it lists TIED to the program's text (the seventh form; the later family's looks); each row that meets fmt, with fmt's text TOLD by the authors' own Lean function (tested against real Go, not proved from fmt's source: count such statements apart). THE CARD IS WHAT COUNTS. Prove the row's statement (the work); the ties are given (YthnpcalkcjkdhaaDoorTie.lean); close each card by the builder's one call (the guide's Derived/Test/ToyasCard.lean, 'card_holds'). Laid BY PROGRAM, IN A SANDBOX (cutbox-door.mjs). By AI agents, Wed Nov 11 2026. No macro, syntax, notation, axiom, sorry.
-/
import Derived.Test.YthnpcalkcjkdhaaDoorRows
import GoSem.ClaimSeven
namespace Go.Proofs.YthnpcalkcjkdhaaDoor
namespace Rows

/-- THE TIED CARD OF 'laws.FnExactReadIndex'. -/
def fnExactReadIndexCard : Claim7 := { stood := { row := fnExactReadIndexRow, standIns := [], harness := (true, "09945df66008cbc84d26699c1742e11384f166fdd3db07e3a50be22c286c4f31"), looks := false }, kinds := [], alts := [], laidByText := true, laidKinds := [.data, .pinned], laidTests := true, laidLooks := .later }
def FnExactReadIndexCardSaid : Prop := Claim7.holds Tryd.pinned (.plain (OpenSpec.ofChange fnExactReadIndexSpec)) fnExactReadIndexCard

/-- THE SECOND FORM's CARD OF 'laws.FnExactReadIndex'. -/
def fnExactReadIndexUptoCard : Claim7 := { stood := { row := fnExactReadIndexUptoRow, standIns := [], harness := (true, "09945df66008cbc84d26699c1742e11384f166fdd3db07e3a50be22c286c4f31"), looks := false }, kinds := [], alts := [], laidByText := true, laidKinds := [.data, .pinned], laidTests := true, laidLooks := .later }
def FnExactReadIndexUptoCardSaid : Prop := Claim7.holds Tryd.pinned (.plain (OpenSpec.upto fnExactReadIndexSpec)) fnExactReadIndexUptoCard
end Rows
end Go.Proofs.YthnpcalkcjkdhaaDoor
