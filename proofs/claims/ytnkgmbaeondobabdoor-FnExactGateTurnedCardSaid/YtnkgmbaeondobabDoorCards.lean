/-
  DERIVED. GIVEN WITH THE SEED: THE CARDS: each row of YtnkgmbaeondobabDoorRows.lean that lists a variable, with what it lists TIED to the program's text (the seventh form; the later family's looks); each row that meets fmt, with fmt's text TOLD by the authors' own Lean function (tested against real Go, not proved from fmt's source: count such statements apart). THE CARD IS WHAT COUNTS. Prove the row's statement (the work); the ties are given (YtnkgmbaeondobabDoorTie.lean); close each card by the builder's one call (the guide's Derived/Test/ToyasCard.lean, 'card_holds'). Laid BY PROGRAM, IN A SANDBOX (cutbox-door.mjs). By AI agents, Wed Nov 11 2026. No macro, syntax, notation, axiom, sorry.
-/
import Derived.Test.YtnkgmbaeondobabDoorRows
import GoSem.ClaimSeven
namespace Go.Proofs.YtnkgmbaeondobabDoor
namespace Rows

/-- THE TIED CARD OF 'laws.FnExactGateTurned'. -/
def fnExactGateTurnedCard : Claim7 := { stood := { row := fnExactGateTurnedRow, standIns := [], harness := (true, "7f27a4068f8e20ae0187a6209e3426f2a7288adead0ff6565519c3ef56833d6f"), looks := true }, kinds := [], alts := [], laidByText := true, laidKinds := [.handle], laidTests := true, laidLooks := .later }
def FnExactGateTurnedCardSaid : Prop := Claim7.holds Tryd.pinned (.plain (OpenSpec.ofChange fnExactGateTurnedSpec)) fnExactGateTurnedCard

/-- THE SECOND FORM's CARD OF 'laws.FnExactGateTurned'. -/
def fnExactGateTurnedUptoCard : Claim7 := { stood := { row := fnExactGateTurnedUptoRow, standIns := [], harness := (true, "7f27a4068f8e20ae0187a6209e3426f2a7288adead0ff6565519c3ef56833d6f"), looks := true }, kinds := [], alts := [], laidByText := true, laidKinds := [.handle], laidTests := true, laidLooks := .later }
def FnExactGateTurnedUptoCardSaid : Prop := Claim7.holds Tryd.pinned (.plain (OpenSpec.upto fnExactGateTurnedSpec)) fnExactGateTurnedUptoCard
end Rows
end Go.Proofs.YtnkgmbaeondobabDoor
