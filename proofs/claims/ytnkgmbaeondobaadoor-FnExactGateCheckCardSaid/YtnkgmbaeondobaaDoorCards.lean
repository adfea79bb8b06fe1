/-
  DERIVED. GIVEN WITH THE SEED: THE CARDS: each row of YtnkgmbaeondobaaDoorRows.lean that lists a variable, with what it lists TIED to the program's text (the seventh form; the later family's looks); each row that meets fmt, with fmt's text TOLD by the authors' own Lean function (tested against real Go, not proved from fmt's source: count such statements apart). THE CARD IS WHAT COUNTS. Prove the row's statement (the work); the ties are given (YtnkgmbaeondobaaDoorTie.lean); close each card by the builder's one call (the guide's Derived/Test/ToyasCard.lean, 'card_holds'). Laid BY PROGRAM, IN A SANDBOX (cutbox-door.mjs). By AI agents, Wed Nov 11 2026. No macro, syntax, notation, axiom, sorry.
-/
import Derived.Test.YtnkgmbaeondobaaDoorRows
import GoSem.ClaimSeven
namespace Go.Proofs.YtnkgmbaeondobaaDoor
namespace Rows

/-- THE TIED CARD OF 'laws.FnExactGateCheck'. -/
def fnExactGateCheckCard : Claim7 := { stood := { row := fnExactGateCheckRow, standIns := [], harness := (true, "6fcacf17fe34f054e60a1a5eb57066a333e6c182ec074f1a9e12bd4dfad491de"), looks := true }, kinds := [], alts := [], laidByText := true, laidKinds := [.handle], laidTests := true, laidLooks := .later }
def FnExactGateCheckCardSaid : Prop := Claim7.holds Tryd.pinned (.plain (OpenSpec.ofChange fnExactGateCheckSpec)) fnExactGateCheckCard

/-- THE SECOND FORM's CARD OF 'laws.FnExactGateCheck'. -/
def fnExactGateCheckUptoCard : Claim7 := { stood := { row := fnExactGateCheckUptoRow, standIns := [], harness := (true, "6fcacf17fe34f054e60a1a5eb57066a333e6c182ec074f1a9e12bd4dfad491de"), looks := true }, kinds := [], alts := [], laidByText := true, laidKinds := [.handle], laidTests := true, laidLooks := .later }
def FnExactGateCheckUptoCardSaid : Prop := Claim7.holds Tryd.pinned (.plain (OpenSpec.upto fnExactGateCheckSpec)) fnExactGateCheckUptoCard
end Rows
end Go.Proofs.YtnkgmbaeondobaaDoor
