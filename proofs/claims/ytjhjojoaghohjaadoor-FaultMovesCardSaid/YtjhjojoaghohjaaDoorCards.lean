/-
  DERIVED. GIVEN WITH THE SEED: THE CARDS: each row of YtjhjojoaghohjaaDoorRows.lean that lists a variable, with what it lists TIED to the program's text (the seventh form; the later family's looks); each row that meets fmt, with fmt's text TOLD by the authors' own Lean function (tested against real Go, not proved from fmt's source: count such statements apart). THE CARD IS WHAT COUNTS. Prove the row's statement (the work); the ties are given (YtjhjojoaghohjaaDoorTie.lean); close each card by the builder's one call (the guide's Derived/Test/ToyasCard.lean, 'card_holds'). Laid BY PROGRAM, IN A SANDBOX (cutbox-door.mjs). By AI agents, Wed Nov 11 2026. No macro, syntax, notation, axiom, sorry.
-/
import Derived.Test.YtjhjojoaghohjaaDoorRows
import GoSem.ClaimSeven
namespace Go.Proofs.YtjhjojoaghohjaaDoor
namespace Rows

/-- THE TIED CARD OF 'telltalelaw09.FaultWraps'. -/
def faultWrapsCard : Claim7 := { stood := { row := faultWrapsRow, standIns := [], harness := (true, "ab8ae116c575419573c9a3fb1eb17934a6bd2e56a5dbae0345b5c82bad00041a"), looks := true }, kinds := [], alts := [], laidByText := true, laidKinds := [.handle], laidTests := true, laidLooks := .later }
def FaultWrapsCardSaid : Prop := Claim7.holds Tryd.pinned (.plain (OpenSpec.ofChange faultWrapsSpec)) faultWrapsCard

/-- THE TIED CARD OF 'telltalelaw09.FaultTells'. -/
def faultTellsCard : Claim7 := { stood := { row := faultTellsRow, standIns := [], harness := (true, "ab8ae116c575419573c9a3fb1eb17934a6bd2e56a5dbae0345b5c82bad00041a"), looks := true }, kinds := [], alts := [], laidByText := true, laidKinds := [.handle], laidTests := true, laidLooks := .later }
def FaultTellsCardSaid : Prop := Claim7.holds Tryd.pinned (.plain (OpenSpec.ofChange faultTellsSpec)) faultTellsCard

/-- THE TIED CARD OF 'telltalelaw09.FaultMoves'. -/
def faultMovesCard : Claim7 := { stood := { row := faultMovesRow, standIns := [], harness := (true, "ab8ae116c575419573c9a3fb1eb17934a6bd2e56a5dbae0345b5c82bad00041a"), looks := true }, kinds := [], alts := [], laidByText := true, laidKinds := [.handle], laidTests := true, laidLooks := .later }
def FaultMovesCardSaid : Prop := Claim7.holds Tryd.pinned (.plain (OpenSpec.ofChange faultMovesSpec)) faultMovesCard

/-- THE SECOND FORM's CARD OF 'telltalelaw09.FaultWraps'. -/
def faultWrapsUptoCard : Claim7 := { stood := { row := faultWrapsUptoRow, standIns := [], harness := (true, "ab8ae116c575419573c9a3fb1eb17934a6bd2e56a5dbae0345b5c82bad00041a"), looks := true }, kinds := [], alts := [], laidByText := true, laidKinds := [.handle], laidTests := true, laidLooks := .later }
def FaultWrapsUptoCardSaid : Prop := Claim7.holds Tryd.pinned (.plain (OpenSpec.upto faultWrapsSpec)) faultWrapsUptoCard

/-- THE SECOND FORM's CARD OF 'telltalelaw09.FaultTells'. -/
def faultTellsUptoCard : Claim7 := { stood := { row := faultTellsUptoRow, standIns := [], harness := (true, "ab8ae116c575419573c9a3fb1eb17934a6bd2e56a5dbae0345b5c82bad00041a"), looks := true }, kinds := [], alts := [], laidByText := true, laidKinds := [.handle], laidTests := true, laidLooks := .later }
def FaultTellsUptoCardSaid : Prop := Claim7.holds Tryd.pinned (.plain (OpenSpec.upto faultTellsSpec)) faultTellsUptoCard

/-- THE SECOND FORM's CARD OF 'telltalelaw09.FaultMoves'. -/
def faultMovesUptoCard : Claim7 := { stood := { row := faultMovesUptoRow, standIns := [], harness := (true, "ab8ae116c575419573c9a3fb1eb17934a6bd2e56a5dbae0345b5c82bad00041a"), looks := true }, kinds := [], alts := [], laidByText := true, laidKinds := [.handle], laidTests := true, laidLooks := .later }
def FaultMovesUptoCardSaid : Prop := Claim7.holds Tryd.pinned (.plain (OpenSpec.upto faultMovesSpec)) faultMovesUptoCard
end Rows
end Go.Proofs.YtjhjojoaghohjaaDoor
