/-
  DERIVED. GIVEN WITH THE SEED: THE CARDS: each row of YthmdbgdagnhheaaDoorRows.lean that lists a variable, with what it lists TIED to the program's text (the seventh form; the later family's looks); each row that meets fmt, with fmt's text TOLD by the authors' own Lean function (tested against real Go, not proved from fmt's source: count such statements apart). THE CARD IS WHAT COUNTS. Prove the row's statement (the work); the ties are given (YthmdbgdagnhheaaDoorTie.lean); close each card by the builder's one call (the guide's Derived/Test/ToyasCard.lean, 'card_holds'). Laid BY PROGRAM, IN A SANDBOX (cutbox-door.mjs). By AI agents, Wed Nov 11 2026. No macro, syntax, notation, axiom, sorry.
-/
import Derived.Test.YthmdbgdagnhheaaDoorRows
import GoSem.ClaimSeven
namespace Go.Proofs.YthmdbgdagnhheaaDoor
namespace Rows

/-- THE TIED CARD OF 'tollhouselaw06.SigBack'. -/
def sigBackCard : Claim7 := { stood := { row := sigBackRow, standIns := [], harness := (true, "8e83a179ac68a5842bed9bcdc3a623328a317e3a7ffc5b8cddd29632c67911f6"), looks := false }, kinds := [], alts := [], laidByText := true, laidKinds := [.data], laidTests := true, laidLooks := .later }
def SigBackCardSaid : Prop := Claim7.holds Tryd.pinned (.plain (OpenSpec.ofChange sigBackSpec)) sigBackCard

/-- THE SECOND FORM's CARD OF 'tollhouselaw06.SigBack'. -/
def sigBackUptoCard : Claim7 := { stood := { row := sigBackUptoRow, standIns := [], harness := (true, "8e83a179ac68a5842bed9bcdc3a623328a317e3a7ffc5b8cddd29632c67911f6"), looks := false }, kinds := [], alts := [], laidByText := true, laidKinds := [.data], laidTests := true, laidLooks := .later }
def SigBackUptoCardSaid : Prop := Claim7.holds Tryd.pinned (.plain (OpenSpec.upto sigBackSpec)) sigBackUptoCard
end Rows
end Go.Proofs.YthmdbgdagnhheaaDoor
