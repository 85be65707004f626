/-
  DERIVED. GIVEN WITH THE SEED: THE CARDS: each row of YthmdbgdagnhheaaGreatDoorRows.lean that lists a variable, with what it lists TIED to the program's text (the seventh form; the later family's looks); each row that meets fmt, with fmt's text TOLD by the authors' own Lean function (tested against real Go, not proved from fmt's source: count such statements apart). THE CARD IS WHAT COUNTS. Prove the row's statement (the work); the ties are given (YthmdbgdagnhheaaGreatDoorTie.lean); close each card by the builder's one call (the guide's Derived/Test/ToyasCard.lean, 'card_holds'). Laid BY PROGRAM, IN A SANDBOX (cutbox-door.mjs). By AI agents, Wed Nov 11 2026. No macro, syntax, notation, axiom, sorry.
-/
import Derived.Test.YthmdbgdagnhheaaGreatDoorRows
import GoSem.ClaimSeven
namespace Go.Proofs.YthmdbgdagnhheaaGreatDoor
namespace Rows

/-- THE TIED CARD OF 'tollhouselaw06.SigSigns'. -/
def sigSignsCard : Claim7 := { stood := { row := sigSignsRow, standIns := [], harness := (true, "dc3fe88fd4394a8a028a35f3ecdb4c0da4503d43b643bf46a18688c36fa434e9"), looks := false }, kinds := [], alts := [], laidByText := true, laidKinds := [.data, .data], laidTests := true, laidLooks := .later }
def SigSignsCardSaid : Prop := Claim7.holds Tryz.pinned (.plain (OpenSpec.ofChange sigSignsSpec)) sigSignsCard

/-- THE TIED CARD OF 'tollhouselaw06.SigVerifies'. -/
def sigVerifiesCard : Claim7 := { stood := { row := sigVerifiesRow, standIns := [], harness := (true, "dc3fe88fd4394a8a028a35f3ecdb4c0da4503d43b643bf46a18688c36fa434e9"), looks := false }, kinds := [], alts := [], laidByText := true, laidKinds := [.data, .data], laidTests := true, laidLooks := .later }
def SigVerifiesCardSaid : Prop := Claim7.holds Tryz.pinned (.plain (OpenSpec.ofChange sigVerifiesSpec)) sigVerifiesCard

/-- THE SECOND FORM's CARD OF 'tollhouselaw06.SigSigns'. -/
def sigSignsUptoCard : Claim7 := { stood := { row := sigSignsUptoRow, standIns := [], harness := (true, "dc3fe88fd4394a8a028a35f3ecdb4c0da4503d43b643bf46a18688c36fa434e9"), looks := false }, kinds := [], alts := [], laidByText := true, laidKinds := [.data, .data], laidTests := true, laidLooks := .later }
def SigSignsUptoCardSaid : Prop := Claim7.holds Tryz.pinned (.plain (OpenSpec.upto sigSignsSpec)) sigSignsUptoCard

/-- THE SECOND FORM's CARD OF 'tollhouselaw06.SigVerifies'. -/
def sigVerifiesUptoCard : Claim7 := { stood := { row := sigVerifiesUptoRow, standIns := [], harness := (true, "dc3fe88fd4394a8a028a35f3ecdb4c0da4503d43b643bf46a18688c36fa434e9"), looks := false }, kinds := [], alts := [], laidByText := true, laidKinds := [.data, .data], laidTests := true, laidLooks := .later }
def SigVerifiesUptoCardSaid : Prop := Claim7.holds Tryz.pinned (.plain (OpenSpec.upto sigVerifiesSpec)) sigVerifiesUptoCard
end Rows
end Go.Proofs.YthmdbgdagnhheaaGreatDoor
