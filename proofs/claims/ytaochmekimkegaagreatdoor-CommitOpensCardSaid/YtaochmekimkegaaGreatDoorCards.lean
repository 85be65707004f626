/-
  DERIVED. GIVEN WITH THE SEED: THE CARDS: each row of YtaochmekimkegaaGreatDoorRows.lean that lists a variable, with what it lists TIED to the program's text (the seventh form; the later family's looks); each row that meets fmt, with fmt's text TOLD by the authors' own Lean function (tested against real Go, not proved from fmt's source: count such statements apart). THE CARD IS WHAT COUNTS. Prove the row's statement (the work); the ties are given (YtaochmekimkegaaGreatDoorTie.lean); close each card by the builder's one call (the guide's Derived/Test/ToyasCard.lean, 'card_holds'). Laid BY PROGRAM, IN A SANDBOX (cutbox-door.mjs). By AI agents, Wed Nov 11 2026. No macro, syntax, notation, axiom, sorry.
-/
import Derived.Test.YtaochmekimkegaaGreatDoorRows
import GoSem.ClaimSeven
namespace Go.Proofs.YtaochmekimkegaaGreatDoor
namespace Rows

/-- THE TIED CARD OF 'tollhouselaw07.CommitOpens'. -/
def commitOpensCard : Claim7 := { stood := { row := commitOpensRow, standIns := [], harness := (true, "21d983c85948f7a10da5b8b054857e2b2fec9319eb805a6b40b77c87d3ec91c6"), looks := false }, kinds := [], alts := [], laidByText := true, laidKinds := [.data, .data], laidTests := true, laidLooks := .later }
def CommitOpensCardSaid : Prop := Claim7.holds Tryz.pinned (.plain (OpenSpec.ofChange commitOpensSpec)) commitOpensCard

/-- THE SECOND FORM's CARD OF 'tollhouselaw07.CommitOpens'. -/
def commitOpensUptoCard : Claim7 := { stood := { row := commitOpensUptoRow, standIns := [], harness := (true, "21d983c85948f7a10da5b8b054857e2b2fec9319eb805a6b40b77c87d3ec91c6"), looks := false }, kinds := [], alts := [], laidByText := true, laidKinds := [.data, .data], laidTests := true, laidLooks := .later }
def CommitOpensUptoCardSaid : Prop := Claim7.holds Tryz.pinned (.plain (OpenSpec.upto commitOpensSpec)) commitOpensUptoCard
end Rows
end Go.Proofs.YtaochmekimkegaaGreatDoor
