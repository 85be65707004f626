/-
  DERIVED. GIVEN WITH THE SEED: THE CARDS: each row of YtaochmekimkegaaDoorRows.lean that lists a variable, with what it lists TIED to the program's text (the seventh form; the later family's looks); each row that meets fmt, with fmt's text TOLD by the authors' own Lean function (tested against real Go, not proved from fmt's source: count such statements apart). THE CARD IS WHAT COUNTS. Prove the row's statement (the work); the ties are given (YtaochmekimkegaaDoorTie.lean); close each card by the builder's one call (the guide's Derived/Test/ToyasCard.lean, 'card_holds'). Laid BY PROGRAM, IN A SANDBOX (cutbox-door.mjs). By AI agents, Wed Nov 11 2026. No macro, syntax, notation, axiom, sorry.
-/
import Derived.Test.YtaochmekimkegaaDoorRows
import GoSem.ClaimSeven
namespace Go.Proofs.YtaochmekimkegaaDoor
namespace Rows

/-- THE TIED CARD OF 'tollhouselaw07.CommitSums'. -/
def commitSumsCard : Claim7 := { stood := { row := commitSumsRow, standIns := [], harness := (true, "6a1dcb8e7f432dece7c9605948b3ca1d1333aaf27636323218565c7f560afebe"), looks := false }, kinds := [], alts := [], laidByText := true, laidKinds := [.data], laidTests := true, laidLooks := .later }
def CommitSumsCardSaid : Prop := Claim7.holds Tryd.pinned (.plain (OpenSpec.ofChange commitSumsSpec)) commitSumsCard

/-- THE TIED CARD OF 'tollhouselaw07.CommitHides'. -/
def commitHidesCard : Claim7 := { stood := { row := commitHidesRow, standIns := [], harness := (true, "6a1dcb8e7f432dece7c9605948b3ca1d1333aaf27636323218565c7f560afebe"), looks := false }, kinds := [], alts := [], laidByText := true, laidKinds := [.data, .data], laidTests := true, laidLooks := .later }
def CommitHidesCardSaid : Prop := Claim7.holds Tryd.pinned (.plain (OpenSpec.ofChange commitHidesSpec)) commitHidesCard

/-- THE SECOND FORM's CARD OF 'tollhouselaw07.CommitSums'. -/
def commitSumsUptoCard : Claim7 := { stood := { row := commitSumsUptoRow, standIns := [], harness := (true, "6a1dcb8e7f432dece7c9605948b3ca1d1333aaf27636323218565c7f560afebe"), looks := false }, kinds := [], alts := [], laidByText := true, laidKinds := [.data], laidTests := true, laidLooks := .later }
def CommitSumsUptoCardSaid : Prop := Claim7.holds Tryd.pinned (.plain (OpenSpec.upto commitSumsSpec)) commitSumsUptoCard

/-- THE SECOND FORM's CARD OF 'tollhouselaw07.CommitHides'. -/
def commitHidesUptoCard : Claim7 := { stood := { row := commitHidesUptoRow, standIns := [], harness := (true, "6a1dcb8e7f432dece7c9605948b3ca1d1333aaf27636323218565c7f560afebe"), looks := false }, kinds := [], alts := [], laidByText := true, laidKinds := [.data, .data], laidTests := true, laidLooks := .later }
def CommitHidesUptoCardSaid : Prop := Claim7.holds Tryd.pinned (.plain (OpenSpec.upto commitHidesSpec)) commitHidesUptoCard
end Rows
end Go.Proofs.YtaochmekimkegaaDoor
