/-
  DERIVED. GIVEN WITH THE SEED: THE CARDS: each row of YtknjgeicagcdoaaDoorRows.lean that lists a variable, with what it lists TIED to the program's text (the seventh form; the later family's looks); each row that meets fmt, with fmt's text TOLD by the authors' own Lean function (tested against real Go, not proved from fmt's source: count such statements apart). THE CARD IS WHAT COUNTS. Prove the row's statement (the work); the ties are given (YtknjgeicagcdoaaDoorTie.lean); close each card by the builder's one call (the guide's Derived/Test/ToyasCard.lean, 'card_holds'). Laid BY PROGRAM, IN A SANDBOX (cutbox-door.mjs). By AI agents, Wed Nov 11 2026. No macro, syntax, notation, axiom, sorry.
-/
import Derived.Test.YtknjgeicagcdoaaDoorRows
import GoSem.ClaimSeven
namespace Go.Proofs.YtknjgeicagcdoaaDoor
namespace Rows

/-- THE TIED CARD OF 'tollhouselaw05.CurveGenerators'. -/
def curveGeneratorsCard : Claim7 := { stood := { row := curveGeneratorsRow, standIns := [], harness := (true, "74a205f646b3e668ebec5e7be39e9e2d772c6dde9ab677c6026481edcec4c0c5"), looks := false }, kinds := [], alts := [], laidByText := true, laidKinds := [.data, .data], laidTests := true, laidLooks := .later }
def CurveGeneratorsCardSaid : Prop := Claim7.holds Tryd.pinned (.plain (OpenSpec.ofChange curveGeneratorsSpec)) curveGeneratorsCard

/-- THE TIED CARD OF 'tollhouselaw07.CommitPoints'. -/
def commitPointsCard : Claim7 := { stood := { row := commitPointsRow, standIns := [], harness := (true, "74a205f646b3e668ebec5e7be39e9e2d772c6dde9ab677c6026481edcec4c0c5"), looks := false }, kinds := [], alts := [], laidByText := true, laidKinds := [.data, .data], laidTests := true, laidLooks := .later }
def CommitPointsCardSaid : Prop := Claim7.holds Tryd.pinned (.plain (OpenSpec.ofChange commitPointsSpec)) commitPointsCard

/-- THE TIED CARD OF 'tollhouselaw07.CommitSums'. -/
def commitSumsCard : Claim7 := { stood := { row := commitSumsRow, standIns := [], harness := (true, "74a205f646b3e668ebec5e7be39e9e2d772c6dde9ab677c6026481edcec4c0c5"), looks := false }, kinds := [], alts := [], laidByText := true, laidKinds := [.data], laidTests := true, laidLooks := .later }
def CommitSumsCardSaid : Prop := Claim7.holds Tryd.pinned (.plain (OpenSpec.ofChange commitSumsSpec)) commitSumsCard

/-- THE TIED CARD OF 'tollhouselaw07.CommitTags'. -/
def commitTagsCard : Claim7 := { stood := { row := commitTagsRow, standIns := [], harness := (true, "74a205f646b3e668ebec5e7be39e9e2d772c6dde9ab677c6026481edcec4c0c5"), looks := false }, kinds := [], alts := [], laidByText := true, laidKinds := [.data, .data], laidTests := true, laidLooks := .later }
def CommitTagsCardSaid : Prop := Claim7.holds Tryd.pinned (.plain (OpenSpec.ofChange commitTagsSpec)) commitTagsCard

/-- THE TIED CARD OF 'tollhouselaw07.CommitHides'. -/
def commitHidesCard : Claim7 := { stood := { row := commitHidesRow, standIns := [], harness := (true, "74a205f646b3e668ebec5e7be39e9e2d772c6dde9ab677c6026481edcec4c0c5"), looks := false }, kinds := [], alts := [], laidByText := true, laidKinds := [.data, .data], laidTests := true, laidLooks := .later }
def CommitHidesCardSaid : Prop := Claim7.holds Tryd.pinned (.plain (OpenSpec.ofChange commitHidesSpec)) commitHidesCard

/-- THE SECOND FORM's CARD OF 'tollhouselaw05.CurveGenerators'. -/
def curveGeneratorsUptoCard : Claim7 := { stood := { row := curveGeneratorsUptoRow, standIns := [], harness := (true, "74a205f646b3e668ebec5e7be39e9e2d772c6dde9ab677c6026481edcec4c0c5"), looks := false }, kinds := [], alts := [], laidByText := true, laidKinds := [.data, .data], laidTests := true, laidLooks := .later }
def CurveGeneratorsUptoCardSaid : Prop := Claim7.holds Tryd.pinned (.plain (OpenSpec.upto curveGeneratorsSpec)) curveGeneratorsUptoCard

/-- THE SECOND FORM's CARD OF 'tollhouselaw07.CommitPoints'. -/
def commitPointsUptoCard : Claim7 := { stood := { row := commitPointsUptoRow, standIns := [], harness := (true, "74a205f646b3e668ebec5e7be39e9e2d772c6dde9ab677c6026481edcec4c0c5"), looks := false }, kinds := [], alts := [], laidByText := true, laidKinds := [.data, .data], laidTests := true, laidLooks := .later }
def CommitPointsUptoCardSaid : Prop := Claim7.holds Tryd.pinned (.plain (OpenSpec.upto commitPointsSpec)) commitPointsUptoCard

/-- THE SECOND FORM's CARD OF 'tollhouselaw07.CommitSums'. -/
def commitSumsUptoCard : Claim7 := { stood := { row := commitSumsUptoRow, standIns := [], harness := (true, "74a205f646b3e668ebec5e7be39e9e2d772c6dde9ab677c6026481edcec4c0c5"), looks := false }, kinds := [], alts := [], laidByText := true, laidKinds := [.data], laidTests := true, laidLooks := .later }
def CommitSumsUptoCardSaid : Prop := Claim7.holds Tryd.pinned (.plain (OpenSpec.upto commitSumsSpec)) commitSumsUptoCard

/-- THE SECOND FORM's CARD OF 'tollhouselaw07.CommitTags'. -/
def commitTagsUptoCard : Claim7 := { stood := { row := commitTagsUptoRow, standIns := [], harness := (true, "74a205f646b3e668ebec5e7be39e9e2d772c6dde9ab677c6026481edcec4c0c5"), looks := false }, kinds := [], alts := [], laidByText := true, laidKinds := [.data, .data], laidTests := true, laidLooks := .later }
def CommitTagsUptoCardSaid : Prop := Claim7.holds Tryd.pinned (.plain (OpenSpec.upto commitTagsSpec)) commitTagsUptoCard

/-- THE SECOND FORM's CARD OF 'tollhouselaw07.CommitHides'. -/
def commitHidesUptoCard : Claim7 := { stood := { row := commitHidesUptoRow, standIns := [], harness := (true, "74a205f646b3e668ebec5e7be39e9e2d772c6dde9ab677c6026481edcec4c0c5"), looks := false }, kinds := [], alts := [], laidByText := true, laidKinds := [.data, .data], laidTests := true, laidLooks := .later }
def CommitHidesUptoCardSaid : Prop := Claim7.holds Tryd.pinned (.plain (OpenSpec.upto commitHidesSpec)) commitHidesUptoCard
end Rows
end Go.Proofs.YtknjgeicagcdoaaDoor
