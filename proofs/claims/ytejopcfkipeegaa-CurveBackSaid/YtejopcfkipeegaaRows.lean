/-
  No cell of these rows narrows 'for every input' (looked for: loops, veiled, ifaces, maps, wideKeys, modest, calm, conditions, laid).
  DERIVED. THE GIVEN ROWS OF THIS SEAT. 10 by the template 'for every input the law returns true; each argument reads behind the call as it read before'; 0 by the template 'total and deterministic' (their statements: YtejopcfkipeegaaTotals.lean).
  GIVEN WITH THE SEED: the statements are not yours to turn. If you find one false, say at which input.
  Laid BY PROGRAM, IN A SANDBOX (cutbox-rows.mjs): the forced cells as the released guide's own fill.sh prints them over the translation 81e01affc1d729e2… (all of the seat's roots in one cut). By AI agents, Wed Nov 11 2026. No macro, syntax, notation, axiom, sorry.
-/
import Derived.Test.YtejopcfkipeegaaChecked
import GoSem.Claim
import GoSem.ClaimJoined
import GoSem.ClaimMapViews
import Derived.JoinedTies
import Derived.KernelRfl
namespace Go.Proofs.Ytejopcfkipeegaa
/- THE CELL 'sum', in the pinned program and in every row, IS THE sha256 OF THE DUMP (.gsa) THAT YtejopcfkipeegaaProg.lean LOADS. Nothing in Lean hashes anything: it is a label: what it is worth is what the hold of that sum in a sandbox is worth. -/
noncomputable def Try.pinned : Pinned := { name := "ytejopcfkipeegaa", sum := "81e01affc1d729e2368504febacd4914383323aef360fb1cdde0672632b179dc", checked := Try.checked }
namespace Rows
def none {H : Type} : Left H := { results := [], args := [] }

/-- 'tollhouselaw05.CurveRights': WHATEVER THE INPUT: true; the input reads as it did. -/
def curveRightsSpec : ChangeSpec := { name := "curveRights", fn := fun _ => fun
  | [d] => { results := [.lit (.bool true)], args := [d] }
  | _ => none }
def curveRightsRow : OpenClaim := { program := "ytejopcfkipeegaa", sum := "81e01affc1d729e2368504febacd4914383323aef360fb1cdde0672632b179dc", func := "tollhouse/tollhouselaw05.CurveRights", spec := "curveRights", inPlace := ["math/bits.Sub64", "math/bits.Add64"], apart := false }
def CurveRightsSaid : Prop := curveRightsRow.holds Try.pinned (OpenSpec.ofChange curveRightsSpec)

/-- ITS FALSE NEIGHBOUR: 'it returns false'. Refute it at one input. -/
def curveRightsWrong : ChangeSpec := { name := "curveRights", fn := fun _ => fun
  | [d] => { results := [.lit (.bool false)], args := [d] }
  | _ => none }
def CurveRightsWrongFalsely : Prop := curveRightsRow.holds Try.pinned (OpenSpec.ofChange curveRightsWrong)

/-- 'tollhouselaw05.CurveAdds': WHATEVER THE INPUT: true; the input reads as it did. -/
def curveAddsSpec : ChangeSpec := { name := "curveAdds", fn := fun _ => fun
  | [d1, d2] => { results := [.lit (.bool true)], args := [d1, d2] }
  | _ => none }
def curveAddsRow : OpenClaim := { program := "ytejopcfkipeegaa", sum := "81e01affc1d729e2368504febacd4914383323aef360fb1cdde0672632b179dc", func := "tollhouse/tollhouselaw05.CurveAdds", spec := "curveAdds", inPlace := ["math/bits.Sub64", "math/bits.Add64"], apart := false }
def CurveAddsSaid : Prop := curveAddsRow.holds Try.pinned (OpenSpec.ofChange curveAddsSpec)

/-- ITS FALSE NEIGHBOUR: 'it returns false'. Refute it at one input. -/
def curveAddsWrong : ChangeSpec := { name := "curveAdds", fn := fun _ => fun
  | [d1, d2] => { results := [.lit (.bool false)], args := [d1, d2] }
  | _ => none }
def CurveAddsWrongFalsely : Prop := curveAddsRow.holds Try.pinned (OpenSpec.ofChange curveAddsWrong)

/-- 'tollhouselaw05.CurveLaws': WHATEVER THE INPUT: true; the input reads as it did. -/
def curveLawsSpec : ChangeSpec := { name := "curveLaws", fn := fun _ => fun
  | [d1, d2, d3] => { results := [.lit (.bool true)], args := [d1, d2, d3] }
  | _ => none }
def curveLawsRow : OpenClaim := { program := "ytejopcfkipeegaa", sum := "81e01affc1d729e2368504febacd4914383323aef360fb1cdde0672632b179dc", func := "tollhouse/tollhouselaw05.CurveLaws", spec := "curveLaws", inPlace := ["math/bits.Sub64", "math/bits.Add64"], apart := false }
def CurveLawsSaid : Prop := curveLawsRow.holds Try.pinned (OpenSpec.ofChange curveLawsSpec)

/-- ITS FALSE NEIGHBOUR: 'it returns false'. Refute it at one input. -/
def curveLawsWrong : ChangeSpec := { name := "curveLaws", fn := fun _ => fun
  | [d1, d2, d3] => { results := [.lit (.bool false)], args := [d1, d2, d3] }
  | _ => none }
def CurveLawsWrongFalsely : Prop := curveLawsRow.holds Try.pinned (OpenSpec.ofChange curveLawsWrong)

/-- 'tollhouselaw05.CurveMuls': WHATEVER THE INPUT: true; the input reads as it did. -/
def curveMulsSpec : ChangeSpec := { name := "curveMuls", fn := fun _ => fun
  | [d1, d2] => { results := [.lit (.bool true)], args := [d1, d2] }
  | _ => none }
def curveMulsRow : OpenClaim := { program := "ytejopcfkipeegaa", sum := "81e01affc1d729e2368504febacd4914383323aef360fb1cdde0672632b179dc", func := "tollhouse/tollhouselaw05.CurveMuls", spec := "curveMuls", inPlace := ["math/bits.Sub64", "math/bits.Add64"], apart := false }
def CurveMulsSaid : Prop := curveMulsRow.holds Try.pinned (OpenSpec.ofChange curveMulsSpec)

/-- ITS FALSE NEIGHBOUR: 'it returns false'. Refute it at one input. -/
def curveMulsWrong : ChangeSpec := { name := "curveMuls", fn := fun _ => fun
  | [d1, d2] => { results := [.lit (.bool false)], args := [d1, d2] }
  | _ => none }
def CurveMulsWrongFalsely : Prop := curveMulsRow.holds Try.pinned (OpenSpec.ofChange curveMulsWrong)

/-- 'tollhouselaw05.CurveSpreads': WHATEVER THE INPUT: true; the input reads as it did. -/
def curveSpreadsSpec : ChangeSpec := { name := "curveSpreads", fn := fun _ => fun
  | [d1, d2, d3] => { results := [.lit (.bool true)], args := [d1, d2, d3] }
  | _ => none }
def curveSpreadsRow : OpenClaim := { program := "ytejopcfkipeegaa", sum := "81e01affc1d729e2368504febacd4914383323aef360fb1cdde0672632b179dc", func := "tollhouse/tollhouselaw05.CurveSpreads", spec := "curveSpreads", inPlace := ["math/bits.Add64", "math/bits.Sub64"], apart := false }
def CurveSpreadsSaid : Prop := curveSpreadsRow.holds Try.pinned (OpenSpec.ofChange curveSpreadsSpec)

/-- ITS FALSE NEIGHBOUR: 'it returns false'. Refute it at one input. -/
def curveSpreadsWrong : ChangeSpec := { name := "curveSpreads", fn := fun _ => fun
  | [d1, d2, d3] => { results := [.lit (.bool false)], args := [d1, d2, d3] }
  | _ => none }
def CurveSpreadsWrongFalsely : Prop := curveSpreadsRow.holds Try.pinned (OpenSpec.ofChange curveSpreadsWrong)

/-- 'tollhouselaw05.CurveLifts': WHATEVER THE INPUT: true; the input reads as it did. -/
def curveLiftsSpec : ChangeSpec := { name := "curveLifts", fn := fun _ => fun
  | [d] => { results := [.lit (.bool true)], args := [d] }
  | _ => none }
def curveLiftsRow : OpenClaim := { program := "ytejopcfkipeegaa", sum := "81e01affc1d729e2368504febacd4914383323aef360fb1cdde0672632b179dc", func := "tollhouse/tollhouselaw05.CurveLifts", spec := "curveLifts", inPlace := ["math/bits.Sub64", "math/bits.Add64"], apart := false }
def CurveLiftsSaid : Prop := curveLiftsRow.holds Try.pinned (OpenSpec.ofChange curveLiftsSpec)

/-- ITS FALSE NEIGHBOUR: 'it returns false'. Refute it at one input. -/
def curveLiftsWrong : ChangeSpec := { name := "curveLifts", fn := fun _ => fun
  | [d] => { results := [.lit (.bool false)], args := [d] }
  | _ => none }
def CurveLiftsWrongFalsely : Prop := curveLiftsRow.holds Try.pinned (OpenSpec.ofChange curveLiftsWrong)

/-- 'tollhouselaw05.CurveSums': WHATEVER THE INPUT: true; the input reads as it did. -/
def curveSumsSpec : ChangeSpec := { name := "curveSums", fn := fun _ => fun
  | [d1, d2] => { results := [.lit (.bool true)], args := [d1, d2] }
  | _ => none }
def curveSumsRow : OpenClaim := { program := "ytejopcfkipeegaa", sum := "81e01affc1d729e2368504febacd4914383323aef360fb1cdde0672632b179dc", func := "tollhouse/tollhouselaw05.CurveSums", spec := "curveSums", inPlace := ["math/bits.Sub64", "math/bits.Add64"], unfollowed := true, recurses := true, apart := false }
def CurveSumsSaid : Prop := curveSumsRow.holds Try.pinned (OpenSpec.ofChange curveSumsSpec)

/-- ITS FALSE NEIGHBOUR: 'it returns false'. Refute it at one input. -/
def curveSumsWrong : ChangeSpec := { name := "curveSums", fn := fun _ => fun
  | [d1, d2] => { results := [.lit (.bool false)], args := [d1, d2] }
  | _ => none }
def CurveSumsWrongFalsely : Prop := curveSumsRow.holds Try.pinned (OpenSpec.ofChange curveSumsWrong)

/-- 'tollhouselaw05.CurveCodes': WHATEVER THE INPUT: true; the input reads as it did. -/
def curveCodesSpec : ChangeSpec := { name := "curveCodes", fn := fun _ => fun
  | [d1, d2] => { results := [.lit (.bool true)], args := [d1, d2] }
  | _ => none }
def curveCodesRow : OpenClaim := { program := "ytejopcfkipeegaa", sum := "81e01affc1d729e2368504febacd4914383323aef360fb1cdde0672632b179dc", func := "tollhouse/tollhouselaw05.CurveCodes", spec := "curveCodes", inPlace := ["math/bits.Sub64", "math/bits.Add64"], apart := false }
def CurveCodesSaid : Prop := curveCodesRow.holds Try.pinned (OpenSpec.ofChange curveCodesSpec)

/-- ITS FALSE NEIGHBOUR: 'it returns false'. Refute it at one input. -/
def curveCodesWrong : ChangeSpec := { name := "curveCodes", fn := fun _ => fun
  | [d1, d2] => { results := [.lit (.bool false)], args := [d1, d2] }
  | _ => none }
def CurveCodesWrongFalsely : Prop := curveCodesRow.holds Try.pinned (OpenSpec.ofChange curveCodesWrong)

/-- 'tollhouselaw05.CurveBack': WHATEVER THE INPUT: true; the input reads as it did. -/
def curveBackSpec : ChangeSpec := { name := "curveBack", fn := fun _ => fun
  | [d1, d2] => { results := [.lit (.bool true)], args := [d1, d2] }
  | _ => none }
def curveBackRow : OpenClaim := { program := "ytejopcfkipeegaa", sum := "81e01affc1d729e2368504febacd4914383323aef360fb1cdde0672632b179dc", func := "tollhouse/tollhouselaw05.CurveBack", spec := "curveBack", inPlace := ["math/bits.Sub64", "math/bits.Add64"], apart := false }
def CurveBackSaid : Prop := curveBackRow.holds Try.pinned (OpenSpec.ofChange curveBackSpec)

/-- ITS FALSE NEIGHBOUR: 'it returns false'. Refute it at one input. -/
def curveBackWrong : ChangeSpec := { name := "curveBack", fn := fun _ => fun
  | [d1, d2] => { results := [.lit (.bool false)], args := [d1, d2] }
  | _ => none }
def CurveBackWrongFalsely : Prop := curveBackRow.holds Try.pinned (OpenSpec.ofChange curveBackWrong)

/-- 'tollhouselaw07.CommitBalanced': WHATEVER THE INPUT: true; the input reads as it did. -/
def commitBalancedSpec : ChangeSpec := { name := "commitBalanced", fn := fun _ => fun
  | [d1, d2] => { results := [.lit (.bool true)], args := [d1, d2] }
  | _ => none }
def commitBalancedRow : OpenClaim := { program := "ytejopcfkipeegaa", sum := "81e01affc1d729e2368504febacd4914383323aef360fb1cdde0672632b179dc", func := "tollhouse/tollhouselaw07.CommitBalanced", spec := "commitBalanced", inPlace := ["math/bits.Sub64", "math/bits.Add64"], unfollowed := true, recurses := true, apart := false }
def CommitBalancedSaid : Prop := commitBalancedRow.holds Try.pinned (OpenSpec.ofChange commitBalancedSpec)

/-- ITS FALSE NEIGHBOUR: 'it returns false'. Refute it at one input. -/
def commitBalancedWrong : ChangeSpec := { name := "commitBalanced", fn := fun _ => fun
  | [d1, d2] => { results := [.lit (.bool false)], args := [d1, d2] }
  | _ => none }
def CommitBalancedWrongFalsely : Prop := commitBalancedRow.holds Try.pinned (OpenSpec.ofChange commitBalancedWrong)

/- THE SECOND FORM. 'bulk': how many values and letters a reading holds, each counted each time it is reached (what is shared counts as often as it is met; a slice's spare places count too). A statement '..UptoSaid' is the law's where the arguments, and the package variables that the reading takes, are together of bulk at most 1048576: NARROWER than '..Said'. Prove '..Said' where nothing that the law and all that it calls make is longer than what came in: it says more and counts as full. Else prove '..UptoSaid'. A law counts once. -/
mutual
def uptoBulk {H : Type} : DataW H → Nat
  | .lit (.string bytes) => bytes.length + 1
  | .lit _ => 1
  | .nil => 1
  | .ptr d => uptoBulk d + 1
  | .slice elems spare => uptoBulkAll elems + uptoBulkAll spare + 1
  | .agg parts => uptoBulkAll parts + 1
  | .iface _ d => uptoBulk d + 1
  | .map entries => uptoBulkEntries entries + 1
  | .held _ => 1
def uptoBulkAll {H : Type} : List (DataW H) → Nat
  | [] => 0
  | d :: r => uptoBulk d + uptoBulkAll r
def uptoBulkEntries {H : Type} : List (Lit × DataW H) → Nat
  | [] => 0
  | x :: r => uptoBulkEntry x + uptoBulkEntries r
def uptoBulkEntry {H : Type} : Lit × DataW H → Nat
  | (.string bytes, d) => bytes.length + uptoBulk d + 1
  | (_, d) => uptoBulk d + 1
 end
def uptoSmall : (H : Type) → List (DataW H) → Bool := fun _ ds => decide (uptoBulkAll ds ≤ 1048576)
def OpenSpec.upto (s : _root_.Go.ChangeSpec) : _root_.Go.OpenSpec := { _root_.Go.OpenSpec.ofChange s with cond := some uptoSmall }

/-- 'tollhouselaw05.CurveRights', WHERE WHAT IT READS IS OF BULK AT MOST 1048576: true; the input reads as it did. -/
def curveRightsUptoRow : OpenClaim := { program := "ytejopcfkipeegaa", sum := "81e01affc1d729e2368504febacd4914383323aef360fb1cdde0672632b179dc", func := "tollhouse/tollhouselaw05.CurveRights", spec := "curveRights", inPlace := ["math/bits.Sub64", "math/bits.Add64"], apart := false, narrowed := true }
def CurveRightsUptoSaid : Prop := curveRightsUptoRow.holds Try.pinned (OpenSpec.upto curveRightsSpec)

/-- 'tollhouselaw05.CurveAdds', WHERE WHAT IT READS IS OF BULK AT MOST 1048576: true; the input reads as it did. -/
def curveAddsUptoRow : OpenClaim := { program := "ytejopcfkipeegaa", sum := "81e01affc1d729e2368504febacd4914383323aef360fb1cdde0672632b179dc", func := "tollhouse/tollhouselaw05.CurveAdds", spec := "curveAdds", inPlace := ["math/bits.Sub64", "math/bits.Add64"], apart := false, narrowed := true }
def CurveAddsUptoSaid : Prop := curveAddsUptoRow.holds Try.pinned (OpenSpec.upto curveAddsSpec)

/-- 'tollhouselaw05.CurveLaws', WHERE WHAT IT READS IS OF BULK AT MOST 1048576: true; the input reads as it did. -/
def curveLawsUptoRow : OpenClaim := { program := "ytejopcfkipeegaa", sum := "81e01affc1d729e2368504febacd4914383323aef360fb1cdde0672632b179dc", func := "tollhouse/tollhouselaw05.CurveLaws", spec := "curveLaws", inPlace := ["math/bits.Sub64", "math/bits.Add64"], apart := false, narrowed := true }
def CurveLawsUptoSaid : Prop := curveLawsUptoRow.holds Try.pinned (OpenSpec.upto curveLawsSpec)

/-- 'tollhouselaw05.CurveMuls', WHERE WHAT IT READS IS OF BULK AT MOST 1048576: true; the input reads as it did. -/
def curveMulsUptoRow : OpenClaim := { program := "ytejopcfkipeegaa", sum := "81e01affc1d729e2368504febacd4914383323aef360fb1cdde0672632b179dc", func := "tollhouse/tollhouselaw05.CurveMuls", spec := "curveMuls", inPlace := ["math/bits.Sub64", "math/bits.Add64"], apart := false, narrowed := true }
def CurveMulsUptoSaid : Prop := curveMulsUptoRow.holds Try.pinned (OpenSpec.upto curveMulsSpec)

/-- 'tollhouselaw05.CurveSpreads', WHERE WHAT IT READS IS OF BULK AT MOST 1048576: true; the input reads as it did. -/
def curveSpreadsUptoRow : OpenClaim := { program := "ytejopcfkipeegaa", sum := "81e01affc1d729e2368504febacd4914383323aef360fb1cdde0672632b179dc", func := "tollhouse/tollhouselaw05.CurveSpreads", spec := "curveSpreads", inPlace := ["math/bits.Add64", "math/bits.Sub64"], apart := false, narrowed := true }
def CurveSpreadsUptoSaid : Prop := curveSpreadsUptoRow.holds Try.pinned (OpenSpec.upto curveSpreadsSpec)

/-- 'tollhouselaw05.CurveLifts', WHERE WHAT IT READS IS OF BULK AT MOST 1048576: true; the input reads as it did. -/
def curveLiftsUptoRow : OpenClaim := { program := "ytejopcfkipeegaa", sum := "81e01affc1d729e2368504febacd4914383323aef360fb1cdde0672632b179dc", func := "tollhouse/tollhouselaw05.CurveLifts", spec := "curveLifts", inPlace := ["math/bits.Sub64", "math/bits.Add64"], apart := false, narrowed := true }
def CurveLiftsUptoSaid : Prop := curveLiftsUptoRow.holds Try.pinned (OpenSpec.upto curveLiftsSpec)

/-- 'tollhouselaw05.CurveSums', WHERE WHAT IT READS IS OF BULK AT MOST 1048576: true; the input reads as it did. -/
def curveSumsUptoRow : OpenClaim := { program := "ytejopcfkipeegaa", sum := "81e01affc1d729e2368504febacd4914383323aef360fb1cdde0672632b179dc", func := "tollhouse/tollhouselaw05.CurveSums", spec := "curveSums", inPlace := ["math/bits.Sub64", "math/bits.Add64"], unfollowed := true, recurses := true, apart := false, narrowed := true }
def CurveSumsUptoSaid : Prop := curveSumsUptoRow.holds Try.pinned (OpenSpec.upto curveSumsSpec)

/-- 'tollhouselaw05.CurveCodes', WHERE WHAT IT READS IS OF BULK AT MOST 1048576: true; the input reads as it did. -/
def curveCodesUptoRow : OpenClaim := { program := "ytejopcfkipeegaa", sum := "81e01affc1d729e2368504febacd4914383323aef360fb1cdde0672632b179dc", func := "tollhouse/tollhouselaw05.CurveCodes", spec := "curveCodes", inPlace := ["math/bits.Sub64", "math/bits.Add64"], apart := false, narrowed := true }
def CurveCodesUptoSaid : Prop := curveCodesUptoRow.holds Try.pinned (OpenSpec.upto curveCodesSpec)

/-- 'tollhouselaw05.CurveBack', WHERE WHAT IT READS IS OF BULK AT MOST 1048576: true; the input reads as it did. -/
def curveBackUptoRow : OpenClaim := { program := "ytejopcfkipeegaa", sum := "81e01affc1d729e2368504febacd4914383323aef360fb1cdde0672632b179dc", func := "tollhouse/tollhouselaw05.CurveBack", spec := "curveBack", inPlace := ["math/bits.Sub64", "math/bits.Add64"], apart := false, narrowed := true }
def CurveBackUptoSaid : Prop := curveBackUptoRow.holds Try.pinned (OpenSpec.upto curveBackSpec)

/-- 'tollhouselaw07.CommitBalanced', WHERE WHAT IT READS IS OF BULK AT MOST 1048576: true; the input reads as it did. -/
def commitBalancedUptoRow : OpenClaim := { program := "ytejopcfkipeegaa", sum := "81e01affc1d729e2368504febacd4914383323aef360fb1cdde0672632b179dc", func := "tollhouse/tollhouselaw07.CommitBalanced", spec := "commitBalanced", inPlace := ["math/bits.Sub64", "math/bits.Add64"], unfollowed := true, recurses := true, apart := false, narrowed := true }
def CommitBalancedUptoSaid : Prop := commitBalancedUptoRow.holds Try.pinned (OpenSpec.upto commitBalancedSpec)

end Rows
end Go.Proofs.Ytejopcfkipeegaa
