/-
  No cell of these rows narrows 'for every input' (looked for: loops, veiled, ifaces, maps, wideKeys, modest, calm, conditions, laid).
  DERIVED. THE GIVEN ROWS OF THIS SEAT. 14 by the template 'for every input the law returns true; each argument reads behind the call as it read before'; 0 by the template 'total and deterministic' (their statements: YtmappjgknpldpaaTotals.lean).
  GIVEN WITH THE SEED: the statements are not yours to turn. If you find one false, say at which input.
  Laid BY PROGRAM, IN A SANDBOX (cutbox-rows.mjs): the forced cells as the released guide's own fill.sh prints them over the translation e0ba4d9f55b77ccc… (all of the seat's roots in one cut). By AI agents, Wed Nov 11 2026. No macro, syntax, notation, axiom, sorry.
-/
import Derived.Test.YtmappjgknpldpaaChecked
import GoSem.Claim
import GoSem.ClaimJoined
import GoSem.ClaimMapViews
import Derived.JoinedTies
import Derived.KernelRfl
namespace Go.Proofs.Ytmappjgknpldpaa
/- THE CELL 'sum', in the pinned program and in every row, IS THE sha256 OF THE DUMP (.gsa) THAT YtmappjgknpldpaaProg.lean LOADS. Nothing in Lean hashes anything: it is a label: what it is worth is what the hold of that sum in a sandbox is worth. -/
noncomputable def Try.pinned : Pinned := { name := "ytmappjgknpldpaa", sum := "e0ba4d9f55b77ccc4ad5a505211e2f7eb5299d607361d87cfe79759ee04d588f", checked := Try.checked }
namespace Rows
def none {H : Type} : Left H := { results := [], args := [] }

/-- 'tollhouselaw04.ScalarTimes': WHATEVER THE INPUT: true; the input reads as it did. -/
def scalarTimesSpec : ChangeSpec := { name := "scalarTimes", fn := fun _ => fun
  | [d1, d2] => { results := [.lit (.bool true)], args := [d1, d2] }
  | _ => none }
def scalarTimesRow : OpenClaim := { program := "ytmappjgknpldpaa", sum := "e0ba4d9f55b77ccc4ad5a505211e2f7eb5299d607361d87cfe79759ee04d588f", func := "tollhouse/tollhouselaw04.ScalarTimes", spec := "scalarTimes", inPlace := ["math/bits.Add64", "math/bits.Sub64"], apart := false }
def ScalarTimesSaid : Prop := scalarTimesRow.holds Try.pinned (OpenSpec.ofChange scalarTimesSpec)

/-- ITS FALSE NEIGHBOUR: 'it returns false'. Refute it at one input. -/
def scalarTimesWrong : ChangeSpec := { name := "scalarTimes", fn := fun _ => fun
  | [d1, d2] => { results := [.lit (.bool false)], args := [d1, d2] }
  | _ => none }
def ScalarTimesWrongFalsely : Prop := scalarTimesRow.holds Try.pinned (OpenSpec.ofChange scalarTimesWrong)

/-- 'tollhouselaw04.ScalarSum': WHATEVER THE INPUT: true; the input reads as it did. -/
def scalarSumSpec : ChangeSpec := { name := "scalarSum", fn := fun _ => fun
  | [d] => { results := [.lit (.bool true)], args := [d] }
  | _ => none }
def scalarSumRow : OpenClaim := { program := "ytmappjgknpldpaa", sum := "e0ba4d9f55b77ccc4ad5a505211e2f7eb5299d607361d87cfe79759ee04d588f", func := "tollhouse/tollhouselaw04.ScalarSum", spec := "scalarSum", inPlace := ["math/bits.Add64", "math/bits.Sub64"], apart := false }
def ScalarSumSaid : Prop := scalarSumRow.holds Try.pinned (OpenSpec.ofChange scalarSumSpec)

/-- ITS FALSE NEIGHBOUR: 'it returns false'. Refute it at one input. -/
def scalarSumWrong : ChangeSpec := { name := "scalarSum", fn := fun _ => fun
  | [d] => { results := [.lit (.bool false)], args := [d] }
  | _ => none }
def ScalarSumWrongFalsely : Prop := scalarSumRow.holds Try.pinned (OpenSpec.ofChange scalarSumWrong)

/-- 'tollhouselaw04.ScalarSums': WHATEVER THE INPUT: true; the input reads as it did. -/
def scalarSumsSpec : ChangeSpec := { name := "scalarSums", fn := fun _ => fun
  | [d1, d2] => { results := [.lit (.bool true)], args := [d1, d2] }
  | _ => none }
def scalarSumsRow : OpenClaim := { program := "ytmappjgknpldpaa", sum := "e0ba4d9f55b77ccc4ad5a505211e2f7eb5299d607361d87cfe79759ee04d588f", func := "tollhouse/tollhouselaw04.ScalarSums", spec := "scalarSums", inPlace := ["math/bits.Sub64", "math/bits.Add64"], apart := false }
def ScalarSumsSaid : Prop := scalarSumsRow.holds Try.pinned (OpenSpec.ofChange scalarSumsSpec)

/-- ITS FALSE NEIGHBOUR: 'it returns false'. Refute it at one input. -/
def scalarSumsWrong : ChangeSpec := { name := "scalarSums", fn := fun _ => fun
  | [d1, d2] => { results := [.lit (.bool false)], args := [d1, d2] }
  | _ => none }
def ScalarSumsWrongFalsely : Prop := scalarSumsRow.holds Try.pinned (OpenSpec.ofChange scalarSumsWrong)

/-- 'tollhouselaw04.ScalarLaws': WHATEVER THE INPUT: true; the input reads as it did. -/
def scalarLawsSpec : ChangeSpec := { name := "scalarLaws", fn := fun _ => fun
  | [d1, d2, d3] => { results := [.lit (.bool true)], args := [d1, d2, d3] }
  | _ => none }
def scalarLawsRow : OpenClaim := { program := "ytmappjgknpldpaa", sum := "e0ba4d9f55b77ccc4ad5a505211e2f7eb5299d607361d87cfe79759ee04d588f", func := "tollhouse/tollhouselaw04.ScalarLaws", spec := "scalarLaws", inPlace := ["math/bits.Add64", "math/bits.Sub64"], apart := false }
def ScalarLawsSaid : Prop := scalarLawsRow.holds Try.pinned (OpenSpec.ofChange scalarLawsSpec)

/-- ITS FALSE NEIGHBOUR: 'it returns false'. Refute it at one input. -/
def scalarLawsWrong : ChangeSpec := { name := "scalarLaws", fn := fun _ => fun
  | [d1, d2, d3] => { results := [.lit (.bool false)], args := [d1, d2, d3] }
  | _ => none }
def ScalarLawsWrongFalsely : Prop := scalarLawsRow.holds Try.pinned (OpenSpec.ofChange scalarLawsWrong)

/-- 'tollhouselaw04.ScalarInv': WHATEVER THE INPUT: true; the input reads as it did. -/
def scalarInvSpec : ChangeSpec := { name := "scalarInv", fn := fun _ => fun
  | [d] => { results := [.lit (.bool true)], args := [d] }
  | _ => none }
def scalarInvRow : OpenClaim := { program := "ytmappjgknpldpaa", sum := "e0ba4d9f55b77ccc4ad5a505211e2f7eb5299d607361d87cfe79759ee04d588f", func := "tollhouse/tollhouselaw04.ScalarInv", spec := "scalarInv", inPlace := ["math/bits.Sub64", "math/bits.Add64"], apart := false }
def ScalarInvSaid : Prop := scalarInvRow.holds Try.pinned (OpenSpec.ofChange scalarInvSpec)

/-- ITS FALSE NEIGHBOUR: 'it returns false'. Refute it at one input. -/
def scalarInvWrong : ChangeSpec := { name := "scalarInv", fn := fun _ => fun
  | [d] => { results := [.lit (.bool false)], args := [d] }
  | _ => none }
def ScalarInvWrongFalsely : Prop := scalarInvRow.holds Try.pinned (OpenSpec.ofChange scalarInvWrong)

/-- 'tollhouselaw03.FeTimes': WHATEVER THE INPUT: true; the input reads as it did. -/
def feTimesSpec : ChangeSpec := { name := "feTimes", fn := fun _ => fun
  | [d1, d2] => { results := [.lit (.bool true)], args := [d1, d2] }
  | _ => none }
def feTimesRow : OpenClaim := { program := "ytmappjgknpldpaa", sum := "e0ba4d9f55b77ccc4ad5a505211e2f7eb5299d607361d87cfe79759ee04d588f", func := "tollhouse/tollhouselaw03.FeTimes", spec := "feTimes", inPlace := ["math/bits.Add64", "math/bits.Sub64"], apart := false }
def FeTimesSaid : Prop := feTimesRow.holds Try.pinned (OpenSpec.ofChange feTimesSpec)

/-- ITS FALSE NEIGHBOUR: 'it returns false'. Refute it at one input. -/
def feTimesWrong : ChangeSpec := { name := "feTimes", fn := fun _ => fun
  | [d1, d2] => { results := [.lit (.bool false)], args := [d1, d2] }
  | _ => none }
def FeTimesWrongFalsely : Prop := feTimesRow.holds Try.pinned (OpenSpec.ofChange feTimesWrong)

/-- 'tollhouselaw03.FeRoots': WHATEVER THE INPUT: true; the input reads as it did. -/
def feRootsSpec : ChangeSpec := { name := "feRoots", fn := fun _ => fun
  | [d] => { results := [.lit (.bool true)], args := [d] }
  | _ => none }
def feRootsRow : OpenClaim := { program := "ytmappjgknpldpaa", sum := "e0ba4d9f55b77ccc4ad5a505211e2f7eb5299d607361d87cfe79759ee04d588f", func := "tollhouse/tollhouselaw03.FeRoots", spec := "feRoots", inPlace := ["math/bits.Add64", "math/bits.Sub64"], apart := false }
def FeRootsSaid : Prop := feRootsRow.holds Try.pinned (OpenSpec.ofChange feRootsSpec)

/-- ITS FALSE NEIGHBOUR: 'it returns false'. Refute it at one input. -/
def feRootsWrong : ChangeSpec := { name := "feRoots", fn := fun _ => fun
  | [d] => { results := [.lit (.bool false)], args := [d] }
  | _ => none }
def FeRootsWrongFalsely : Prop := feRootsRow.holds Try.pinned (OpenSpec.ofChange feRootsWrong)

/-- 'tollhouselaw03.FeSums': WHATEVER THE INPUT: true; the input reads as it did. -/
def feSumsSpec : ChangeSpec := { name := "feSums", fn := fun _ => fun
  | [d1, d2] => { results := [.lit (.bool true)], args := [d1, d2] }
  | _ => none }
def feSumsRow : OpenClaim := { program := "ytmappjgknpldpaa", sum := "e0ba4d9f55b77ccc4ad5a505211e2f7eb5299d607361d87cfe79759ee04d588f", func := "tollhouse/tollhouselaw03.FeSums", spec := "feSums", inPlace := ["math/bits.Sub64", "math/bits.Add64"], apart := false }
def FeSumsSaid : Prop := feSumsRow.holds Try.pinned (OpenSpec.ofChange feSumsSpec)

/-- ITS FALSE NEIGHBOUR: 'it returns false'. Refute it at one input. -/
def feSumsWrong : ChangeSpec := { name := "feSums", fn := fun _ => fun
  | [d1, d2] => { results := [.lit (.bool false)], args := [d1, d2] }
  | _ => none }
def FeSumsWrongFalsely : Prop := feSumsRow.holds Try.pinned (OpenSpec.ofChange feSumsWrong)

/-- 'tollhouselaw03.FeLaws': WHATEVER THE INPUT: true; the input reads as it did. -/
def feLawsSpec : ChangeSpec := { name := "feLaws", fn := fun _ => fun
  | [d1, d2, d3] => { results := [.lit (.bool true)], args := [d1, d2, d3] }
  | _ => none }
def feLawsRow : OpenClaim := { program := "ytmappjgknpldpaa", sum := "e0ba4d9f55b77ccc4ad5a505211e2f7eb5299d607361d87cfe79759ee04d588f", func := "tollhouse/tollhouselaw03.FeLaws", spec := "feLaws", inPlace := ["math/bits.Sub64", "math/bits.Add64"], apart := false }
def FeLawsSaid : Prop := feLawsRow.holds Try.pinned (OpenSpec.ofChange feLawsSpec)

/-- ITS FALSE NEIGHBOUR: 'it returns false'. Refute it at one input. -/
def feLawsWrong : ChangeSpec := { name := "feLaws", fn := fun _ => fun
  | [d1, d2, d3] => { results := [.lit (.bool false)], args := [d1, d2, d3] }
  | _ => none }
def FeLawsWrongFalsely : Prop := feLawsRow.holds Try.pinned (OpenSpec.ofChange feLawsWrong)

/-- 'tollhouselaw03.FeInv': WHATEVER THE INPUT: true; the input reads as it did. -/
def feInvSpec : ChangeSpec := { name := "feInv", fn := fun _ => fun
  | [d] => { results := [.lit (.bool true)], args := [d] }
  | _ => none }
def feInvRow : OpenClaim := { program := "ytmappjgknpldpaa", sum := "e0ba4d9f55b77ccc4ad5a505211e2f7eb5299d607361d87cfe79759ee04d588f", func := "tollhouse/tollhouselaw03.FeInv", spec := "feInv", inPlace := ["math/bits.Sub64", "math/bits.Add64"], apart := false }
def FeInvSaid : Prop := feInvRow.holds Try.pinned (OpenSpec.ofChange feInvSpec)

/-- ITS FALSE NEIGHBOUR: 'it returns false'. Refute it at one input. -/
def feInvWrong : ChangeSpec := { name := "feInv", fn := fun _ => fun
  | [d] => { results := [.lit (.bool false)], args := [d] }
  | _ => none }
def FeInvWrongFalsely : Prop := feInvRow.holds Try.pinned (OpenSpec.ofChange feInvWrong)

/-- 'tollhouselaw04.ScalarBytes': WHATEVER THE INPUT: true; the input reads as it did. -/
def scalarBytesSpec : ChangeSpec := { name := "scalarBytes", fn := fun _ => fun
  | [d1, d2] => { results := [.lit (.bool true)], args := [d1, d2] }
  | _ => none }
def scalarBytesRow : OpenClaim := { program := "ytmappjgknpldpaa", sum := "e0ba4d9f55b77ccc4ad5a505211e2f7eb5299d607361d87cfe79759ee04d588f", func := "tollhouse/tollhouselaw04.ScalarBytes", spec := "scalarBytes", inPlace := ["math/bits.Sub64", "math/bits.Add64"], apart := false }
def ScalarBytesSaid : Prop := scalarBytesRow.holds Try.pinned (OpenSpec.ofChange scalarBytesSpec)

/-- ITS FALSE NEIGHBOUR: 'it returns false'. Refute it at one input. -/
def scalarBytesWrong : ChangeSpec := { name := "scalarBytes", fn := fun _ => fun
  | [d1, d2] => { results := [.lit (.bool false)], args := [d1, d2] }
  | _ => none }
def ScalarBytesWrongFalsely : Prop := scalarBytesRow.holds Try.pinned (OpenSpec.ofChange scalarBytesWrong)

/-- 'tollhouselaw04.ScalarBack': WHATEVER THE INPUT: true; the input reads as it did. -/
def scalarBackSpec : ChangeSpec := { name := "scalarBack", fn := fun _ => fun
  | [d1, d2] => { results := [.lit (.bool true)], args := [d1, d2] }
  | _ => none }
def scalarBackRow : OpenClaim := { program := "ytmappjgknpldpaa", sum := "e0ba4d9f55b77ccc4ad5a505211e2f7eb5299d607361d87cfe79759ee04d588f", func := "tollhouse/tollhouselaw04.ScalarBack", spec := "scalarBack", inPlace := ["math/bits.Sub64", "math/bits.Add64"], apart := false }
def ScalarBackSaid : Prop := scalarBackRow.holds Try.pinned (OpenSpec.ofChange scalarBackSpec)

/-- ITS FALSE NEIGHBOUR: 'it returns false'. Refute it at one input. -/
def scalarBackWrong : ChangeSpec := { name := "scalarBack", fn := fun _ => fun
  | [d1, d2] => { results := [.lit (.bool false)], args := [d1, d2] }
  | _ => none }
def ScalarBackWrongFalsely : Prop := scalarBackRow.holds Try.pinned (OpenSpec.ofChange scalarBackWrong)

/-- 'tollhouselaw03.FeBytes': WHATEVER THE INPUT: true; the input reads as it did. -/
def feBytesSpec : ChangeSpec := { name := "feBytes", fn := fun _ => fun
  | [d1, d2] => { results := [.lit (.bool true)], args := [d1, d2] }
  | _ => none }
def feBytesRow : OpenClaim := { program := "ytmappjgknpldpaa", sum := "e0ba4d9f55b77ccc4ad5a505211e2f7eb5299d607361d87cfe79759ee04d588f", func := "tollhouse/tollhouselaw03.FeBytes", spec := "feBytes", inPlace := ["math/bits.Sub64", "math/bits.Add64"], apart := false }
def FeBytesSaid : Prop := feBytesRow.holds Try.pinned (OpenSpec.ofChange feBytesSpec)

/-- ITS FALSE NEIGHBOUR: 'it returns false'. Refute it at one input. -/
def feBytesWrong : ChangeSpec := { name := "feBytes", fn := fun _ => fun
  | [d1, d2] => { results := [.lit (.bool false)], args := [d1, d2] }
  | _ => none }
def FeBytesWrongFalsely : Prop := feBytesRow.holds Try.pinned (OpenSpec.ofChange feBytesWrong)

/-- 'tollhouselaw03.FeBack': WHATEVER THE INPUT: true; the input reads as it did. -/
def feBackSpec : ChangeSpec := { name := "feBack", fn := fun _ => fun
  | [d1, d2] => { results := [.lit (.bool true)], args := [d1, d2] }
  | _ => none }
def feBackRow : OpenClaim := { program := "ytmappjgknpldpaa", sum := "e0ba4d9f55b77ccc4ad5a505211e2f7eb5299d607361d87cfe79759ee04d588f", func := "tollhouse/tollhouselaw03.FeBack", spec := "feBack", inPlace := ["math/bits.Sub64", "math/bits.Add64"], apart := false }
def FeBackSaid : Prop := feBackRow.holds Try.pinned (OpenSpec.ofChange feBackSpec)

/-- ITS FALSE NEIGHBOUR: 'it returns false'. Refute it at one input. -/
def feBackWrong : ChangeSpec := { name := "feBack", fn := fun _ => fun
  | [d1, d2] => { results := [.lit (.bool false)], args := [d1, d2] }
  | _ => none }
def FeBackWrongFalsely : Prop := feBackRow.holds Try.pinned (OpenSpec.ofChange feBackWrong)

/- THE SECOND FORM. 'bulk': how many values and letters a reading holds, each counted each time it is reached (what is shared counts as often as it is met; a slice's spare places count too). A statement '..UptoSaid' is the law's where the arguments, and the package variables that the reading takes, are together of bulk at most 1048576: NARROWER than '..Said'. Prove '..Said' where nothing that the law and all that it calls make is longer than what came in: it says more and counts as full. Else prove '..UptoSaid'. A law counts once. -/
mutual
def uptoBulk {H : Type} : DataW H → Nat
  | .lit (.string bytes) => bytes.length + 1
  | .lit _ => 1
  | .nil => 1
  | .ptr d => uptoBulk d + 1
  | .slice elems spare => uptoBulkAll elems + uptoBulkAll spare + 1
  | .agg parts => uptoBulkAll parts + 1
  | .iface _ d => uptoBulk d + 1
  | .map entries => uptoBulkEntries entries + 1
  | .held _ => 1
def uptoBulkAll {H : Type} : List (DataW H) → Nat
  | [] => 0
  | d :: r => uptoBulk d + uptoBulkAll r
def uptoBulkEntries {H : Type} : List (Lit × DataW H) → Nat
  | [] => 0
  | x :: r => uptoBulkEntry x + uptoBulkEntries r
def uptoBulkEntry {H : Type} : Lit × DataW H → Nat
  | (.string bytes, d) => bytes.length + uptoBulk d + 1
  | (_, d) => uptoBulk d + 1
 end
def uptoSmall : (H : Type) → List (DataW H) → Bool := fun _ ds => decide (uptoBulkAll ds ≤ 1048576)
def OpenSpec.upto (s : _root_.Go.ChangeSpec) : _root_.Go.OpenSpec := { _root_.Go.OpenSpec.ofChange s with cond := some uptoSmall }

/-- 'tollhouselaw04.ScalarTimes', WHERE WHAT IT READS IS OF BULK AT MOST 1048576: true; the input reads as it did. -/
def scalarTimesUptoRow : OpenClaim := { program := "ytmappjgknpldpaa", sum := "e0ba4d9f55b77ccc4ad5a505211e2f7eb5299d607361d87cfe79759ee04d588f", func := "tollhouse/tollhouselaw04.ScalarTimes", spec := "scalarTimes", inPlace := ["math/bits.Add64", "math/bits.Sub64"], apart := false, narrowed := true }
def ScalarTimesUptoSaid : Prop := scalarTimesUptoRow.holds Try.pinned (OpenSpec.upto scalarTimesSpec)

/-- 'tollhouselaw04.ScalarSum', WHERE WHAT IT READS IS OF BULK AT MOST 1048576: true; the input reads as it did. -/
def scalarSumUptoRow : OpenClaim := { program := "ytmappjgknpldpaa", sum := "e0ba4d9f55b77ccc4ad5a505211e2f7eb5299d607361d87cfe79759ee04d588f", func := "tollhouse/tollhouselaw04.ScalarSum", spec := "scalarSum", inPlace := ["math/bits.Add64", "math/bits.Sub64"], apart := false, narrowed := true }
def ScalarSumUptoSaid : Prop := scalarSumUptoRow.holds Try.pinned (OpenSpec.upto scalarSumSpec)

/-- 'tollhouselaw04.ScalarSums', WHERE WHAT IT READS IS OF BULK AT MOST 1048576: true; the input reads as it did. -/
def scalarSumsUptoRow : OpenClaim := { program := "ytmappjgknpldpaa", sum := "e0ba4d9f55b77ccc4ad5a505211e2f7eb5299d607361d87cfe79759ee04d588f", func := "tollhouse/tollhouselaw04.ScalarSums", spec := "scalarSums", inPlace := ["math/bits.Sub64", "math/bits.Add64"], apart := false, narrowed := true }
def ScalarSumsUptoSaid : Prop := scalarSumsUptoRow.holds Try.pinned (OpenSpec.upto scalarSumsSpec)

/-- 'tollhouselaw04.ScalarLaws', WHERE WHAT IT READS IS OF BULK AT MOST 1048576: true; the input reads as it did. -/
def scalarLawsUptoRow : OpenClaim := { program := "ytmappjgknpldpaa", sum := "e0ba4d9f55b77ccc4ad5a505211e2f7eb5299d607361d87cfe79759ee04d588f", func := "tollhouse/tollhouselaw04.ScalarLaws", spec := "scalarLaws", inPlace := ["math/bits.Add64", "math/bits.Sub64"], apart := false, narrowed := true }
def ScalarLawsUptoSaid : Prop := scalarLawsUptoRow.holds Try.pinned (OpenSpec.upto scalarLawsSpec)

/-- 'tollhouselaw04.ScalarInv', WHERE WHAT IT READS IS OF BULK AT MOST 1048576: true; the input reads as it did. -/
def scalarInvUptoRow : OpenClaim := { program := "ytmappjgknpldpaa", sum := "e0ba4d9f55b77ccc4ad5a505211e2f7eb5299d607361d87cfe79759ee04d588f", func := "tollhouse/tollhouselaw04.ScalarInv", spec := "scalarInv", inPlace := ["math/bits.Sub64", "math/bits.Add64"], apart := false, narrowed := true }
def ScalarInvUptoSaid : Prop := scalarInvUptoRow.holds Try.pinned (OpenSpec.upto scalarInvSpec)

/-- 'tollhouselaw03.FeTimes', WHERE WHAT IT READS IS OF BULK AT MOST 1048576: true; the input reads as it did. -/
def feTimesUptoRow : OpenClaim := { program := "ytmappjgknpldpaa", sum := "e0ba4d9f55b77ccc4ad5a505211e2f7eb5299d607361d87cfe79759ee04d588f", func := "tollhouse/tollhouselaw03.FeTimes", spec := "feTimes", inPlace := ["math/bits.Add64", "math/bits.Sub64"], apart := false, narrowed := true }
def FeTimesUptoSaid : Prop := feTimesUptoRow.holds Try.pinned (OpenSpec.upto feTimesSpec)

/-- 'tollhouselaw03.FeRoots', WHERE WHAT IT READS IS OF BULK AT MOST 1048576: true; the input reads as it did. -/
def feRootsUptoRow : OpenClaim := { program := "ytmappjgknpldpaa", sum := "e0ba4d9f55b77ccc4ad5a505211e2f7eb5299d607361d87cfe79759ee04d588f", func := "tollhouse/tollhouselaw03.FeRoots", spec := "feRoots", inPlace := ["math/bits.Add64", "math/bits.Sub64"], apart := false, narrowed := true }
def FeRootsUptoSaid : Prop := feRootsUptoRow.holds Try.pinned (OpenSpec.upto feRootsSpec)

/-- 'tollhouselaw03.FeSums', WHERE WHAT IT READS IS OF BULK AT MOST 1048576: true; the input reads as it did. -/
def feSumsUptoRow : OpenClaim := { program := "ytmappjgknpldpaa", sum := "e0ba4d9f55b77ccc4ad5a505211e2f7eb5299d607361d87cfe79759ee04d588f", func := "tollhouse/tollhouselaw03.FeSums", spec := "feSums", inPlace := ["math/bits.Sub64", "math/bits.Add64"], apart := false, narrowed := true }
def FeSumsUptoSaid : Prop := feSumsUptoRow.holds Try.pinned (OpenSpec.upto feSumsSpec)

/-- 'tollhouselaw03.FeLaws', WHERE WHAT IT READS IS OF BULK AT MOST 1048576: true; the input reads as it did. -/
def feLawsUptoRow : OpenClaim := { program := "ytmappjgknpldpaa", sum := "e0ba4d9f55b77ccc4ad5a505211e2f7eb5299d607361d87cfe79759ee04d588f", func := "tollhouse/tollhouselaw03.FeLaws", spec := "feLaws", inPlace := ["math/bits.Sub64", "math/bits.Add64"], apart := false, narrowed := true }
def FeLawsUptoSaid : Prop := feLawsUptoRow.holds Try.pinned (OpenSpec.upto feLawsSpec)

/-- 'tollhouselaw03.FeInv', WHERE WHAT IT READS IS OF BULK AT MOST 1048576: true; the input reads as it did. -/
def feInvUptoRow : OpenClaim := { program := "ytmappjgknpldpaa", sum := "e0ba4d9f55b77ccc4ad5a505211e2f7eb5299d607361d87cfe79759ee04d588f", func := "tollhouse/tollhouselaw03.FeInv", spec := "feInv", inPlace := ["math/bits.Sub64", "math/bits.Add64"], apart := false, narrowed := true }
def FeInvUptoSaid : Prop := feInvUptoRow.holds Try.pinned (OpenSpec.upto feInvSpec)

/-- 'tollhouselaw04.ScalarBytes', WHERE WHAT IT READS IS OF BULK AT MOST 1048576: true; the input reads as it did. -/
def scalarBytesUptoRow : OpenClaim := { program := "ytmappjgknpldpaa", sum := "e0ba4d9f55b77ccc4ad5a505211e2f7eb5299d607361d87cfe79759ee04d588f", func := "tollhouse/tollhouselaw04.ScalarBytes", spec := "scalarBytes", inPlace := ["math/bits.Sub64", "math/bits.Add64"], apart := false, narrowed := true }
def ScalarBytesUptoSaid : Prop := scalarBytesUptoRow.holds Try.pinned (OpenSpec.upto scalarBytesSpec)

/-- 'tollhouselaw04.ScalarBack', WHERE WHAT IT READS IS OF BULK AT MOST 1048576: true; the input reads as it did. -/
def scalarBackUptoRow : OpenClaim := { program := "ytmappjgknpldpaa", sum := "e0ba4d9f55b77ccc4ad5a505211e2f7eb5299d607361d87cfe79759ee04d588f", func := "tollhouse/tollhouselaw04.ScalarBack", spec := "scalarBack", inPlace := ["math/bits.Sub64", "math/bits.Add64"], apart := false, narrowed := true }
def ScalarBackUptoSaid : Prop := scalarBackUptoRow.holds Try.pinned (OpenSpec.upto scalarBackSpec)

/-- 'tollhouselaw03.FeBytes', WHERE WHAT IT READS IS OF BULK AT MOST 1048576: true; the input reads as it did. -/
def feBytesUptoRow : OpenClaim := { program := "ytmappjgknpldpaa", sum := "e0ba4d9f55b77ccc4ad5a505211e2f7eb5299d607361d87cfe79759ee04d588f", func := "tollhouse/tollhouselaw03.FeBytes", spec := "feBytes", inPlace := ["math/bits.Sub64", "math/bits.Add64"], apart := false, narrowed := true }
def FeBytesUptoSaid : Prop := feBytesUptoRow.holds Try.pinned (OpenSpec.upto feBytesSpec)

/-- 'tollhouselaw03.FeBack', WHERE WHAT IT READS IS OF BULK AT MOST 1048576: true; the input reads as it did. -/
def feBackUptoRow : OpenClaim := { program := "ytmappjgknpldpaa", sum := "e0ba4d9f55b77ccc4ad5a505211e2f7eb5299d607361d87cfe79759ee04d588f", func := "tollhouse/tollhouselaw03.FeBack", spec := "feBack", inPlace := ["math/bits.Sub64", "math/bits.Add64"], apart := false, narrowed := true }
def FeBackUptoSaid : Prop := feBackUptoRow.holds Try.pinned (OpenSpec.upto feBackSpec)

end Rows
end Go.Proofs.Ytmappjgknpldpaa
