/-
  No cell of these rows narrows 'for every input' (looked for: loops, veiled, ifaces, maps, wideKeys, modest, calm, conditions, laid).
  DERIVED. THE GIVEN ROWS OF THIS SEAT. 14 by the template 'for every input the law returns true; each argument reads behind the call as it read before'; 0 by the template 'total and deterministic' (their statements: YtnmadmcegdpecaaTotals.lean).
  GIVEN WITH THE SEED: the statements are not yours to turn. If you find one false, say at which input.
  Laid BY PROGRAM, IN A SANDBOX (cutbox-rows.mjs): the forced cells as the released guide's own fill.sh prints them over the translation 62a8fd3a6e7cc40e… (all of the seat's roots in one cut). By AI agents, Wed Nov 11 2026. No macro, syntax, notation, axiom, sorry.
-/
import Derived.Test.YtnmadmcegdpecaaChecked
import GoSem.Claim
import GoSem.ClaimJoined
import GoSem.ClaimMapViews
import Derived.JoinedTies
import Derived.KernelRfl
namespace Go.Proofs.Ytnmadmcegdpecaa
/- THE CELL 'sum', in the pinned program and in every row, IS THE sha256 OF THE DUMP (.gsa) THAT YtnmadmcegdpecaaProg.lean LOADS. Nothing in Lean hashes anything: it is a label: what it is worth is what the hold of that sum in a sandbox is worth. -/
noncomputable def Try.pinned : Pinned := { name := "ytnmadmcegdpecaa", sum := "62a8fd3a6e7cc40eb23db31ff53a7ee05bcd26ba14dd952cf5e4364265b7ac4d", checked := Try.checked }
namespace Rows
def none {H : Type} : Left H := { results := [], args := [] }

/-- 'consistorylaw06.BivarTells': WHATEVER THE INPUT: true; the input reads as it did. -/
def bivarTellsSpec : ChangeSpec := { name := "bivarTells", fn := fun _ => fun
  | [d1, d2, d3, d4] => { results := [.lit (.bool true)], args := [d1, d2, d3, d4] }
  | _ => none }
def bivarTellsRow : OpenClaim := { program := "ytnmadmcegdpecaa", sum := "62a8fd3a6e7cc40eb23db31ff53a7ee05bcd26ba14dd952cf5e4364265b7ac4d", func := "consistory/consistorylaw06.BivarTells", spec := "bivarTells", unfollowed := true, recurses := true, named := ["math/bits.divideError", "math/bits.overflowError"], apart := false }
def BivarTellsSaid : Prop := bivarTellsRow.holds Try.pinned (OpenSpec.ofChange bivarTellsSpec)

/-- ITS FALSE NEIGHBOUR: 'it returns false'. Refute it at one input. -/
def bivarTellsWrong : ChangeSpec := { name := "bivarTells", fn := fun _ => fun
  | [d1, d2, d3, d4] => { results := [.lit (.bool false)], args := [d1, d2, d3, d4] }
  | _ => none }
def BivarTellsWrongFalsely : Prop := bivarTellsRow.holds Try.pinned (OpenSpec.ofChange bivarTellsWrong)

/-- 'consistorylaw07.FixedNums': WHATEVER THE INPUT: true; the input reads as it did. -/
def fixedNumsSpec : ChangeSpec := { name := "fixedNums", fn := fun _ => fun
  | [d1, d2, d3] => { results := [.lit (.bool true)], args := [d1, d2, d3] }
  | _ => none }
def fixedNumsRow : OpenClaim := { program := "ytnmadmcegdpecaa", sum := "62a8fd3a6e7cc40eb23db31ff53a7ee05bcd26ba14dd952cf5e4364265b7ac4d", func := "consistory/consistorylaw07.FixedNums", spec := "fixedNums", unfollowed := true, recurses := true, named := ["math/bits.divideError", "math/bits.overflowError"], apart := false }
def FixedNumsSaid : Prop := fixedNumsRow.holds Try.pinned (OpenSpec.ofChange fixedNumsSpec)

/-- ITS FALSE NEIGHBOUR: 'it returns false'. Refute it at one input. -/
def fixedNumsWrong : ChangeSpec := { name := "fixedNums", fn := fun _ => fun
  | [d1, d2, d3] => { results := [.lit (.bool false)], args := [d1, d2, d3] }
  | _ => none }
def FixedNumsWrongFalsely : Prop := fixedNumsRow.holds Try.pinned (OpenSpec.ofChange fixedNumsWrong)

/-- 'consistorylaw07.FixedBack': WHATEVER THE INPUT: true; the input reads as it did. -/
def fixedBackSpec : ChangeSpec := { name := "fixedBack", fn := fun _ => fun
  | [d1, d2, d3, d4] => { results := [.lit (.bool true)], args := [d1, d2, d3, d4] }
  | _ => none }
def fixedBackRow : OpenClaim := { program := "ytnmadmcegdpecaa", sum := "62a8fd3a6e7cc40eb23db31ff53a7ee05bcd26ba14dd952cf5e4364265b7ac4d", func := "consistory/consistorylaw07.FixedBack", spec := "fixedBack", unfollowed := true, recurses := true, named := ["math/bits.divideError", "math/bits.overflowError"], apart := false }
def FixedBackSaid : Prop := fixedBackRow.holds Try.pinned (OpenSpec.ofChange fixedBackSpec)

/-- ITS FALSE NEIGHBOUR: 'it returns false'. Refute it at one input. -/
def fixedBackWrong : ChangeSpec := { name := "fixedBack", fn := fun _ => fun
  | [d1, d2, d3, d4] => { results := [.lit (.bool false)], args := [d1, d2, d3, d4] }
  | _ => none }
def FixedBackWrongFalsely : Prop := fixedBackRow.holds Try.pinned (OpenSpec.ofChange fixedBackWrong)

/-- 'consistorylaw07.FixedScores': WHATEVER THE INPUT: true; the input reads as it did. -/
def fixedScoresSpec : ChangeSpec := { name := "fixedScores", fn := fun _ => fun
  | [d1, d2, d3] => { results := [.lit (.bool true)], args := [d1, d2, d3] }
  | _ => none }
def fixedScoresRow : OpenClaim := { program := "ytnmadmcegdpecaa", sum := "62a8fd3a6e7cc40eb23db31ff53a7ee05bcd26ba14dd952cf5e4364265b7ac4d", func := "consistory/consistorylaw07.FixedScores", spec := "fixedScores", unfollowed := true, recurses := true, named := ["math/bits.divideError", "math/bits.overflowError"], apart := false }
def FixedScoresSaid : Prop := fixedScoresRow.holds Try.pinned (OpenSpec.ofChange fixedScoresSpec)

/-- ITS FALSE NEIGHBOUR: 'it returns false'. Refute it at one input. -/
def fixedScoresWrong : ChangeSpec := { name := "fixedScores", fn := fun _ => fun
  | [d1, d2, d3] => { results := [.lit (.bool false)], args := [d1, d2, d3] }
  | _ => none }
def FixedScoresWrongFalsely : Prop := fixedScoresRow.holds Try.pinned (OpenSpec.ofChange fixedScoresWrong)

/-- 'consistorylaw07.FixedLinear': WHATEVER THE INPUT: true; the input reads as it did. -/
def fixedLinearSpec : ChangeSpec := { name := "fixedLinear", fn := fun _ => fun
  | [d1, d2, d3, d4, d5] => { results := [.lit (.bool true)], args := [d1, d2, d3, d4, d5] }
  | _ => none }
def fixedLinearRow : OpenClaim := { program := "ytnmadmcegdpecaa", sum := "62a8fd3a6e7cc40eb23db31ff53a7ee05bcd26ba14dd952cf5e4364265b7ac4d", func := "consistory/consistorylaw07.FixedLinear", spec := "fixedLinear", unfollowed := true, recurses := true, named := ["math/bits.divideError", "math/bits.overflowError"], apart := false }
def FixedLinearSaid : Prop := fixedLinearRow.holds Try.pinned (OpenSpec.ofChange fixedLinearSpec)

/-- ITS FALSE NEIGHBOUR: 'it returns false'. Refute it at one input. -/
def fixedLinearWrong : ChangeSpec := { name := "fixedLinear", fn := fun _ => fun
  | [d1, d2, d3, d4, d5] => { results := [.lit (.bool false)], args := [d1, d2, d3, d4, d5] }
  | _ => none }
def FixedLinearWrongFalsely : Prop := fixedLinearRow.holds Try.pinned (OpenSpec.ofChange fixedLinearWrong)

/-- 'consistorylaw07.FixedSpan': WHATEVER THE INPUT: true; the input reads as it did. -/
def fixedSpanSpec : ChangeSpec := { name := "fixedSpan", fn := fun _ => fun
  | [d1, d2, d3, d4, d5, d6, d7, d8] => { results := [.lit (.bool true)], args := [d1, d2, d3, d4, d5, d6, d7, d8] }
  | _ => none }
def fixedSpanRow : OpenClaim := { program := "ytnmadmcegdpecaa", sum := "62a8fd3a6e7cc40eb23db31ff53a7ee05bcd26ba14dd952cf5e4364265b7ac4d", func := "consistory/consistorylaw07.FixedSpan", spec := "fixedSpan", unfollowed := true, recurses := true, named := ["math/bits.divideError", "math/bits.overflowError"], apart := false }
def FixedSpanSaid : Prop := fixedSpanRow.holds Try.pinned (OpenSpec.ofChange fixedSpanSpec)

/-- ITS FALSE NEIGHBOUR: 'it returns false'. Refute it at one input. -/
def fixedSpanWrong : ChangeSpec := { name := "fixedSpan", fn := fun _ => fun
  | [d1, d2, d3, d4, d5, d6, d7, d8] => { results := [.lit (.bool false)], args := [d1, d2, d3, d4, d5, d6, d7, d8] }
  | _ => none }
def FixedSpanWrongFalsely : Prop := fixedSpanRow.holds Try.pinned (OpenSpec.ofChange fixedSpanWrong)

/-- 'consistorylaw07.FixedNames': WHATEVER THE INPUT: true; the input reads as it did. -/
def fixedNamesSpec : ChangeSpec := { name := "fixedNames", fn := fun _ => fun
  | [] => { results := [.lit (.bool true)], args := [] }
  | _ => none }
def fixedNamesRow : OpenClaim := { program := "ytnmadmcegdpecaa", sum := "62a8fd3a6e7cc40eb23db31ff53a7ee05bcd26ba14dd952cf5e4364265b7ac4d", func := "consistory/consistorylaw07.FixedNames", spec := "fixedNames", unfollowed := true, recurses := true, named := ["math/bits.divideError", "math/bits.overflowError"], apart := false }
def FixedNamesSaid : Prop := fixedNamesRow.holds Try.pinned (OpenSpec.ofChange fixedNamesSpec)

/-- ITS FALSE NEIGHBOUR: 'it returns false'. Refute it at one input. -/
def fixedNamesWrong : ChangeSpec := { name := "fixedNames", fn := fun _ => fun
  | [] => { results := [.lit (.bool false)], args := [] }
  | _ => none }
def FixedNamesWrongFalsely : Prop := fixedNamesRow.holds Try.pinned (OpenSpec.ofChange fixedNamesWrong)

/-- 'consistorylaw07.FixedTells': WHATEVER THE INPUT: true; the input reads as it did. -/
def fixedTellsSpec : ChangeSpec := { name := "fixedTells", fn := fun _ => fun
  | [d1, d2, d3, d4, d5] => { results := [.lit (.bool true)], args := [d1, d2, d3, d4, d5] }
  | _ => none }
def fixedTellsRow : OpenClaim := { program := "ytnmadmcegdpecaa", sum := "62a8fd3a6e7cc40eb23db31ff53a7ee05bcd26ba14dd952cf5e4364265b7ac4d", func := "consistory/consistorylaw07.FixedTells", spec := "fixedTells", unfollowed := true, recurses := true, named := ["math/bits.divideError", "math/bits.overflowError"], apart := false }
def FixedTellsSaid : Prop := fixedTellsRow.holds Try.pinned (OpenSpec.ofChange fixedTellsSpec)

/-- ITS FALSE NEIGHBOUR: 'it returns false'. Refute it at one input. -/
def fixedTellsWrong : ChangeSpec := { name := "fixedTells", fn := fun _ => fun
  | [d1, d2, d3, d4, d5] => { results := [.lit (.bool false)], args := [d1, d2, d3, d4, d5] }
  | _ => none }
def FixedTellsWrongFalsely : Prop := fixedTellsRow.holds Try.pinned (OpenSpec.ofChange fixedTellsWrong)

/-- 'consistorylaw03.PolyThrough': WHATEVER THE INPUT: true; the input reads as it did. -/
def polyThroughSpec : ChangeSpec := { name := "polyThrough", fn := fun _ => fun
  | [d1, d2, d3, d4] => { results := [.lit (.bool true)], args := [d1, d2, d3, d4] }
  | _ => none }
def polyThroughRow : OpenClaim := { program := "ytnmadmcegdpecaa", sum := "62a8fd3a6e7cc40eb23db31ff53a7ee05bcd26ba14dd952cf5e4364265b7ac4d", func := "consistory/consistorylaw03.PolyThrough", spec := "polyThrough", unfollowed := true, recurses := true, named := ["math/bits.divideError", "math/bits.overflowError"], apart := false }
def PolyThroughSaid : Prop := polyThroughRow.holds Try.pinned (OpenSpec.ofChange polyThroughSpec)

/-- ITS FALSE NEIGHBOUR: 'it returns false'. Refute it at one input. -/
def polyThroughWrong : ChangeSpec := { name := "polyThrough", fn := fun _ => fun
  | [d1, d2, d3, d4] => { results := [.lit (.bool false)], args := [d1, d2, d3, d4] }
  | _ => none }
def PolyThroughWrongFalsely : Prop := polyThroughRow.holds Try.pinned (OpenSpec.ofChange polyThroughWrong)

/-- 'consistorylaw03.PolyNames': WHATEVER THE INPUT: true; the input reads as it did. -/
def polyNamesSpec : ChangeSpec := { name := "polyNames", fn := fun _ => fun
  | [] => { results := [.lit (.bool true)], args := [] }
  | _ => none }
def polyNamesRow : OpenClaim := { program := "ytnmadmcegdpecaa", sum := "62a8fd3a6e7cc40eb23db31ff53a7ee05bcd26ba14dd952cf5e4364265b7ac4d", func := "consistory/consistorylaw03.PolyNames", spec := "polyNames", unfollowed := true, recurses := true, named := ["math/bits.divideError", "math/bits.overflowError"], apart := false }
def PolyNamesSaid : Prop := polyNamesRow.holds Try.pinned (OpenSpec.ofChange polyNamesSpec)

/-- ITS FALSE NEIGHBOUR: 'it returns false'. Refute it at one input. -/
def polyNamesWrong : ChangeSpec := { name := "polyNames", fn := fun _ => fun
  | [] => { results := [.lit (.bool false)], args := [] }
  | _ => none }
def PolyNamesWrongFalsely : Prop := polyNamesRow.holds Try.pinned (OpenSpec.ofChange polyNamesWrong)

/-- 'consistorylaw03.PolyTells': WHATEVER THE INPUT: true; the input reads as it did. -/
def polyTellsSpec : ChangeSpec := { name := "polyTells", fn := fun _ => fun
  | [d1, d2, d3, d4, d5] => { results := [.lit (.bool true)], args := [d1, d2, d3, d4, d5] }
  | _ => none }
def polyTellsRow : OpenClaim := { program := "ytnmadmcegdpecaa", sum := "62a8fd3a6e7cc40eb23db31ff53a7ee05bcd26ba14dd952cf5e4364265b7ac4d", func := "consistory/consistorylaw03.PolyTells", spec := "polyTells", unfollowed := true, recurses := true, named := ["math/bits.divideError", "math/bits.overflowError"], apart := false }
def PolyTellsSaid : Prop := polyTellsRow.holds Try.pinned (OpenSpec.ofChange polyTellsSpec)

/-- ITS FALSE NEIGHBOUR: 'it returns false'. Refute it at one input. -/
def polyTellsWrong : ChangeSpec := { name := "polyTells", fn := fun _ => fun
  | [d1, d2, d3, d4, d5] => { results := [.lit (.bool false)], args := [d1, d2, d3, d4, d5] }
  | _ => none }
def PolyTellsWrongFalsely : Prop := polyTellsRow.holds Try.pinned (OpenSpec.ofChange polyTellsWrong)

/-- 'consistorylaw06.BivarThrough': WHATEVER THE INPUT: true; the input reads as it did. -/
def bivarThroughSpec : ChangeSpec := { name := "bivarThrough", fn := fun _ => fun
  | [d1, d2, d3] => { results := [.lit (.bool true)], args := [d1, d2, d3] }
  | _ => none }
def bivarThroughRow : OpenClaim := { program := "ytnmadmcegdpecaa", sum := "62a8fd3a6e7cc40eb23db31ff53a7ee05bcd26ba14dd952cf5e4364265b7ac4d", func := "consistory/consistorylaw06.BivarThrough", spec := "bivarThrough", unfollowed := true, recurses := true, named := ["math/bits.divideError", "math/bits.overflowError"], apart := false }
def BivarThroughSaid : Prop := bivarThroughRow.holds Try.pinned (OpenSpec.ofChange bivarThroughSpec)

/-- ITS FALSE NEIGHBOUR: 'it returns false'. Refute it at one input. -/
def bivarThroughWrong : ChangeSpec := { name := "bivarThrough", fn := fun _ => fun
  | [d1, d2, d3] => { results := [.lit (.bool false)], args := [d1, d2, d3] }
  | _ => none }
def BivarThroughWrongFalsely : Prop := bivarThroughRow.holds Try.pinned (OpenSpec.ofChange bivarThroughWrong)

/-- 'consistorylaw06.BivarNames': WHATEVER THE INPUT: true; the input reads as it did. -/
def bivarNamesSpec : ChangeSpec := { name := "bivarNames", fn := fun _ => fun
  | [] => { results := [.lit (.bool true)], args := [] }
  | _ => none }
def bivarNamesRow : OpenClaim := { program := "ytnmadmcegdpecaa", sum := "62a8fd3a6e7cc40eb23db31ff53a7ee05bcd26ba14dd952cf5e4364265b7ac4d", func := "consistory/consistorylaw06.BivarNames", spec := "bivarNames", unfollowed := true, recurses := true, named := ["math/bits.divideError", "math/bits.overflowError"], apart := false }
def BivarNamesSaid : Prop := bivarNamesRow.holds Try.pinned (OpenSpec.ofChange bivarNamesSpec)

/-- ITS FALSE NEIGHBOUR: 'it returns false'. Refute it at one input. -/
def bivarNamesWrong : ChangeSpec := { name := "bivarNames", fn := fun _ => fun
  | [] => { results := [.lit (.bool false)], args := [] }
  | _ => none }
def BivarNamesWrongFalsely : Prop := bivarNamesRow.holds Try.pinned (OpenSpec.ofChange bivarNamesWrong)

/-- 'consistorylaw06.BivarCross': WHATEVER THE INPUT: true; the input reads as it did. -/
def bivarCrossSpec : ChangeSpec := { name := "bivarCross", fn := fun _ => fun
  | [d1, d2, d3, d4] => { results := [.lit (.bool true)], args := [d1, d2, d3, d4] }
  | _ => none }
def bivarCrossRow : OpenClaim := { program := "ytnmadmcegdpecaa", sum := "62a8fd3a6e7cc40eb23db31ff53a7ee05bcd26ba14dd952cf5e4364265b7ac4d", func := "consistory/consistorylaw06.BivarCross", spec := "bivarCross", unfollowed := true, recurses := true, named := ["math/bits.divideError", "math/bits.overflowError"], apart := false }
def BivarCrossSaid : Prop := bivarCrossRow.holds Try.pinned (OpenSpec.ofChange bivarCrossSpec)

/-- ITS FALSE NEIGHBOUR: 'it returns false'. Refute it at one input. -/
def bivarCrossWrong : ChangeSpec := { name := "bivarCross", fn := fun _ => fun
  | [d1, d2, d3, d4] => { results := [.lit (.bool false)], args := [d1, d2, d3, d4] }
  | _ => none }
def BivarCrossWrongFalsely : Prop := bivarCrossRow.holds Try.pinned (OpenSpec.ofChange bivarCrossWrong)

/- THE SECOND FORM. 'bulk': how many values and letters a reading holds, each counted each time it is reached (what is shared counts as often as it is met; a slice's spare places count too). A statement '..UptoSaid' is the law's where the arguments, and the package variables that the reading takes, are together of bulk at most 1048576: NARROWER than '..Said'. Prove '..Said' where nothing that the law and all that it calls make is longer than what came in: it says more and counts as full. Else prove '..UptoSaid'. A law counts once. -/
mutual
def uptoBulk {H : Type} : DataW H → Nat
  | .lit (.string bytes) => bytes.length + 1
  | .lit _ => 1
  | .nil => 1
  | .ptr d => uptoBulk d + 1
  | .slice elems spare => uptoBulkAll elems + uptoBulkAll spare + 1
  | .agg parts => uptoBulkAll parts + 1
  | .iface _ d => uptoBulk d + 1
  | .map entries => uptoBulkEntries entries + 1
  | .held _ => 1
def uptoBulkAll {H : Type} : List (DataW H) → Nat
  | [] => 0
  | d :: r => uptoBulk d + uptoBulkAll r
def uptoBulkEntries {H : Type} : List (Lit × DataW H) → Nat
  | [] => 0
  | x :: r => uptoBulkEntry x + uptoBulkEntries r
def uptoBulkEntry {H : Type} : Lit × DataW H → Nat
  | (.string bytes, d) => bytes.length + uptoBulk d + 1
  | (_, d) => uptoBulk d + 1
 end
def uptoSmall : (H : Type) → List (DataW H) → Bool := fun _ ds => decide (uptoBulkAll ds ≤ 1048576)
def OpenSpec.upto (s : _root_.Go.ChangeSpec) : _root_.Go.OpenSpec := { _root_.Go.OpenSpec.ofChange s with cond := some uptoSmall }

/-- 'consistorylaw06.BivarTells', WHERE WHAT IT READS IS OF BULK AT MOST 1048576: true; the input reads as it did. -/
def bivarTellsUptoRow : OpenClaim := { program := "ytnmadmcegdpecaa", sum := "62a8fd3a6e7cc40eb23db31ff53a7ee05bcd26ba14dd952cf5e4364265b7ac4d", func := "consistory/consistorylaw06.BivarTells", spec := "bivarTells", unfollowed := true, recurses := true, named := ["math/bits.divideError", "math/bits.overflowError"], apart := false, narrowed := true }
def BivarTellsUptoSaid : Prop := bivarTellsUptoRow.holds Try.pinned (OpenSpec.upto bivarTellsSpec)

/-- 'consistorylaw07.FixedNums', WHERE WHAT IT READS IS OF BULK AT MOST 1048576: true; the input reads as it did. -/
def fixedNumsUptoRow : OpenClaim := { program := "ytnmadmcegdpecaa", sum := "62a8fd3a6e7cc40eb23db31ff53a7ee05bcd26ba14dd952cf5e4364265b7ac4d", func := "consistory/consistorylaw07.FixedNums", spec := "fixedNums", unfollowed := true, recurses := true, named := ["math/bits.divideError", "math/bits.overflowError"], apart := false, narrowed := true }
def FixedNumsUptoSaid : Prop := fixedNumsUptoRow.holds Try.pinned (OpenSpec.upto fixedNumsSpec)

/-- 'consistorylaw07.FixedBack', WHERE WHAT IT READS IS OF BULK AT MOST 1048576: true; the input reads as it did. -/
def fixedBackUptoRow : OpenClaim := { program := "ytnmadmcegdpecaa", sum := "62a8fd3a6e7cc40eb23db31ff53a7ee05bcd26ba14dd952cf5e4364265b7ac4d", func := "consistory/consistorylaw07.FixedBack", spec := "fixedBack", unfollowed := true, recurses := true, named := ["math/bits.divideError", "math/bits.overflowError"], apart := false, narrowed := true }
def FixedBackUptoSaid : Prop := fixedBackUptoRow.holds Try.pinned (OpenSpec.upto fixedBackSpec)

/-- 'consistorylaw07.FixedScores', WHERE WHAT IT READS IS OF BULK AT MOST 1048576: true; the input reads as it did. -/
def fixedScoresUptoRow : OpenClaim := { program := "ytnmadmcegdpecaa", sum := "62a8fd3a6e7cc40eb23db31ff53a7ee05bcd26ba14dd952cf5e4364265b7ac4d", func := "consistory/consistorylaw07.FixedScores", spec := "fixedScores", unfollowed := true, recurses := true, named := ["math/bits.divideError", "math/bits.overflowError"], apart := false, narrowed := true }
def FixedScoresUptoSaid : Prop := fixedScoresUptoRow.holds Try.pinned (OpenSpec.upto fixedScoresSpec)

/-- 'consistorylaw07.FixedLinear', WHERE WHAT IT READS IS OF BULK AT MOST 1048576: true; the input reads as it did. -/
def fixedLinearUptoRow : OpenClaim := { program := "ytnmadmcegdpecaa", sum := "62a8fd3a6e7cc40eb23db31ff53a7ee05bcd26ba14dd952cf5e4364265b7ac4d", func := "consistory/consistorylaw07.FixedLinear", spec := "fixedLinear", unfollowed := true, recurses := true, named := ["math/bits.divideError", "math/bits.overflowError"], apart := false, narrowed := true }
def FixedLinearUptoSaid : Prop := fixedLinearUptoRow.holds Try.pinned (OpenSpec.upto fixedLinearSpec)

/-- 'consistorylaw07.FixedSpan', WHERE WHAT IT READS IS OF BULK AT MOST 1048576: true; the input reads as it did. -/
def fixedSpanUptoRow : OpenClaim := { program := "ytnmadmcegdpecaa", sum := "62a8fd3a6e7cc40eb23db31ff53a7ee05bcd26ba14dd952cf5e4364265b7ac4d", func := "consistory/consistorylaw07.FixedSpan", spec := "fixedSpan", unfollowed := true, recurses := true, named := ["math/bits.divideError", "math/bits.overflowError"], apart := false, narrowed := true }
def FixedSpanUptoSaid : Prop := fixedSpanUptoRow.holds Try.pinned (OpenSpec.upto fixedSpanSpec)

/-- 'consistorylaw07.FixedNames', WHERE WHAT IT READS IS OF BULK AT MOST 1048576: true; the input reads as it did. -/
def fixedNamesUptoRow : OpenClaim := { program := "ytnmadmcegdpecaa", sum := "62a8fd3a6e7cc40eb23db31ff53a7ee05bcd26ba14dd952cf5e4364265b7ac4d", func := "consistory/consistorylaw07.FixedNames", spec := "fixedNames", unfollowed := true, recurses := true, named := ["math/bits.divideError", "math/bits.overflowError"], apart := false, narrowed := true }
def FixedNamesUptoSaid : Prop := fixedNamesUptoRow.holds Try.pinned (OpenSpec.upto fixedNamesSpec)

/-- 'consistorylaw07.FixedTells', WHERE WHAT IT READS IS OF BULK AT MOST 1048576: true; the input reads as it did. -/
def fixedTellsUptoRow : OpenClaim := { program := "ytnmadmcegdpecaa", sum := "62a8fd3a6e7cc40eb23db31ff53a7ee05bcd26ba14dd952cf5e4364265b7ac4d", func := "consistory/consistorylaw07.FixedTells", spec := "fixedTells", unfollowed := true, recurses := true, named := ["math/bits.divideError", "math/bits.overflowError"], apart := false, narrowed := true }
def FixedTellsUptoSaid : Prop := fixedTellsUptoRow.holds Try.pinned (OpenSpec.upto fixedTellsSpec)

/-- 'consistorylaw03.PolyThrough', WHERE WHAT IT READS IS OF BULK AT MOST 1048576: true; the input reads as it did. -/
def polyThroughUptoRow : OpenClaim := { program := "ytnmadmcegdpecaa", sum := "62a8fd3a6e7cc40eb23db31ff53a7ee05bcd26ba14dd952cf5e4364265b7ac4d", func := "consistory/consistorylaw03.PolyThrough", spec := "polyThrough", unfollowed := true, recurses := true, named := ["math/bits.divideError", "math/bits.overflowError"], apart := false, narrowed := true }
def PolyThroughUptoSaid : Prop := polyThroughUptoRow.holds Try.pinned (OpenSpec.upto polyThroughSpec)

/-- 'consistorylaw03.PolyNames', WHERE WHAT IT READS IS OF BULK AT MOST 1048576: true; the input reads as it did. -/
def polyNamesUptoRow : OpenClaim := { program := "ytnmadmcegdpecaa", sum := "62a8fd3a6e7cc40eb23db31ff53a7ee05bcd26ba14dd952cf5e4364265b7ac4d", func := "consistory/consistorylaw03.PolyNames", spec := "polyNames", unfollowed := true, recurses := true, named := ["math/bits.divideError", "math/bits.overflowError"], apart := false, narrowed := true }
def PolyNamesUptoSaid : Prop := polyNamesUptoRow.holds Try.pinned (OpenSpec.upto polyNamesSpec)

/-- 'consistorylaw03.PolyTells', WHERE WHAT IT READS IS OF BULK AT MOST 1048576: true; the input reads as it did. -/
def polyTellsUptoRow : OpenClaim := { program := "ytnmadmcegdpecaa", sum := "62a8fd3a6e7cc40eb23db31ff53a7ee05bcd26ba14dd952cf5e4364265b7ac4d", func := "consistory/consistorylaw03.PolyTells", spec := "polyTells", unfollowed := true, recurses := true, named := ["math/bits.divideError", "math/bits.overflowError"], apart := false, narrowed := true }
def PolyTellsUptoSaid : Prop := polyTellsUptoRow.holds Try.pinned (OpenSpec.upto polyTellsSpec)

/-- 'consistorylaw06.BivarThrough', WHERE WHAT IT READS IS OF BULK AT MOST 1048576: true; the input reads as it did. -/
def bivarThroughUptoRow : OpenClaim := { program := "ytnmadmcegdpecaa", sum := "62a8fd3a6e7cc40eb23db31ff53a7ee05bcd26ba14dd952cf5e4364265b7ac4d", func := "consistory/consistorylaw06.BivarThrough", spec := "bivarThrough", unfollowed := true, recurses := true, named := ["math/bits.divideError", "math/bits.overflowError"], apart := false, narrowed := true }
def BivarThroughUptoSaid : Prop := bivarThroughUptoRow.holds Try.pinned (OpenSpec.upto bivarThroughSpec)

/-- 'consistorylaw06.BivarNames', WHERE WHAT IT READS IS OF BULK AT MOST 1048576: true; the input reads as it did. -/
def bivarNamesUptoRow : OpenClaim := { program := "ytnmadmcegdpecaa", sum := "62a8fd3a6e7cc40eb23db31ff53a7ee05bcd26ba14dd952cf5e4364265b7ac4d", func := "consistory/consistorylaw06.BivarNames", spec := "bivarNames", unfollowed := true, recurses := true, named := ["math/bits.divideError", "math/bits.overflowError"], apart := false, narrowed := true }
def BivarNamesUptoSaid : Prop := bivarNamesUptoRow.holds Try.pinned (OpenSpec.upto bivarNamesSpec)

/-- 'consistorylaw06.BivarCross', WHERE WHAT IT READS IS OF BULK AT MOST 1048576: true; the input reads as it did. -/
def bivarCrossUptoRow : OpenClaim := { program := "ytnmadmcegdpecaa", sum := "62a8fd3a6e7cc40eb23db31ff53a7ee05bcd26ba14dd952cf5e4364265b7ac4d", func := "consistory/consistorylaw06.BivarCross", spec := "bivarCross", unfollowed := true, recurses := true, named := ["math/bits.divideError", "math/bits.overflowError"], apart := false, narrowed := true }
def BivarCrossUptoSaid : Prop := bivarCrossUptoRow.holds Try.pinned (OpenSpec.upto bivarCrossSpec)

end Rows
end Go.Proofs.Ytnmadmcegdpecaa
