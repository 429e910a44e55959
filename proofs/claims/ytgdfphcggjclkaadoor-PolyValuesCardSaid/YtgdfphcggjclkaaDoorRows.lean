/-
  NARROWER THAN 'FOR EVERY INPUT', by the rows' own cells (each row's printed sentence says how): PolyWeights: laid · PolyRoots: laid · PolyValues: laid · PolyOnly: laid · BivarBack: laid · BivarColumns: laid · BivarHidden: laid · RankTells: laid · RankSolves: laid · RankMore: laid · RankShared: laid · RankTurned: laid · RankWays: laid · RankSolved: laid.
  DERIVED. THE GIVEN ROWS OF THIS SEAT. 14 by the template 'for every input the law returns true; each argument reads behind the call as it read before'; 0 by the template 'total and deterministic' (their statements: YtgdfphcggjclkaaDoorTotals.lean).
  GIVEN WITH THE SEED: the statements are not yours to turn. If you find one false, say at which input.
  Laid BY PROGRAM, IN A SANDBOX (cutbox-rows.mjs): the forced cells as the released guide's own fill.sh prints them over the translation d7fafbcc0ad49c56… (all of the seat's roots in one cut). By AI agents, Wed Nov 11 2026. No macro, syntax, notation, axiom, sorry.
-/
import Derived.Test.YtgdfphcggjclkaaDoorChecked
import GoSem.Claim
import GoSem.ClaimJoined
import GoSem.ClaimMapViews
import Derived.JoinedTies
import Derived.KernelRfl
namespace Go.Proofs.YtgdfphcggjclkaaDoor
/- THE CELL 'sum', in the pinned program and in every row, IS THE sha256 OF THE DUMP (.gsa) THAT YtgdfphcggjclkaaDoorProg.lean LOADS. Nothing in Lean hashes anything: it is a label: what it is worth is what the hold of that sum in a sandbox is worth. -/
noncomputable def Tryd.pinned : Pinned := { name := "ytgdfphcggjclkaadoor", sum := "d7fafbcc0ad49c56815fcb61b6931fbc3e96e672ccd3344c35935d2c097b4fbb", checked := Tryd.checked }
namespace Rows
def none {H : Type} : Left H := { results := [], args := [] }

/- WHAT THE LISTED PACKAGE-LEVEL VARIABLES READ AS WHEN THE CALL BEGINS. Each datum BY PROGRAM (the guide's laid-datum.mjs) off the statement by which the dump's own 'gosem.cut.vars' lays the variable. In a bare row this is a premise. The card (YtgdfphcggjclkaaDoorCards.lean) ties it to the program's text. -/
def laid_math_bits_deBruijn64tab {H : Type} : DataW H := .agg [.lit (.int .u8 0), .lit (.int .u8 1), .lit (.int .u8 56), .lit (.int .u8 2), .lit (.int .u8 57), .lit (.int .u8 49), .lit (.int .u8 28), .lit (.int .u8 3), .lit (.int .u8 61), .lit (.int .u8 58), .lit (.int .u8 42), .lit (.int .u8 50), .lit (.int .u8 38), .lit (.int .u8 29), .lit (.int .u8 17), .lit (.int .u8 4), .lit (.int .u8 62), .lit (.int .u8 47), .lit (.int .u8 59), .lit (.int .u8 36), .lit (.int .u8 45), .lit (.int .u8 43), .lit (.int .u8 51), .lit (.int .u8 22), .lit (.int .u8 53), .lit (.int .u8 39), .lit (.int .u8 33), .lit (.int .u8 30), .lit (.int .u8 24), .lit (.int .u8 18), .lit (.int .u8 12), .lit (.int .u8 5), .lit (.int .u8 63), .lit (.int .u8 55), .lit (.int .u8 48), .lit (.int .u8 27), .lit (.int .u8 60), .lit (.int .u8 41), .lit (.int .u8 37), .lit (.int .u8 16), .lit (.int .u8 46), .lit (.int .u8 35), .lit (.int .u8 44), .lit (.int .u8 21), .lit (.int .u8 52), .lit (.int .u8 32), .lit (.int .u8 23), .lit (.int .u8 11), .lit (.int .u8 54), .lit (.int .u8 26), .lit (.int .u8 40), .lit (.int .u8 15), .lit (.int .u8 34), .lit (.int .u8 20), .lit (.int .u8 31), .lit (.int .u8 10), .lit (.int .u8 25), .lit (.int .u8 14), .lit (.int .u8 19), .lit (.int .u8 9), .lit (.int .u8 13), .lit (.int .u8 8), .lit (.int .u8 7), .lit (.int .u8 6)]
def laid_consistory_mod_tried {H : Type} : DataW H := .agg [.lit (.int .u64 2), .lit (.int .u64 3), .lit (.int .u64 5), .lit (.int .u64 7), .lit (.int .u64 11), .lit (.int .u64 13), .lit (.int .u64 17), .lit (.int .u64 19), .lit (.int .u64 23), .lit (.int .u64 29), .lit (.int .u64 31), .lit (.int .u64 37)]

/-- 'consistorylaw03.PolyWeights': WHATEVER THE INPUT: true; the input reads as it did. -/
def polyWeightsSpec : ChangeSpec := { name := "polyWeights", fn := fun _ => fun
  | [d1, d2, d3, d4] => { results := [.lit (.bool true)], args := [d1, d2, d3, d4] }
  | _ => none }
def polyWeightsRow : OpenClaim := { program := "ytgdfphcggjclkaadoor", sum := "d7fafbcc0ad49c56815fcb61b6931fbc3e96e672ccd3344c35935d2c097b4fbb", func := "consistory/consistorylaw03.PolyWeights", spec := "polyWeights", unfollowed := true, recurses := true, named := ["math/bits.divideError", "math/bits.overflowError", "consistory/mod.tried", "math/bits.deBruijn64tab"], apart := false, laid := [("math/bits.deBruijn64tab", laid_math_bits_deBruijn64tab), ("consistory/mod.tried", laid_consistory_mod_tried)] }
def PolyWeightsSaid : Prop := polyWeightsRow.holds Tryd.pinned (OpenSpec.ofChange polyWeightsSpec)

/-- ITS FALSE NEIGHBOUR: 'it returns false'. Refute it at one input. -/
def polyWeightsWrong : ChangeSpec := { name := "polyWeights", fn := fun _ => fun
  | [d1, d2, d3, d4] => { results := [.lit (.bool false)], args := [d1, d2, d3, d4] }
  | _ => none }
def PolyWeightsWrongFalsely : Prop := polyWeightsRow.holds Tryd.pinned (OpenSpec.ofChange polyWeightsWrong)

/-- 'consistorylaw03.PolyRoots': WHATEVER THE INPUT: true; the input reads as it did. -/
def polyRootsSpec : ChangeSpec := { name := "polyRoots", fn := fun _ => fun
  | [d1, d2, d3, d4] => { results := [.lit (.bool true)], args := [d1, d2, d3, d4] }
  | _ => none }
def polyRootsRow : OpenClaim := { program := "ytgdfphcggjclkaadoor", sum := "d7fafbcc0ad49c56815fcb61b6931fbc3e96e672ccd3344c35935d2c097b4fbb", func := "consistory/consistorylaw03.PolyRoots", spec := "polyRoots", unfollowed := true, recurses := true, named := ["math/bits.divideError", "math/bits.overflowError", "consistory/mod.tried", "math/bits.deBruijn64tab"], apart := false, laid := [("math/bits.deBruijn64tab", laid_math_bits_deBruijn64tab), ("consistory/mod.tried", laid_consistory_mod_tried)] }
def PolyRootsSaid : Prop := polyRootsRow.holds Tryd.pinned (OpenSpec.ofChange polyRootsSpec)

/-- ITS FALSE NEIGHBOUR: 'it returns false'. Refute it at one input. -/
def polyRootsWrong : ChangeSpec := { name := "polyRoots", fn := fun _ => fun
  | [d1, d2, d3, d4] => { results := [.lit (.bool false)], args := [d1, d2, d3, d4] }
  | _ => none }
def PolyRootsWrongFalsely : Prop := polyRootsRow.holds Tryd.pinned (OpenSpec.ofChange polyRootsWrong)

/-- 'consistorylaw03.PolyValues': WHATEVER THE INPUT: true; the input reads as it did. -/
def polyValuesSpec : ChangeSpec := { name := "polyValues", fn := fun _ => fun
  | [d1, d2, d3, d4, d5] => { results := [.lit (.bool true)], args := [d1, d2, d3, d4, d5] }
  | _ => none }
def polyValuesRow : OpenClaim := { program := "ytgdfphcggjclkaadoor", sum := "d7fafbcc0ad49c56815fcb61b6931fbc3e96e672ccd3344c35935d2c097b4fbb", func := "consistory/consistorylaw03.PolyValues", spec := "polyValues", unfollowed := true, recurses := true, named := ["math/bits.divideError", "math/bits.overflowError", "consistory/mod.tried", "math/bits.deBruijn64tab"], apart := false, laid := [("math/bits.deBruijn64tab", laid_math_bits_deBruijn64tab), ("consistory/mod.tried", laid_consistory_mod_tried)] }
def PolyValuesSaid : Prop := polyValuesRow.holds Tryd.pinned (OpenSpec.ofChange polyValuesSpec)

/-- ITS FALSE NEIGHBOUR: 'it returns false'. Refute it at one input. -/
def polyValuesWrong : ChangeSpec := { name := "polyValues", fn := fun _ => fun
  | [d1, d2, d3, d4, d5] => { results := [.lit (.bool false)], args := [d1, d2, d3, d4, d5] }
  | _ => none }
def PolyValuesWrongFalsely : Prop := polyValuesRow.holds Tryd.pinned (OpenSpec.ofChange polyValuesWrong)

/-- 'consistorylaw03.PolyOnly': WHATEVER THE INPUT: true; the input reads as it did. -/
def polyOnlySpec : ChangeSpec := { name := "polyOnly", fn := fun _ => fun
  | [d1, d2, d3, d4] => { results := [.lit (.bool true)], args := [d1, d2, d3, d4] }
  | _ => none }
def polyOnlyRow : OpenClaim := { program := "ytgdfphcggjclkaadoor", sum := "d7fafbcc0ad49c56815fcb61b6931fbc3e96e672ccd3344c35935d2c097b4fbb", func := "consistory/consistorylaw03.PolyOnly", spec := "polyOnly", unfollowed := true, recurses := true, named := ["math/bits.divideError", "math/bits.overflowError", "consistory/mod.tried", "math/bits.deBruijn64tab"], apart := false, laid := [("math/bits.deBruijn64tab", laid_math_bits_deBruijn64tab), ("consistory/mod.tried", laid_consistory_mod_tried)] }
def PolyOnlySaid : Prop := polyOnlyRow.holds Tryd.pinned (OpenSpec.ofChange polyOnlySpec)

/-- ITS FALSE NEIGHBOUR: 'it returns false'. Refute it at one input. -/
def polyOnlyWrong : ChangeSpec := { name := "polyOnly", fn := fun _ => fun
  | [d1, d2, d3, d4] => { results := [.lit (.bool false)], args := [d1, d2, d3, d4] }
  | _ => none }
def PolyOnlyWrongFalsely : Prop := polyOnlyRow.holds Tryd.pinned (OpenSpec.ofChange polyOnlyWrong)

/-- 'consistorylaw06.BivarBack': WHATEVER THE INPUT: true; the input reads as it did. -/
def bivarBackSpec : ChangeSpec := { name := "bivarBack", fn := fun _ => fun
  | [d1, d2, d3, d4] => { results := [.lit (.bool true)], args := [d1, d2, d3, d4] }
  | _ => none }
def bivarBackRow : OpenClaim := { program := "ytgdfphcggjclkaadoor", sum := "d7fafbcc0ad49c56815fcb61b6931fbc3e96e672ccd3344c35935d2c097b4fbb", func := "consistory/consistorylaw06.BivarBack", spec := "bivarBack", unfollowed := true, recurses := true, named := ["math/bits.divideError", "math/bits.overflowError", "consistory/mod.tried", "math/bits.deBruijn64tab"], apart := false, laid := [("math/bits.deBruijn64tab", laid_math_bits_deBruijn64tab), ("consistory/mod.tried", laid_consistory_mod_tried)] }
def BivarBackSaid : Prop := bivarBackRow.holds Tryd.pinned (OpenSpec.ofChange bivarBackSpec)

/-- ITS FALSE NEIGHBOUR: 'it returns false'. Refute it at one input. -/
def bivarBackWrong : ChangeSpec := { name := "bivarBack", fn := fun _ => fun
  | [d1, d2, d3, d4] => { results := [.lit (.bool false)], args := [d1, d2, d3, d4] }
  | _ => none }
def BivarBackWrongFalsely : Prop := bivarBackRow.holds Tryd.pinned (OpenSpec.ofChange bivarBackWrong)

/-- 'consistorylaw06.BivarColumns': WHATEVER THE INPUT: true; the input reads as it did. -/
def bivarColumnsSpec : ChangeSpec := { name := "bivarColumns", fn := fun _ => fun
  | [d1, d2, d3, d4] => { results := [.lit (.bool true)], args := [d1, d2, d3, d4] }
  | _ => none }
def bivarColumnsRow : OpenClaim := { program := "ytgdfphcggjclkaadoor", sum := "d7fafbcc0ad49c56815fcb61b6931fbc3e96e672ccd3344c35935d2c097b4fbb", func := "consistory/consistorylaw06.BivarColumns", spec := "bivarColumns", unfollowed := true, recurses := true, named := ["math/bits.divideError", "math/bits.overflowError", "consistory/mod.tried", "math/bits.deBruijn64tab"], apart := false, laid := [("math/bits.deBruijn64tab", laid_math_bits_deBruijn64tab), ("consistory/mod.tried", laid_consistory_mod_tried)] }
def BivarColumnsSaid : Prop := bivarColumnsRow.holds Tryd.pinned (OpenSpec.ofChange bivarColumnsSpec)

/-- ITS FALSE NEIGHBOUR: 'it returns false'. Refute it at one input. -/
def bivarColumnsWrong : ChangeSpec := { name := "bivarColumns", fn := fun _ => fun
  | [d1, d2, d3, d4] => { results := [.lit (.bool false)], args := [d1, d2, d3, d4] }
  | _ => none }
def BivarColumnsWrongFalsely : Prop := bivarColumnsRow.holds Tryd.pinned (OpenSpec.ofChange bivarColumnsWrong)

/-- 'consistorylaw06.BivarHidden': WHATEVER THE INPUT: true; the input reads as it did. -/
def bivarHiddenSpec : ChangeSpec := { name := "bivarHidden", fn := fun _ => fun
  | [d1, d2, d3, d4] => { results := [.lit (.bool true)], args := [d1, d2, d3, d4] }
  | _ => none }
def bivarHiddenRow : OpenClaim := { program := "ytgdfphcggjclkaadoor", sum := "d7fafbcc0ad49c56815fcb61b6931fbc3e96e672ccd3344c35935d2c097b4fbb", func := "consistory/consistorylaw06.BivarHidden", spec := "bivarHidden", unfollowed := true, recurses := true, named := ["math/bits.divideError", "math/bits.overflowError", "consistory/mod.tried", "math/bits.deBruijn64tab"], apart := false, laid := [("math/bits.deBruijn64tab", laid_math_bits_deBruijn64tab), ("consistory/mod.tried", laid_consistory_mod_tried)] }
def BivarHiddenSaid : Prop := bivarHiddenRow.holds Tryd.pinned (OpenSpec.ofChange bivarHiddenSpec)

/-- ITS FALSE NEIGHBOUR: 'it returns false'. Refute it at one input. -/
def bivarHiddenWrong : ChangeSpec := { name := "bivarHidden", fn := fun _ => fun
  | [d1, d2, d3, d4] => { results := [.lit (.bool false)], args := [d1, d2, d3, d4] }
  | _ => none }
def BivarHiddenWrongFalsely : Prop := bivarHiddenRow.holds Tryd.pinned (OpenSpec.ofChange bivarHiddenWrong)

/-- 'consistorylaw04.RankTells': WHATEVER THE INPUT: true; the input reads as it did. -/
def rankTellsSpec : ChangeSpec := { name := "rankTells", fn := fun _ => fun
  | [d1, d2, d3] => { results := [.lit (.bool true)], args := [d1, d2, d3] }
  | _ => none }
def rankTellsRow : OpenClaim := { program := "ytgdfphcggjclkaadoor", sum := "d7fafbcc0ad49c56815fcb61b6931fbc3e96e672ccd3344c35935d2c097b4fbb", func := "consistory/consistorylaw04.RankTells", spec := "rankTells", recurses := true, named := ["consistory/mod.tried", "math/bits.deBruijn64tab", "math/bits.divideError", "math/bits.overflowError"], apart := false, laid := [("math/bits.deBruijn64tab", laid_math_bits_deBruijn64tab), ("consistory/mod.tried", laid_consistory_mod_tried)] }
def RankTellsSaid : Prop := rankTellsRow.holds Tryd.pinned (OpenSpec.ofChange rankTellsSpec)

/-- ITS FALSE NEIGHBOUR: 'it returns false'. Refute it at one input. -/
def rankTellsWrong : ChangeSpec := { name := "rankTells", fn := fun _ => fun
  | [d1, d2, d3] => { results := [.lit (.bool false)], args := [d1, d2, d3] }
  | _ => none }
def RankTellsWrongFalsely : Prop := rankTellsRow.holds Tryd.pinned (OpenSpec.ofChange rankTellsWrong)

/-- 'consistorylaw04.RankSolves': WHATEVER THE INPUT: true; the input reads as it did. -/
def rankSolvesSpec : ChangeSpec := { name := "rankSolves", fn := fun _ => fun
  | [d1, d2, d3] => { results := [.lit (.bool true)], args := [d1, d2, d3] }
  | _ => none }
def rankSolvesRow : OpenClaim := { program := "ytgdfphcggjclkaadoor", sum := "d7fafbcc0ad49c56815fcb61b6931fbc3e96e672ccd3344c35935d2c097b4fbb", func := "consistory/consistorylaw04.RankSolves", spec := "rankSolves", recurses := true, named := ["consistory/mod.tried", "math/bits.deBruijn64tab", "math/bits.divideError", "math/bits.overflowError"], apart := false, laid := [("math/bits.deBruijn64tab", laid_math_bits_deBruijn64tab), ("consistory/mod.tried", laid_consistory_mod_tried)] }
def RankSolvesSaid : Prop := rankSolvesRow.holds Tryd.pinned (OpenSpec.ofChange rankSolvesSpec)

/-- ITS FALSE NEIGHBOUR: 'it returns false'. Refute it at one input. -/
def rankSolvesWrong : ChangeSpec := { name := "rankSolves", fn := fun _ => fun
  | [d1, d2, d3] => { results := [.lit (.bool false)], args := [d1, d2, d3] }
  | _ => none }
def RankSolvesWrongFalsely : Prop := rankSolvesRow.holds Tryd.pinned (OpenSpec.ofChange rankSolvesWrong)

/-- 'consistorylaw04.RankMore': WHATEVER THE INPUT: true; the input reads as it did. -/
def rankMoreSpec : ChangeSpec := { name := "rankMore", fn := fun _ => fun
  | [d1, d2, d3] => { results := [.lit (.bool true)], args := [d1, d2, d3] }
  | _ => none }
def rankMoreRow : OpenClaim := { program := "ytgdfphcggjclkaadoor", sum := "d7fafbcc0ad49c56815fcb61b6931fbc3e96e672ccd3344c35935d2c097b4fbb", func := "consistory/consistorylaw04.RankMore", spec := "rankMore", named := ["consistory/mod.tried", "math/bits.deBruijn64tab", "math/bits.divideError", "math/bits.overflowError"], apart := false, laid := [("math/bits.deBruijn64tab", laid_math_bits_deBruijn64tab), ("consistory/mod.tried", laid_consistory_mod_tried)] }
def RankMoreSaid : Prop := rankMoreRow.holds Tryd.pinned (OpenSpec.ofChange rankMoreSpec)

/-- ITS FALSE NEIGHBOUR: 'it returns false'. Refute it at one input. -/
def rankMoreWrong : ChangeSpec := { name := "rankMore", fn := fun _ => fun
  | [d1, d2, d3] => { results := [.lit (.bool false)], args := [d1, d2, d3] }
  | _ => none }
def RankMoreWrongFalsely : Prop := rankMoreRow.holds Tryd.pinned (OpenSpec.ofChange rankMoreWrong)

/-- 'consistorylaw04.RankShared': WHATEVER THE INPUT: true; the input reads as it did. -/
def rankSharedSpec : ChangeSpec := { name := "rankShared", fn := fun _ => fun
  | [d1, d2, d3, d4] => { results := [.lit (.bool true)], args := [d1, d2, d3, d4] }
  | _ => none }
def rankSharedRow : OpenClaim := { program := "ytgdfphcggjclkaadoor", sum := "d7fafbcc0ad49c56815fcb61b6931fbc3e96e672ccd3344c35935d2c097b4fbb", func := "consistory/consistorylaw04.RankShared", spec := "rankShared", named := ["consistory/mod.tried", "math/bits.deBruijn64tab", "math/bits.divideError", "math/bits.overflowError"], apart := false, laid := [("math/bits.deBruijn64tab", laid_math_bits_deBruijn64tab), ("consistory/mod.tried", laid_consistory_mod_tried)] }
def RankSharedSaid : Prop := rankSharedRow.holds Tryd.pinned (OpenSpec.ofChange rankSharedSpec)

/-- ITS FALSE NEIGHBOUR: 'it returns false'. Refute it at one input. -/
def rankSharedWrong : ChangeSpec := { name := "rankShared", fn := fun _ => fun
  | [d1, d2, d3, d4] => { results := [.lit (.bool false)], args := [d1, d2, d3, d4] }
  | _ => none }
def RankSharedWrongFalsely : Prop := rankSharedRow.holds Tryd.pinned (OpenSpec.ofChange rankSharedWrong)

/-- 'consistorylaw04.RankTurned': WHATEVER THE INPUT: true; the input reads as it did. -/
def rankTurnedSpec : ChangeSpec := { name := "rankTurned", fn := fun _ => fun
  | [d1, d2] => { results := [.lit (.bool true)], args := [d1, d2] }
  | _ => none }
def rankTurnedRow : OpenClaim := { program := "ytgdfphcggjclkaadoor", sum := "d7fafbcc0ad49c56815fcb61b6931fbc3e96e672ccd3344c35935d2c097b4fbb", func := "consistory/consistorylaw04.RankTurned", spec := "rankTurned", named := ["consistory/mod.tried", "math/bits.deBruijn64tab", "math/bits.divideError", "math/bits.overflowError"], apart := false, laid := [("math/bits.deBruijn64tab", laid_math_bits_deBruijn64tab), ("consistory/mod.tried", laid_consistory_mod_tried)] }
def RankTurnedSaid : Prop := rankTurnedRow.holds Tryd.pinned (OpenSpec.ofChange rankTurnedSpec)

/-- ITS FALSE NEIGHBOUR: 'it returns false'. Refute it at one input. -/
def rankTurnedWrong : ChangeSpec := { name := "rankTurned", fn := fun _ => fun
  | [d1, d2] => { results := [.lit (.bool false)], args := [d1, d2] }
  | _ => none }
def RankTurnedWrongFalsely : Prop := rankTurnedRow.holds Tryd.pinned (OpenSpec.ofChange rankTurnedWrong)

/-- 'consistorylaw04.RankWays': WHATEVER THE INPUT: true; the input reads as it did. -/
def rankWaysSpec : ChangeSpec := { name := "rankWays", fn := fun _ => fun
  | [d1, d2, d3, d4, d5] => { results := [.lit (.bool true)], args := [d1, d2, d3, d4, d5] }
  | _ => none }
def rankWaysRow : OpenClaim := { program := "ytgdfphcggjclkaadoor", sum := "d7fafbcc0ad49c56815fcb61b6931fbc3e96e672ccd3344c35935d2c097b4fbb", func := "consistory/consistorylaw04.RankWays", spec := "rankWays", named := ["consistory/mod.tried", "math/bits.deBruijn64tab", "math/bits.divideError", "math/bits.overflowError"], apart := false, laid := [("math/bits.deBruijn64tab", laid_math_bits_deBruijn64tab), ("consistory/mod.tried", laid_consistory_mod_tried)] }
def RankWaysSaid : Prop := rankWaysRow.holds Tryd.pinned (OpenSpec.ofChange rankWaysSpec)

/-- ITS FALSE NEIGHBOUR: 'it returns false'. Refute it at one input. -/
def rankWaysWrong : ChangeSpec := { name := "rankWays", fn := fun _ => fun
  | [d1, d2, d3, d4, d5] => { results := [.lit (.bool false)], args := [d1, d2, d3, d4, d5] }
  | _ => none }
def RankWaysWrongFalsely : Prop := rankWaysRow.holds Tryd.pinned (OpenSpec.ofChange rankWaysWrong)

/-- 'consistorylaw04.RankSolved': WHATEVER THE INPUT: true; the input reads as it did. -/
def rankSolvedSpec : ChangeSpec := { name := "rankSolved", fn := fun _ => fun
  | [d1, d2, d3, d4] => { results := [.lit (.bool true)], args := [d1, d2, d3, d4] }
  | _ => none }
def rankSolvedRow : OpenClaim := { program := "ytgdfphcggjclkaadoor", sum := "d7fafbcc0ad49c56815fcb61b6931fbc3e96e672ccd3344c35935d2c097b4fbb", func := "consistory/consistorylaw04.RankSolved", spec := "rankSolved", named := ["consistory/mod.tried", "math/bits.deBruijn64tab", "math/bits.divideError", "math/bits.overflowError"], apart := false, laid := [("math/bits.deBruijn64tab", laid_math_bits_deBruijn64tab), ("consistory/mod.tried", laid_consistory_mod_tried)] }
def RankSolvedSaid : Prop := rankSolvedRow.holds Tryd.pinned (OpenSpec.ofChange rankSolvedSpec)

/-- ITS FALSE NEIGHBOUR: 'it returns false'. Refute it at one input. -/
def rankSolvedWrong : ChangeSpec := { name := "rankSolved", fn := fun _ => fun
  | [d1, d2, d3, d4] => { results := [.lit (.bool false)], args := [d1, d2, d3, d4] }
  | _ => none }
def RankSolvedWrongFalsely : Prop := rankSolvedRow.holds Tryd.pinned (OpenSpec.ofChange rankSolvedWrong)

/- THE SECOND FORM. 'bulk': how many values and letters a reading holds, each counted each time it is reached (what is shared counts as often as it is met; a slice's spare places count too). A statement '..UptoSaid' is the law's where the arguments, and the package variables that the reading takes, are together of bulk at most 1048576: NARROWER than '..Said'. Prove '..Said' where nothing that the law and all that it calls make is longer than what came in: it says more and counts as full. Else prove '..UptoSaid'. A law counts once. -/
mutual
def uptoBulk {H : Type} : DataW H → Nat
  | .lit (.string bytes) => bytes.length + 1
  | .lit _ => 1
  | .nil => 1
  | .ptr d => uptoBulk d + 1
  | .slice elems spare => uptoBulkAll elems + uptoBulkAll spare + 1
  | .agg parts => uptoBulkAll parts + 1
  | .iface _ d => uptoBulk d + 1
  | .map entries => uptoBulkEntries entries + 1
  | .held _ => 1
def uptoBulkAll {H : Type} : List (DataW H) → Nat
  | [] => 0
  | d :: r => uptoBulk d + uptoBulkAll r
def uptoBulkEntries {H : Type} : List (Lit × DataW H) → Nat
  | [] => 0
  | x :: r => uptoBulkEntry x + uptoBulkEntries r
def uptoBulkEntry {H : Type} : Lit × DataW H → Nat
  | (.string bytes, d) => bytes.length + uptoBulk d + 1
  | (_, d) => uptoBulk d + 1
 end
def uptoSmall : (H : Type) → List (DataW H) → Bool := fun _ ds => decide (uptoBulkAll ds ≤ 1048576)
def OpenSpec.upto (s : _root_.Go.ChangeSpec) : _root_.Go.OpenSpec := { _root_.Go.OpenSpec.ofChange s with cond := some uptoSmall }

/-- 'consistorylaw03.PolyWeights', WHERE WHAT IT READS IS OF BULK AT MOST 1048576: true; the input reads as it did. -/
def polyWeightsUptoRow : OpenClaim := { program := "ytgdfphcggjclkaadoor", sum := "d7fafbcc0ad49c56815fcb61b6931fbc3e96e672ccd3344c35935d2c097b4fbb", func := "consistory/consistorylaw03.PolyWeights", spec := "polyWeights", unfollowed := true, recurses := true, named := ["math/bits.divideError", "math/bits.overflowError", "consistory/mod.tried", "math/bits.deBruijn64tab"], apart := false, laid := [("math/bits.deBruijn64tab", laid_math_bits_deBruijn64tab), ("consistory/mod.tried", laid_consistory_mod_tried)], narrowed := true }
def PolyWeightsUptoSaid : Prop := polyWeightsUptoRow.holds Tryd.pinned (OpenSpec.upto polyWeightsSpec)

/-- 'consistorylaw03.PolyRoots', WHERE WHAT IT READS IS OF BULK AT MOST 1048576: true; the input reads as it did. -/
def polyRootsUptoRow : OpenClaim := { program := "ytgdfphcggjclkaadoor", sum := "d7fafbcc0ad49c56815fcb61b6931fbc3e96e672ccd3344c35935d2c097b4fbb", func := "consistory/consistorylaw03.PolyRoots", spec := "polyRoots", unfollowed := true, recurses := true, named := ["math/bits.divideError", "math/bits.overflowError", "consistory/mod.tried", "math/bits.deBruijn64tab"], apart := false, laid := [("math/bits.deBruijn64tab", laid_math_bits_deBruijn64tab), ("consistory/mod.tried", laid_consistory_mod_tried)], narrowed := true }
def PolyRootsUptoSaid : Prop := polyRootsUptoRow.holds Tryd.pinned (OpenSpec.upto polyRootsSpec)

/-- 'consistorylaw03.PolyValues', WHERE WHAT IT READS IS OF BULK AT MOST 1048576: true; the input reads as it did. -/
def polyValuesUptoRow : OpenClaim := { program := "ytgdfphcggjclkaadoor", sum := "d7fafbcc0ad49c56815fcb61b6931fbc3e96e672ccd3344c35935d2c097b4fbb", func := "consistory/consistorylaw03.PolyValues", spec := "polyValues", unfollowed := true, recurses := true, named := ["math/bits.divideError", "math/bits.overflowError", "consistory/mod.tried", "math/bits.deBruijn64tab"], apart := false, laid := [("math/bits.deBruijn64tab", laid_math_bits_deBruijn64tab), ("consistory/mod.tried", laid_consistory_mod_tried)], narrowed := true }
def PolyValuesUptoSaid : Prop := polyValuesUptoRow.holds Tryd.pinned (OpenSpec.upto polyValuesSpec)

/-- 'consistorylaw03.PolyOnly', WHERE WHAT IT READS IS OF BULK AT MOST 1048576: true; the input reads as it did. -/
def polyOnlyUptoRow : OpenClaim := { program := "ytgdfphcggjclkaadoor", sum := "d7fafbcc0ad49c56815fcb61b6931fbc3e96e672ccd3344c35935d2c097b4fbb", func := "consistory/consistorylaw03.PolyOnly", spec := "polyOnly", unfollowed := true, recurses := true, named := ["math/bits.divideError", "math/bits.overflowError", "consistory/mod.tried", "math/bits.deBruijn64tab"], apart := false, laid := [("math/bits.deBruijn64tab", laid_math_bits_deBruijn64tab), ("consistory/mod.tried", laid_consistory_mod_tried)], narrowed := true }
def PolyOnlyUptoSaid : Prop := polyOnlyUptoRow.holds Tryd.pinned (OpenSpec.upto polyOnlySpec)

/-- 'consistorylaw06.BivarBack', WHERE WHAT IT READS IS OF BULK AT MOST 1048576: true; the input reads as it did. -/
def bivarBackUptoRow : OpenClaim := { program := "ytgdfphcggjclkaadoor", sum := "d7fafbcc0ad49c56815fcb61b6931fbc3e96e672ccd3344c35935d2c097b4fbb", func := "consistory/consistorylaw06.BivarBack", spec := "bivarBack", unfollowed := true, recurses := true, named := ["math/bits.divideError", "math/bits.overflowError", "consistory/mod.tried", "math/bits.deBruijn64tab"], apart := false, laid := [("math/bits.deBruijn64tab", laid_math_bits_deBruijn64tab), ("consistory/mod.tried", laid_consistory_mod_tried)], narrowed := true }
def BivarBackUptoSaid : Prop := bivarBackUptoRow.holds Tryd.pinned (OpenSpec.upto bivarBackSpec)

/-- 'consistorylaw06.BivarColumns', WHERE WHAT IT READS IS OF BULK AT MOST 1048576: true; the input reads as it did. -/
def bivarColumnsUptoRow : OpenClaim := { program := "ytgdfphcggjclkaadoor", sum := "d7fafbcc0ad49c56815fcb61b6931fbc3e96e672ccd3344c35935d2c097b4fbb", func := "consistory/consistorylaw06.BivarColumns", spec := "bivarColumns", unfollowed := true, recurses := true, named := ["math/bits.divideError", "math/bits.overflowError", "consistory/mod.tried", "math/bits.deBruijn64tab"], apart := false, laid := [("math/bits.deBruijn64tab", laid_math_bits_deBruijn64tab), ("consistory/mod.tried", laid_consistory_mod_tried)], narrowed := true }
def BivarColumnsUptoSaid : Prop := bivarColumnsUptoRow.holds Tryd.pinned (OpenSpec.upto bivarColumnsSpec)

/-- 'consistorylaw06.BivarHidden', WHERE WHAT IT READS IS OF BULK AT MOST 1048576: true; the input reads as it did. -/
def bivarHiddenUptoRow : OpenClaim := { program := "ytgdfphcggjclkaadoor", sum := "d7fafbcc0ad49c56815fcb61b6931fbc3e96e672ccd3344c35935d2c097b4fbb", func := "consistory/consistorylaw06.BivarHidden", spec := "bivarHidden", unfollowed := true, recurses := true, named := ["math/bits.divideError", "math/bits.overflowError", "consistory/mod.tried", "math/bits.deBruijn64tab"], apart := false, laid := [("math/bits.deBruijn64tab", laid_math_bits_deBruijn64tab), ("consistory/mod.tried", laid_consistory_mod_tried)], narrowed := true }
def BivarHiddenUptoSaid : Prop := bivarHiddenUptoRow.holds Tryd.pinned (OpenSpec.upto bivarHiddenSpec)

/-- 'consistorylaw04.RankTells', WHERE WHAT IT READS IS OF BULK AT MOST 1048576: true; the input reads as it did. -/
def rankTellsUptoRow : OpenClaim := { program := "ytgdfphcggjclkaadoor", sum := "d7fafbcc0ad49c56815fcb61b6931fbc3e96e672ccd3344c35935d2c097b4fbb", func := "consistory/consistorylaw04.RankTells", spec := "rankTells", recurses := true, named := ["consistory/mod.tried", "math/bits.deBruijn64tab", "math/bits.divideError", "math/bits.overflowError"], apart := false, laid := [("math/bits.deBruijn64tab", laid_math_bits_deBruijn64tab), ("consistory/mod.tried", laid_consistory_mod_tried)], narrowed := true }
def RankTellsUptoSaid : Prop := rankTellsUptoRow.holds Tryd.pinned (OpenSpec.upto rankTellsSpec)

/-- 'consistorylaw04.RankSolves', WHERE WHAT IT READS IS OF BULK AT MOST 1048576: true; the input reads as it did. -/
def rankSolvesUptoRow : OpenClaim := { program := "ytgdfphcggjclkaadoor", sum := "d7fafbcc0ad49c56815fcb61b6931fbc3e96e672ccd3344c35935d2c097b4fbb", func := "consistory/consistorylaw04.RankSolves", spec := "rankSolves", recurses := true, named := ["consistory/mod.tried", "math/bits.deBruijn64tab", "math/bits.divideError", "math/bits.overflowError"], apart := false, laid := [("math/bits.deBruijn64tab", laid_math_bits_deBruijn64tab), ("consistory/mod.tried", laid_consistory_mod_tried)], narrowed := true }
def RankSolvesUptoSaid : Prop := rankSolvesUptoRow.holds Tryd.pinned (OpenSpec.upto rankSolvesSpec)

/-- 'consistorylaw04.RankMore', WHERE WHAT IT READS IS OF BULK AT MOST 1048576: true; the input reads as it did. -/
def rankMoreUptoRow : OpenClaim := { program := "ytgdfphcggjclkaadoor", sum := "d7fafbcc0ad49c56815fcb61b6931fbc3e96e672ccd3344c35935d2c097b4fbb", func := "consistory/consistorylaw04.RankMore", spec := "rankMore", named := ["consistory/mod.tried", "math/bits.deBruijn64tab", "math/bits.divideError", "math/bits.overflowError"], apart := false, laid := [("math/bits.deBruijn64tab", laid_math_bits_deBruijn64tab), ("consistory/mod.tried", laid_consistory_mod_tried)], narrowed := true }
def RankMoreUptoSaid : Prop := rankMoreUptoRow.holds Tryd.pinned (OpenSpec.upto rankMoreSpec)

/-- 'consistorylaw04.RankShared', WHERE WHAT IT READS IS OF BULK AT MOST 1048576: true; the input reads as it did. -/
def rankSharedUptoRow : OpenClaim := { program := "ytgdfphcggjclkaadoor", sum := "d7fafbcc0ad49c56815fcb61b6931fbc3e96e672ccd3344c35935d2c097b4fbb", func := "consistory/consistorylaw04.RankShared", spec := "rankShared", named := ["consistory/mod.tried", "math/bits.deBruijn64tab", "math/bits.divideError", "math/bits.overflowError"], apart := false, laid := [("math/bits.deBruijn64tab", laid_math_bits_deBruijn64tab), ("consistory/mod.tried", laid_consistory_mod_tried)], narrowed := true }
def RankSharedUptoSaid : Prop := rankSharedUptoRow.holds Tryd.pinned (OpenSpec.upto rankSharedSpec)

/-- 'consistorylaw04.RankTurned', WHERE WHAT IT READS IS OF BULK AT MOST 1048576: true; the input reads as it did. -/
def rankTurnedUptoRow : OpenClaim := { program := "ytgdfphcggjclkaadoor", sum := "d7fafbcc0ad49c56815fcb61b6931fbc3e96e672ccd3344c35935d2c097b4fbb", func := "consistory/consistorylaw04.RankTurned", spec := "rankTurned", named := ["consistory/mod.tried", "math/bits.deBruijn64tab", "math/bits.divideError", "math/bits.overflowError"], apart := false, laid := [("math/bits.deBruijn64tab", laid_math_bits_deBruijn64tab), ("consistory/mod.tried", laid_consistory_mod_tried)], narrowed := true }
def RankTurnedUptoSaid : Prop := rankTurnedUptoRow.holds Tryd.pinned (OpenSpec.upto rankTurnedSpec)

/-- 'consistorylaw04.RankWays', WHERE WHAT IT READS IS OF BULK AT MOST 1048576: true; the input reads as it did. -/
def rankWaysUptoRow : OpenClaim := { program := "ytgdfphcggjclkaadoor", sum := "d7fafbcc0ad49c56815fcb61b6931fbc3e96e672ccd3344c35935d2c097b4fbb", func := "consistory/consistorylaw04.RankWays", spec := "rankWays", named := ["consistory/mod.tried", "math/bits.deBruijn64tab", "math/bits.divideError", "math/bits.overflowError"], apart := false, laid := [("math/bits.deBruijn64tab", laid_math_bits_deBruijn64tab), ("consistory/mod.tried", laid_consistory_mod_tried)], narrowed := true }
def RankWaysUptoSaid : Prop := rankWaysUptoRow.holds Tryd.pinned (OpenSpec.upto rankWaysSpec)

/-- 'consistorylaw04.RankSolved', WHERE WHAT IT READS IS OF BULK AT MOST 1048576: true; the input reads as it did. -/
def rankSolvedUptoRow : OpenClaim := { program := "ytgdfphcggjclkaadoor", sum := "d7fafbcc0ad49c56815fcb61b6931fbc3e96e672ccd3344c35935d2c097b4fbb", func := "consistory/consistorylaw04.RankSolved", spec := "rankSolved", named := ["consistory/mod.tried", "math/bits.deBruijn64tab", "math/bits.divideError", "math/bits.overflowError"], apart := false, laid := [("math/bits.deBruijn64tab", laid_math_bits_deBruijn64tab), ("consistory/mod.tried", laid_consistory_mod_tried)], narrowed := true }
def RankSolvedUptoSaid : Prop := rankSolvedUptoRow.holds Tryd.pinned (OpenSpec.upto rankSolvedSpec)

end Rows
end Go.Proofs.YtgdfphcggjclkaaDoor
