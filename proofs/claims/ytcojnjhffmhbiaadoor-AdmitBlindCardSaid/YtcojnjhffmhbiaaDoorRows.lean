/-
  NARROWER THAN 'FOR EVERY INPUT', by the rows' own cells (each row's printed sentence says how): RankTells: laid · RankSolves: laid · RankWays: laid · RankSolved: laid · AdmitFollows: laid · AdmitRow: laid · BivarBack: laid · BivarColumns: laid · BivarHidden: laid · RobustTells: laid · RobustFits: laid · RobustAlong: laid · RobustAhead: laid · AdmitBlind: laid · AdmitTells: laid.
  DERIVED. THE GIVEN ROWS OF THIS SEAT. 15 by the template 'for every input the law returns true; each argument reads behind the call as it read before'; 0 by the template 'total and deterministic' (their statements: YtcojnjhffmhbiaaDoorTotals.lean).
  GIVEN WITH THE SEED: the statements are not yours to turn. If you find one false, say at which input.
  Laid BY PROGRAM, IN A SANDBOX (cutbox-rows.mjs): the forced cells as the released guide's own fill.sh prints them over the translation 99e80ee06a09d975… (all of the seat's roots in one cut). By AI agents, Wed Nov 11 2026. No macro, syntax, notation, axiom, sorry.
-/
import Derived.Test.YtcojnjhffmhbiaaDoorChecked
import GoSem.Claim
import GoSem.ClaimJoined
import GoSem.ClaimMapViews
import Derived.JoinedTies
import Derived.KernelRfl
namespace Go.Proofs.YtcojnjhffmhbiaaDoor
/- THE CELL 'sum', in the pinned program and in every row, IS THE sha256 OF THE DUMP (.gsa) THAT YtcojnjhffmhbiaaDoorProg.lean LOADS. Nothing in Lean hashes anything: it is a label: what it is worth is what the hold of that sum in a sandbox is worth. -/
noncomputable def Tryd.pinned : Pinned := { name := "ytcojnjhffmhbiaadoor", sum := "99e80ee06a09d9752505121c864a54d2426efebbf22d18f911180f1f07ce8575", checked := Tryd.checked }
namespace Rows
def none {H : Type} : Left H := { results := [], args := [] }

/- WHAT THE LISTED PACKAGE-LEVEL VARIABLES READ AS WHEN THE CALL BEGINS. Each datum BY PROGRAM (the guide's laid-datum.mjs) off the statement by which the dump's own 'gosem.cut.vars' lays the variable. In a bare row this is a premise. The card (YtcojnjhffmhbiaaDoorCards.lean) ties it to the program's text. -/
def laid_math_bits_deBruijn64tab {H : Type} : DataW H := .agg [.lit (.int .u8 0), .lit (.int .u8 1), .lit (.int .u8 56), .lit (.int .u8 2), .lit (.int .u8 57), .lit (.int .u8 49), .lit (.int .u8 28), .lit (.int .u8 3), .lit (.int .u8 61), .lit (.int .u8 58), .lit (.int .u8 42), .lit (.int .u8 50), .lit (.int .u8 38), .lit (.int .u8 29), .lit (.int .u8 17), .lit (.int .u8 4), .lit (.int .u8 62), .lit (.int .u8 47), .lit (.int .u8 59), .lit (.int .u8 36), .lit (.int .u8 45), .lit (.int .u8 43), .lit (.int .u8 51), .lit (.int .u8 22), .lit (.int .u8 53), .lit (.int .u8 39), .lit (.int .u8 33), .lit (.int .u8 30), .lit (.int .u8 24), .lit (.int .u8 18), .lit (.int .u8 12), .lit (.int .u8 5), .lit (.int .u8 63), .lit (.int .u8 55), .lit (.int .u8 48), .lit (.int .u8 27), .lit (.int .u8 60), .lit (.int .u8 41), .lit (.int .u8 37), .lit (.int .u8 16), .lit (.int .u8 46), .lit (.int .u8 35), .lit (.int .u8 44), .lit (.int .u8 21), .lit (.int .u8 52), .lit (.int .u8 32), .lit (.int .u8 23), .lit (.int .u8 11), .lit (.int .u8 54), .lit (.int .u8 26), .lit (.int .u8 40), .lit (.int .u8 15), .lit (.int .u8 34), .lit (.int .u8 20), .lit (.int .u8 31), .lit (.int .u8 10), .lit (.int .u8 25), .lit (.int .u8 14), .lit (.int .u8 19), .lit (.int .u8 9), .lit (.int .u8 13), .lit (.int .u8 8), .lit (.int .u8 7), .lit (.int .u8 6)]
def laid_consistory_mod_tried {H : Type} : DataW H := .agg [.lit (.int .u64 2), .lit (.int .u64 3), .lit (.int .u64 5), .lit (.int .u64 7), .lit (.int .u64 11), .lit (.int .u64 13), .lit (.int .u64 17), .lit (.int .u64 19), .lit (.int .u64 23), .lit (.int .u64 29), .lit (.int .u64 31), .lit (.int .u64 37)]

/-- 'consistorylaw04.RankTells': WHATEVER THE INPUT: true; the input reads as it did. -/
def rankTellsSpec : ChangeSpec := { name := "rankTells", fn := fun _ => fun
  | [d1, d2, d3] => { results := [.lit (.bool true)], args := [d1, d2, d3] }
  | _ => none }
def rankTellsRow : OpenClaim := { program := "ytcojnjhffmhbiaadoor", sum := "99e80ee06a09d9752505121c864a54d2426efebbf22d18f911180f1f07ce8575", func := "consistory/consistorylaw04.RankTells", spec := "rankTells", recurses := true, named := ["consistory/mod.tried", "math/bits.deBruijn64tab", "math/bits.divideError", "math/bits.overflowError"], apart := false, laid := [("math/bits.deBruijn64tab", laid_math_bits_deBruijn64tab), ("consistory/mod.tried", laid_consistory_mod_tried)] }
def RankTellsSaid : Prop := rankTellsRow.holds Tryd.pinned (OpenSpec.ofChange rankTellsSpec)

/-- ITS FALSE NEIGHBOUR: 'it returns false'. Refute it at one input. -/
def rankTellsWrong : ChangeSpec := { name := "rankTells", fn := fun _ => fun
  | [d1, d2, d3] => { results := [.lit (.bool false)], args := [d1, d2, d3] }
  | _ => none }
def RankTellsWrongFalsely : Prop := rankTellsRow.holds Tryd.pinned (OpenSpec.ofChange rankTellsWrong)

/-- 'consistorylaw04.RankSolves': WHATEVER THE INPUT: true; the input reads as it did. -/
def rankSolvesSpec : ChangeSpec := { name := "rankSolves", fn := fun _ => fun
  | [d1, d2, d3] => { results := [.lit (.bool true)], args := [d1, d2, d3] }
  | _ => none }
def rankSolvesRow : OpenClaim := { program := "ytcojnjhffmhbiaadoor", sum := "99e80ee06a09d9752505121c864a54d2426efebbf22d18f911180f1f07ce8575", func := "consistory/consistorylaw04.RankSolves", spec := "rankSolves", recurses := true, named := ["consistory/mod.tried", "math/bits.deBruijn64tab", "math/bits.divideError", "math/bits.overflowError"], apart := false, laid := [("math/bits.deBruijn64tab", laid_math_bits_deBruijn64tab), ("consistory/mod.tried", laid_consistory_mod_tried)] }
def RankSolvesSaid : Prop := rankSolvesRow.holds Tryd.pinned (OpenSpec.ofChange rankSolvesSpec)

/-- ITS FALSE NEIGHBOUR: 'it returns false'. Refute it at one input. -/
def rankSolvesWrong : ChangeSpec := { name := "rankSolves", fn := fun _ => fun
  | [d1, d2, d3] => { results := [.lit (.bool false)], args := [d1, d2, d3] }
  | _ => none }
def RankSolvesWrongFalsely : Prop := rankSolvesRow.holds Tryd.pinned (OpenSpec.ofChange rankSolvesWrong)

/-- 'consistorylaw04.RankWays': WHATEVER THE INPUT: true; the input reads as it did. -/
def rankWaysSpec : ChangeSpec := { name := "rankWays", fn := fun _ => fun
  | [d1, d2, d3, d4, d5] => { results := [.lit (.bool true)], args := [d1, d2, d3, d4, d5] }
  | _ => none }
def rankWaysRow : OpenClaim := { program := "ytcojnjhffmhbiaadoor", sum := "99e80ee06a09d9752505121c864a54d2426efebbf22d18f911180f1f07ce8575", func := "consistory/consistorylaw04.RankWays", spec := "rankWays", named := ["consistory/mod.tried", "math/bits.deBruijn64tab", "math/bits.divideError", "math/bits.overflowError"], apart := false, laid := [("math/bits.deBruijn64tab", laid_math_bits_deBruijn64tab), ("consistory/mod.tried", laid_consistory_mod_tried)] }
def RankWaysSaid : Prop := rankWaysRow.holds Tryd.pinned (OpenSpec.ofChange rankWaysSpec)

/-- ITS FALSE NEIGHBOUR: 'it returns false'. Refute it at one input. -/
def rankWaysWrong : ChangeSpec := { name := "rankWays", fn := fun _ => fun
  | [d1, d2, d3, d4, d5] => { results := [.lit (.bool false)], args := [d1, d2, d3, d4, d5] }
  | _ => none }
def RankWaysWrongFalsely : Prop := rankWaysRow.holds Tryd.pinned (OpenSpec.ofChange rankWaysWrong)

/-- 'consistorylaw04.RankSolved': WHATEVER THE INPUT: true; the input reads as it did. -/
def rankSolvedSpec : ChangeSpec := { name := "rankSolved", fn := fun _ => fun
  | [d1, d2, d3, d4] => { results := [.lit (.bool true)], args := [d1, d2, d3, d4] }
  | _ => none }
def rankSolvedRow : OpenClaim := { program := "ytcojnjhffmhbiaadoor", sum := "99e80ee06a09d9752505121c864a54d2426efebbf22d18f911180f1f07ce8575", func := "consistory/consistorylaw04.RankSolved", spec := "rankSolved", named := ["consistory/mod.tried", "math/bits.deBruijn64tab", "math/bits.divideError", "math/bits.overflowError"], apart := false, laid := [("math/bits.deBruijn64tab", laid_math_bits_deBruijn64tab), ("consistory/mod.tried", laid_consistory_mod_tried)] }
def RankSolvedSaid : Prop := rankSolvedRow.holds Tryd.pinned (OpenSpec.ofChange rankSolvedSpec)

/-- ITS FALSE NEIGHBOUR: 'it returns false'. Refute it at one input. -/
def rankSolvedWrong : ChangeSpec := { name := "rankSolved", fn := fun _ => fun
  | [d1, d2, d3, d4] => { results := [.lit (.bool false)], args := [d1, d2, d3, d4] }
  | _ => none }
def RankSolvedWrongFalsely : Prop := rankSolvedRow.holds Tryd.pinned (OpenSpec.ofChange rankSolvedWrong)

/-- 'consistorylaw21.AdmitFollows': WHATEVER THE INPUT: true; the input reads as it did. -/
def admitFollowsSpec : ChangeSpec := { name := "admitFollows", fn := fun _ => fun
  | [d1, d2, d3, d4, d5, d6] => { results := [.lit (.bool true)], args := [d1, d2, d3, d4, d5, d6] }
  | _ => none }
def admitFollowsRow : OpenClaim := { program := "ytcojnjhffmhbiaadoor", sum := "99e80ee06a09d9752505121c864a54d2426efebbf22d18f911180f1f07ce8575", func := "consistory/consistorylaw21.AdmitFollows", spec := "admitFollows", unfollowed := true, recurses := true, named := ["consistory/mod.tried", "math/bits.deBruijn64tab", "math/bits.divideError", "math/bits.overflowError"], apart := false, laid := [("math/bits.deBruijn64tab", laid_math_bits_deBruijn64tab), ("consistory/mod.tried", laid_consistory_mod_tried)] }
def AdmitFollowsSaid : Prop := admitFollowsRow.holds Tryd.pinned (OpenSpec.ofChange admitFollowsSpec)

/-- ITS FALSE NEIGHBOUR: 'it returns false'. Refute it at one input. -/
def admitFollowsWrong : ChangeSpec := { name := "admitFollows", fn := fun _ => fun
  | [d1, d2, d3, d4, d5, d6] => { results := [.lit (.bool false)], args := [d1, d2, d3, d4, d5, d6] }
  | _ => none }
def AdmitFollowsWrongFalsely : Prop := admitFollowsRow.holds Tryd.pinned (OpenSpec.ofChange admitFollowsWrong)

/-- 'consistorylaw21.AdmitRow': WHATEVER THE INPUT: true; the input reads as it did. -/
def admitRowSpec : ChangeSpec := { name := "admitRow", fn := fun _ => fun
  | [d1, d2, d3] => { results := [.lit (.bool true)], args := [d1, d2, d3] }
  | _ => none }
def admitRowRow : OpenClaim := { program := "ytcojnjhffmhbiaadoor", sum := "99e80ee06a09d9752505121c864a54d2426efebbf22d18f911180f1f07ce8575", func := "consistory/consistorylaw21.AdmitRow", spec := "admitRow", unfollowed := true, recurses := true, named := ["consistory/mod.tried", "math/bits.deBruijn64tab", "math/bits.divideError", "math/bits.overflowError"], apart := false, laid := [("math/bits.deBruijn64tab", laid_math_bits_deBruijn64tab), ("consistory/mod.tried", laid_consistory_mod_tried)] }
def AdmitRowSaid : Prop := admitRowRow.holds Tryd.pinned (OpenSpec.ofChange admitRowSpec)

/-- ITS FALSE NEIGHBOUR: 'it returns false'. Refute it at one input. -/
def admitRowWrong : ChangeSpec := { name := "admitRow", fn := fun _ => fun
  | [d1, d2, d3] => { results := [.lit (.bool false)], args := [d1, d2, d3] }
  | _ => none }
def AdmitRowWrongFalsely : Prop := admitRowRow.holds Tryd.pinned (OpenSpec.ofChange admitRowWrong)

/-- 'consistorylaw06.BivarBack': WHATEVER THE INPUT: true; the input reads as it did. -/
def bivarBackSpec : ChangeSpec := { name := "bivarBack", fn := fun _ => fun
  | [d1, d2, d3, d4] => { results := [.lit (.bool true)], args := [d1, d2, d3, d4] }
  | _ => none }
def bivarBackRow : OpenClaim := { program := "ytcojnjhffmhbiaadoor", sum := "99e80ee06a09d9752505121c864a54d2426efebbf22d18f911180f1f07ce8575", func := "consistory/consistorylaw06.BivarBack", spec := "bivarBack", unfollowed := true, recurses := true, named := ["math/bits.divideError", "math/bits.overflowError", "consistory/mod.tried", "math/bits.deBruijn64tab"], apart := false, laid := [("math/bits.deBruijn64tab", laid_math_bits_deBruijn64tab), ("consistory/mod.tried", laid_consistory_mod_tried)] }
def BivarBackSaid : Prop := bivarBackRow.holds Tryd.pinned (OpenSpec.ofChange bivarBackSpec)

/-- ITS FALSE NEIGHBOUR: 'it returns false'. Refute it at one input. -/
def bivarBackWrong : ChangeSpec := { name := "bivarBack", fn := fun _ => fun
  | [d1, d2, d3, d4] => { results := [.lit (.bool false)], args := [d1, d2, d3, d4] }
  | _ => none }
def BivarBackWrongFalsely : Prop := bivarBackRow.holds Tryd.pinned (OpenSpec.ofChange bivarBackWrong)

/-- 'consistorylaw06.BivarColumns': WHATEVER THE INPUT: true; the input reads as it did. -/
def bivarColumnsSpec : ChangeSpec := { name := "bivarColumns", fn := fun _ => fun
  | [d1, d2, d3, d4] => { results := [.lit (.bool true)], args := [d1, d2, d3, d4] }
  | _ => none }
def bivarColumnsRow : OpenClaim := { program := "ytcojnjhffmhbiaadoor", sum := "99e80ee06a09d9752505121c864a54d2426efebbf22d18f911180f1f07ce8575", func := "consistory/consistorylaw06.BivarColumns", spec := "bivarColumns", unfollowed := true, recurses := true, named := ["math/bits.divideError", "math/bits.overflowError", "consistory/mod.tried", "math/bits.deBruijn64tab"], apart := false, laid := [("math/bits.deBruijn64tab", laid_math_bits_deBruijn64tab), ("consistory/mod.tried", laid_consistory_mod_tried)] }
def BivarColumnsSaid : Prop := bivarColumnsRow.holds Tryd.pinned (OpenSpec.ofChange bivarColumnsSpec)

/-- ITS FALSE NEIGHBOUR: 'it returns false'. Refute it at one input. -/
def bivarColumnsWrong : ChangeSpec := { name := "bivarColumns", fn := fun _ => fun
  | [d1, d2, d3, d4] => { results := [.lit (.bool false)], args := [d1, d2, d3, d4] }
  | _ => none }
def BivarColumnsWrongFalsely : Prop := bivarColumnsRow.holds Tryd.pinned (OpenSpec.ofChange bivarColumnsWrong)

/-- 'consistorylaw06.BivarHidden': WHATEVER THE INPUT: true; the input reads as it did. -/
def bivarHiddenSpec : ChangeSpec := { name := "bivarHidden", fn := fun _ => fun
  | [d1, d2, d3, d4] => { results := [.lit (.bool true)], args := [d1, d2, d3, d4] }
  | _ => none }
def bivarHiddenRow : OpenClaim := { program := "ytcojnjhffmhbiaadoor", sum := "99e80ee06a09d9752505121c864a54d2426efebbf22d18f911180f1f07ce8575", func := "consistory/consistorylaw06.BivarHidden", spec := "bivarHidden", unfollowed := true, recurses := true, named := ["math/bits.divideError", "math/bits.overflowError", "consistory/mod.tried", "math/bits.deBruijn64tab"], apart := false, laid := [("math/bits.deBruijn64tab", laid_math_bits_deBruijn64tab), ("consistory/mod.tried", laid_consistory_mod_tried)] }
def BivarHiddenSaid : Prop := bivarHiddenRow.holds Tryd.pinned (OpenSpec.ofChange bivarHiddenSpec)

/-- ITS FALSE NEIGHBOUR: 'it returns false'. Refute it at one input. -/
def bivarHiddenWrong : ChangeSpec := { name := "bivarHidden", fn := fun _ => fun
  | [d1, d2, d3, d4] => { results := [.lit (.bool false)], args := [d1, d2, d3, d4] }
  | _ => none }
def BivarHiddenWrongFalsely : Prop := bivarHiddenRow.holds Tryd.pinned (OpenSpec.ofChange bivarHiddenWrong)

/-- 'consistorylaw05.RobustTells': WHATEVER THE INPUT: true; the input reads as it did. -/
def robustTellsSpec : ChangeSpec := { name := "robustTells", fn := fun _ => fun
  | [d1, d2, d3, d4] => { results := [.lit (.bool true)], args := [d1, d2, d3, d4] }
  | _ => none }
def robustTellsRow : OpenClaim := { program := "ytcojnjhffmhbiaadoor", sum := "99e80ee06a09d9752505121c864a54d2426efebbf22d18f911180f1f07ce8575", func := "consistory/consistorylaw05.RobustTells", spec := "robustTells", unfollowed := true, recurses := true, named := ["consistory/mod.tried", "math/bits.deBruijn64tab", "math/bits.divideError", "math/bits.overflowError"], apart := false, laid := [("math/bits.deBruijn64tab", laid_math_bits_deBruijn64tab), ("consistory/mod.tried", laid_consistory_mod_tried)] }
def RobustTellsSaid : Prop := robustTellsRow.holds Tryd.pinned (OpenSpec.ofChange robustTellsSpec)

/-- ITS FALSE NEIGHBOUR: 'it returns false'. Refute it at one input. -/
def robustTellsWrong : ChangeSpec := { name := "robustTells", fn := fun _ => fun
  | [d1, d2, d3, d4] => { results := [.lit (.bool false)], args := [d1, d2, d3, d4] }
  | _ => none }
def RobustTellsWrongFalsely : Prop := robustTellsRow.holds Tryd.pinned (OpenSpec.ofChange robustTellsWrong)

/-- 'consistorylaw05.RobustFits': WHATEVER THE INPUT: true; the input reads as it did. -/
def robustFitsSpec : ChangeSpec := { name := "robustFits", fn := fun _ => fun
  | [d1, d2, d3, d4] => { results := [.lit (.bool true)], args := [d1, d2, d3, d4] }
  | _ => none }
def robustFitsRow : OpenClaim := { program := "ytcojnjhffmhbiaadoor", sum := "99e80ee06a09d9752505121c864a54d2426efebbf22d18f911180f1f07ce8575", func := "consistory/consistorylaw05.RobustFits", spec := "robustFits", unfollowed := true, recurses := true, named := ["consistory/mod.tried", "math/bits.deBruijn64tab", "math/bits.divideError", "math/bits.overflowError"], apart := false, laid := [("math/bits.deBruijn64tab", laid_math_bits_deBruijn64tab), ("consistory/mod.tried", laid_consistory_mod_tried)] }
def RobustFitsSaid : Prop := robustFitsRow.holds Tryd.pinned (OpenSpec.ofChange robustFitsSpec)

/-- ITS FALSE NEIGHBOUR: 'it returns false'. Refute it at one input. -/
def robustFitsWrong : ChangeSpec := { name := "robustFits", fn := fun _ => fun
  | [d1, d2, d3, d4] => { results := [.lit (.bool false)], args := [d1, d2, d3, d4] }
  | _ => none }
def RobustFitsWrongFalsely : Prop := robustFitsRow.holds Tryd.pinned (OpenSpec.ofChange robustFitsWrong)

/-- 'consistorylaw05.RobustAlong': WHATEVER THE INPUT: true; the input reads as it did. -/
def robustAlongSpec : ChangeSpec := { name := "robustAlong", fn := fun _ => fun
  | [d1, d2, d3, d4, d5, d6] => { results := [.lit (.bool true)], args := [d1, d2, d3, d4, d5, d6] }
  | _ => none }
def robustAlongRow : OpenClaim := { program := "ytcojnjhffmhbiaadoor", sum := "99e80ee06a09d9752505121c864a54d2426efebbf22d18f911180f1f07ce8575", func := "consistory/consistorylaw05.RobustAlong", spec := "robustAlong", unfollowed := true, recurses := true, named := ["consistory/mod.tried", "math/bits.deBruijn64tab", "math/bits.divideError", "math/bits.overflowError"], apart := false, laid := [("math/bits.deBruijn64tab", laid_math_bits_deBruijn64tab), ("consistory/mod.tried", laid_consistory_mod_tried)] }
def RobustAlongSaid : Prop := robustAlongRow.holds Tryd.pinned (OpenSpec.ofChange robustAlongSpec)

/-- ITS FALSE NEIGHBOUR: 'it returns false'. Refute it at one input. -/
def robustAlongWrong : ChangeSpec := { name := "robustAlong", fn := fun _ => fun
  | [d1, d2, d3, d4, d5, d6] => { results := [.lit (.bool false)], args := [d1, d2, d3, d4, d5, d6] }
  | _ => none }
def RobustAlongWrongFalsely : Prop := robustAlongRow.holds Tryd.pinned (OpenSpec.ofChange robustAlongWrong)

/-- 'consistorylaw05.RobustAhead': WHATEVER THE INPUT: true; the input reads as it did. -/
def robustAheadSpec : ChangeSpec := { name := "robustAhead", fn := fun _ => fun
  | [d1, d2, d3, d4, d5, d6] => { results := [.lit (.bool true)], args := [d1, d2, d3, d4, d5, d6] }
  | _ => none }
def robustAheadRow : OpenClaim := { program := "ytcojnjhffmhbiaadoor", sum := "99e80ee06a09d9752505121c864a54d2426efebbf22d18f911180f1f07ce8575", func := "consistory/consistorylaw05.RobustAhead", spec := "robustAhead", unfollowed := true, recurses := true, named := ["consistory/mod.tried", "math/bits.deBruijn64tab", "math/bits.divideError", "math/bits.overflowError"], apart := false, laid := [("math/bits.deBruijn64tab", laid_math_bits_deBruijn64tab), ("consistory/mod.tried", laid_consistory_mod_tried)] }
def RobustAheadSaid : Prop := robustAheadRow.holds Tryd.pinned (OpenSpec.ofChange robustAheadSpec)

/-- ITS FALSE NEIGHBOUR: 'it returns false'. Refute it at one input. -/
def robustAheadWrong : ChangeSpec := { name := "robustAhead", fn := fun _ => fun
  | [d1, d2, d3, d4, d5, d6] => { results := [.lit (.bool false)], args := [d1, d2, d3, d4, d5, d6] }
  | _ => none }
def RobustAheadWrongFalsely : Prop := robustAheadRow.holds Tryd.pinned (OpenSpec.ofChange robustAheadWrong)

/-- 'consistorylaw21.AdmitBlind': WHATEVER THE INPUT: true; the input reads as it did. -/
def admitBlindSpec : ChangeSpec := { name := "admitBlind", fn := fun _ => fun
  | [d1, d2, d3] => { results := [.lit (.bool true)], args := [d1, d2, d3] }
  | _ => none }
def admitBlindRow : OpenClaim := { program := "ytcojnjhffmhbiaadoor", sum := "99e80ee06a09d9752505121c864a54d2426efebbf22d18f911180f1f07ce8575", func := "consistory/consistorylaw21.AdmitBlind", spec := "admitBlind", unfollowed := true, recurses := true, named := ["consistory/mod.tried", "math/bits.deBruijn64tab", "math/bits.divideError", "math/bits.overflowError"], apart := false, laid := [("math/bits.deBruijn64tab", laid_math_bits_deBruijn64tab), ("consistory/mod.tried", laid_consistory_mod_tried)] }
def AdmitBlindSaid : Prop := admitBlindRow.holds Tryd.pinned (OpenSpec.ofChange admitBlindSpec)

/-- ITS FALSE NEIGHBOUR: 'it returns false'. Refute it at one input. -/
def admitBlindWrong : ChangeSpec := { name := "admitBlind", fn := fun _ => fun
  | [d1, d2, d3] => { results := [.lit (.bool false)], args := [d1, d2, d3] }
  | _ => none }
def AdmitBlindWrongFalsely : Prop := admitBlindRow.holds Tryd.pinned (OpenSpec.ofChange admitBlindWrong)

/-- 'consistorylaw21.AdmitTells': WHATEVER THE INPUT: true; the input reads as it did. -/
def admitTellsSpec : ChangeSpec := { name := "admitTells", fn := fun _ => fun
  | [d1, d2, d3, d4, d5] => { results := [.lit (.bool true)], args := [d1, d2, d3, d4, d5] }
  | _ => none }
def admitTellsRow : OpenClaim := { program := "ytcojnjhffmhbiaadoor", sum := "99e80ee06a09d9752505121c864a54d2426efebbf22d18f911180f1f07ce8575", func := "consistory/consistorylaw21.AdmitTells", spec := "admitTells", unfollowed := true, recurses := true, named := ["consistory/mod.tried", "math/bits.deBruijn64tab", "math/bits.divideError", "math/bits.overflowError"], apart := false, laid := [("math/bits.deBruijn64tab", laid_math_bits_deBruijn64tab), ("consistory/mod.tried", laid_consistory_mod_tried)] }
def AdmitTellsSaid : Prop := admitTellsRow.holds Tryd.pinned (OpenSpec.ofChange admitTellsSpec)

/-- ITS FALSE NEIGHBOUR: 'it returns false'. Refute it at one input. -/
def admitTellsWrong : ChangeSpec := { name := "admitTells", fn := fun _ => fun
  | [d1, d2, d3, d4, d5] => { results := [.lit (.bool false)], args := [d1, d2, d3, d4, d5] }
  | _ => none }
def AdmitTellsWrongFalsely : Prop := admitTellsRow.holds Tryd.pinned (OpenSpec.ofChange admitTellsWrong)

/- THE SECOND FORM. 'bulk': how many values and letters a reading holds, each counted each time it is reached (what is shared counts as often as it is met; a slice's spare places count too). A statement '..UptoSaid' is the law's where the arguments, and the package variables that the reading takes, are together of bulk at most 1048576: NARROWER than '..Said'. Prove '..Said' where nothing that the law and all that it calls make is longer than what came in: it says more and counts as full. Else prove '..UptoSaid'. A law counts once. -/
mutual
def uptoBulk {H : Type} : DataW H → Nat
  | .lit (.string bytes) => bytes.length + 1
  | .lit _ => 1
  | .nil => 1
  | .ptr d => uptoBulk d + 1
  | .slice elems spare => uptoBulkAll elems + uptoBulkAll spare + 1
  | .agg parts => uptoBulkAll parts + 1
  | .iface _ d => uptoBulk d + 1
  | .map entries => uptoBulkEntries entries + 1
  | .held _ => 1
def uptoBulkAll {H : Type} : List (DataW H) → Nat
  | [] => 0
  | d :: r => uptoBulk d + uptoBulkAll r
def uptoBulkEntries {H : Type} : List (Lit × DataW H) → Nat
  | [] => 0
  | x :: r => uptoBulkEntry x + uptoBulkEntries r
def uptoBulkEntry {H : Type} : Lit × DataW H → Nat
  | (.string bytes, d) => bytes.length + uptoBulk d + 1
  | (_, d) => uptoBulk d + 1
 end
def uptoSmall : (H : Type) → List (DataW H) → Bool := fun _ ds => decide (uptoBulkAll ds ≤ 1048576)
def OpenSpec.upto (s : _root_.Go.ChangeSpec) : _root_.Go.OpenSpec := { _root_.Go.OpenSpec.ofChange s with cond := some uptoSmall }

/-- 'consistorylaw04.RankTells', WHERE WHAT IT READS IS OF BULK AT MOST 1048576: true; the input reads as it did. -/
def rankTellsUptoRow : OpenClaim := { program := "ytcojnjhffmhbiaadoor", sum := "99e80ee06a09d9752505121c864a54d2426efebbf22d18f911180f1f07ce8575", func := "consistory/consistorylaw04.RankTells", spec := "rankTells", recurses := true, named := ["consistory/mod.tried", "math/bits.deBruijn64tab", "math/bits.divideError", "math/bits.overflowError"], apart := false, laid := [("math/bits.deBruijn64tab", laid_math_bits_deBruijn64tab), ("consistory/mod.tried", laid_consistory_mod_tried)], narrowed := true }
def RankTellsUptoSaid : Prop := rankTellsUptoRow.holds Tryd.pinned (OpenSpec.upto rankTellsSpec)

/-- 'consistorylaw04.RankSolves', WHERE WHAT IT READS IS OF BULK AT MOST 1048576: true; the input reads as it did. -/
def rankSolvesUptoRow : OpenClaim := { program := "ytcojnjhffmhbiaadoor", sum := "99e80ee06a09d9752505121c864a54d2426efebbf22d18f911180f1f07ce8575", func := "consistory/consistorylaw04.RankSolves", spec := "rankSolves", recurses := true, named := ["consistory/mod.tried", "math/bits.deBruijn64tab", "math/bits.divideError", "math/bits.overflowError"], apart := false, laid := [("math/bits.deBruijn64tab", laid_math_bits_deBruijn64tab), ("consistory/mod.tried", laid_consistory_mod_tried)], narrowed := true }
def RankSolvesUptoSaid : Prop := rankSolvesUptoRow.holds Tryd.pinned (OpenSpec.upto rankSolvesSpec)

/-- 'consistorylaw04.RankWays', WHERE WHAT IT READS IS OF BULK AT MOST 1048576: true; the input reads as it did. -/
def rankWaysUptoRow : OpenClaim := { program := "ytcojnjhffmhbiaadoor", sum := "99e80ee06a09d9752505121c864a54d2426efebbf22d18f911180f1f07ce8575", func := "consistory/consistorylaw04.RankWays", spec := "rankWays", named := ["consistory/mod.tried", "math/bits.deBruijn64tab", "math/bits.divideError", "math/bits.overflowError"], apart := false, laid := [("math/bits.deBruijn64tab", laid_math_bits_deBruijn64tab), ("consistory/mod.tried", laid_consistory_mod_tried)], narrowed := true }
def RankWaysUptoSaid : Prop := rankWaysUptoRow.holds Tryd.pinned (OpenSpec.upto rankWaysSpec)

/-- 'consistorylaw04.RankSolved', WHERE WHAT IT READS IS OF BULK AT MOST 1048576: true; the input reads as it did. -/
def rankSolvedUptoRow : OpenClaim := { program := "ytcojnjhffmhbiaadoor", sum := "99e80ee06a09d9752505121c864a54d2426efebbf22d18f911180f1f07ce8575", func := "consistory/consistorylaw04.RankSolved", spec := "rankSolved", named := ["consistory/mod.tried", "math/bits.deBruijn64tab", "math/bits.divideError", "math/bits.overflowError"], apart := false, laid := [("math/bits.deBruijn64tab", laid_math_bits_deBruijn64tab), ("consistory/mod.tried", laid_consistory_mod_tried)], narrowed := true }
def RankSolvedUptoSaid : Prop := rankSolvedUptoRow.holds Tryd.pinned (OpenSpec.upto rankSolvedSpec)

/-- 'consistorylaw21.AdmitFollows', WHERE WHAT IT READS IS OF BULK AT MOST 1048576: true; the input reads as it did. -/
def admitFollowsUptoRow : OpenClaim := { program := "ytcojnjhffmhbiaadoor", sum := "99e80ee06a09d9752505121c864a54d2426efebbf22d18f911180f1f07ce8575", func := "consistory/consistorylaw21.AdmitFollows", spec := "admitFollows", unfollowed := true, recurses := true, named := ["consistory/mod.tried", "math/bits.deBruijn64tab", "math/bits.divideError", "math/bits.overflowError"], apart := false, laid := [("math/bits.deBruijn64tab", laid_math_bits_deBruijn64tab), ("consistory/mod.tried", laid_consistory_mod_tried)], narrowed := true }
def AdmitFollowsUptoSaid : Prop := admitFollowsUptoRow.holds Tryd.pinned (OpenSpec.upto admitFollowsSpec)

/-- 'consistorylaw21.AdmitRow', WHERE WHAT IT READS IS OF BULK AT MOST 1048576: true; the input reads as it did. -/
def admitRowUptoRow : OpenClaim := { program := "ytcojnjhffmhbiaadoor", sum := "99e80ee06a09d9752505121c864a54d2426efebbf22d18f911180f1f07ce8575", func := "consistory/consistorylaw21.AdmitRow", spec := "admitRow", unfollowed := true, recurses := true, named := ["consistory/mod.tried", "math/bits.deBruijn64tab", "math/bits.divideError", "math/bits.overflowError"], apart := false, laid := [("math/bits.deBruijn64tab", laid_math_bits_deBruijn64tab), ("consistory/mod.tried", laid_consistory_mod_tried)], narrowed := true }
def AdmitRowUptoSaid : Prop := admitRowUptoRow.holds Tryd.pinned (OpenSpec.upto admitRowSpec)

/-- 'consistorylaw06.BivarBack', WHERE WHAT IT READS IS OF BULK AT MOST 1048576: true; the input reads as it did. -/
def bivarBackUptoRow : OpenClaim := { program := "ytcojnjhffmhbiaadoor", sum := "99e80ee06a09d9752505121c864a54d2426efebbf22d18f911180f1f07ce8575", func := "consistory/consistorylaw06.BivarBack", spec := "bivarBack", unfollowed := true, recurses := true, named := ["math/bits.divideError", "math/bits.overflowError", "consistory/mod.tried", "math/bits.deBruijn64tab"], apart := false, laid := [("math/bits.deBruijn64tab", laid_math_bits_deBruijn64tab), ("consistory/mod.tried", laid_consistory_mod_tried)], narrowed := true }
def BivarBackUptoSaid : Prop := bivarBackUptoRow.holds Tryd.pinned (OpenSpec.upto bivarBackSpec)

/-- 'consistorylaw06.BivarColumns', WHERE WHAT IT READS IS OF BULK AT MOST 1048576: true; the input reads as it did. -/
def bivarColumnsUptoRow : OpenClaim := { program := "ytcojnjhffmhbiaadoor", sum := "99e80ee06a09d9752505121c864a54d2426efebbf22d18f911180f1f07ce8575", func := "consistory/consistorylaw06.BivarColumns", spec := "bivarColumns", unfollowed := true, recurses := true, named := ["math/bits.divideError", "math/bits.overflowError", "consistory/mod.tried", "math/bits.deBruijn64tab"], apart := false, laid := [("math/bits.deBruijn64tab", laid_math_bits_deBruijn64tab), ("consistory/mod.tried", laid_consistory_mod_tried)], narrowed := true }
def BivarColumnsUptoSaid : Prop := bivarColumnsUptoRow.holds Tryd.pinned (OpenSpec.upto bivarColumnsSpec)

/-- 'consistorylaw06.BivarHidden', WHERE WHAT IT READS IS OF BULK AT MOST 1048576: true; the input reads as it did. -/
def bivarHiddenUptoRow : OpenClaim := { program := "ytcojnjhffmhbiaadoor", sum := "99e80ee06a09d9752505121c864a54d2426efebbf22d18f911180f1f07ce8575", func := "consistory/consistorylaw06.BivarHidden", spec := "bivarHidden", unfollowed := true, recurses := true, named := ["math/bits.divideError", "math/bits.overflowError", "consistory/mod.tried", "math/bits.deBruijn64tab"], apart := false, laid := [("math/bits.deBruijn64tab", laid_math_bits_deBruijn64tab), ("consistory/mod.tried", laid_consistory_mod_tried)], narrowed := true }
def BivarHiddenUptoSaid : Prop := bivarHiddenUptoRow.holds Tryd.pinned (OpenSpec.upto bivarHiddenSpec)

/-- 'consistorylaw05.RobustTells', WHERE WHAT IT READS IS OF BULK AT MOST 1048576: true; the input reads as it did. -/
def robustTellsUptoRow : OpenClaim := { program := "ytcojnjhffmhbiaadoor", sum := "99e80ee06a09d9752505121c864a54d2426efebbf22d18f911180f1f07ce8575", func := "consistory/consistorylaw05.RobustTells", spec := "robustTells", unfollowed := true, recurses := true, named := ["consistory/mod.tried", "math/bits.deBruijn64tab", "math/bits.divideError", "math/bits.overflowError"], apart := false, laid := [("math/bits.deBruijn64tab", laid_math_bits_deBruijn64tab), ("consistory/mod.tried", laid_consistory_mod_tried)], narrowed := true }
def RobustTellsUptoSaid : Prop := robustTellsUptoRow.holds Tryd.pinned (OpenSpec.upto robustTellsSpec)

/-- 'consistorylaw05.RobustFits', WHERE WHAT IT READS IS OF BULK AT MOST 1048576: true; the input reads as it did. -/
def robustFitsUptoRow : OpenClaim := { program := "ytcojnjhffmhbiaadoor", sum := "99e80ee06a09d9752505121c864a54d2426efebbf22d18f911180f1f07ce8575", func := "consistory/consistorylaw05.RobustFits", spec := "robustFits", unfollowed := true, recurses := true, named := ["consistory/mod.tried", "math/bits.deBruijn64tab", "math/bits.divideError", "math/bits.overflowError"], apart := false, laid := [("math/bits.deBruijn64tab", laid_math_bits_deBruijn64tab), ("consistory/mod.tried", laid_consistory_mod_tried)], narrowed := true }
def RobustFitsUptoSaid : Prop := robustFitsUptoRow.holds Tryd.pinned (OpenSpec.upto robustFitsSpec)

/-- 'consistorylaw05.RobustAlong', WHERE WHAT IT READS IS OF BULK AT MOST 1048576: true; the input reads as it did. -/
def robustAlongUptoRow : OpenClaim := { program := "ytcojnjhffmhbiaadoor", sum := "99e80ee06a09d9752505121c864a54d2426efebbf22d18f911180f1f07ce8575", func := "consistory/consistorylaw05.RobustAlong", spec := "robustAlong", unfollowed := true, recurses := true, named := ["consistory/mod.tried", "math/bits.deBruijn64tab", "math/bits.divideError", "math/bits.overflowError"], apart := false, laid := [("math/bits.deBruijn64tab", laid_math_bits_deBruijn64tab), ("consistory/mod.tried", laid_consistory_mod_tried)], narrowed := true }
def RobustAlongUptoSaid : Prop := robustAlongUptoRow.holds Tryd.pinned (OpenSpec.upto robustAlongSpec)

/-- 'consistorylaw05.RobustAhead', WHERE WHAT IT READS IS OF BULK AT MOST 1048576: true; the input reads as it did. -/
def robustAheadUptoRow : OpenClaim := { program := "ytcojnjhffmhbiaadoor", sum := "99e80ee06a09d9752505121c864a54d2426efebbf22d18f911180f1f07ce8575", func := "consistory/consistorylaw05.RobustAhead", spec := "robustAhead", unfollowed := true, recurses := true, named := ["consistory/mod.tried", "math/bits.deBruijn64tab", "math/bits.divideError", "math/bits.overflowError"], apart := false, laid := [("math/bits.deBruijn64tab", laid_math_bits_deBruijn64tab), ("consistory/mod.tried", laid_consistory_mod_tried)], narrowed := true }
def RobustAheadUptoSaid : Prop := robustAheadUptoRow.holds Tryd.pinned (OpenSpec.upto robustAheadSpec)

/-- 'consistorylaw21.AdmitBlind', WHERE WHAT IT READS IS OF BULK AT MOST 1048576: true; the input reads as it did. -/
def admitBlindUptoRow : OpenClaim := { program := "ytcojnjhffmhbiaadoor", sum := "99e80ee06a09d9752505121c864a54d2426efebbf22d18f911180f1f07ce8575", func := "consistory/consistorylaw21.AdmitBlind", spec := "admitBlind", unfollowed := true, recurses := true, named := ["consistory/mod.tried", "math/bits.deBruijn64tab", "math/bits.divideError", "math/bits.overflowError"], apart := false, laid := [("math/bits.deBruijn64tab", laid_math_bits_deBruijn64tab), ("consistory/mod.tried", laid_consistory_mod_tried)], narrowed := true }
def AdmitBlindUptoSaid : Prop := admitBlindUptoRow.holds Tryd.pinned (OpenSpec.upto admitBlindSpec)

/-- 'consistorylaw21.AdmitTells', WHERE WHAT IT READS IS OF BULK AT MOST 1048576: true; the input reads as it did. -/
def admitTellsUptoRow : OpenClaim := { program := "ytcojnjhffmhbiaadoor", sum := "99e80ee06a09d9752505121c864a54d2426efebbf22d18f911180f1f07ce8575", func := "consistory/consistorylaw21.AdmitTells", spec := "admitTells", unfollowed := true, recurses := true, named := ["consistory/mod.tried", "math/bits.deBruijn64tab", "math/bits.divideError", "math/bits.overflowError"], apart := false, laid := [("math/bits.deBruijn64tab", laid_math_bits_deBruijn64tab), ("consistory/mod.tried", laid_consistory_mod_tried)], narrowed := true }
def AdmitTellsUptoSaid : Prop := admitTellsUptoRow.holds Tryd.pinned (OpenSpec.upto admitTellsSpec)

end Rows
end Go.Proofs.YtcojnjhffmhbiaaDoor
