/-
  NARROWER THAN 'FOR EVERY INPUT', by the rows' own cells (each row's printed sentence says how): RankNames: laid · AdmitNever: laid · RobustNames: laid · RobustLies: laid · RobustFits: laid · RobustWithout: laid · AdmitNames: laid · ScoreNames: laid.
  DERIVED. THE GIVEN ROWS OF THIS SEAT. 8 by the template 'for every input the law returns true; each argument reads behind the call as it read before'; 0 by the template 'total and deterministic' (their statements: YtmmmdidbnjcooaaDoorTotals.lean).
  GIVEN WITH THE SEED: the statements are not yours to turn. If you find one false, say at which input.
  Laid BY PROGRAM, IN A SANDBOX (cutbox-rows.mjs): the forced cells as the released guide's own fill.sh prints them over the translation c9986dc958e4276c… (all of the seat's roots in one cut). By AI agents, Wed Nov 11 2026. No macro, syntax, notation, axiom, sorry.
-/
import Derived.Test.YtmmmdidbnjcooaaDoorChecked
import GoSem.Claim
import GoSem.ClaimJoined
import GoSem.ClaimMapViews
import Derived.JoinedTies
import Derived.KernelRfl
namespace Go.Proofs.YtmmmdidbnjcooaaDoor
/- THE CELL 'sum', in the pinned program and in every row, IS THE sha256 OF THE DUMP (.gsa) THAT YtmmmdidbnjcooaaDoorProg.lean LOADS. Nothing in Lean hashes anything: it is a label: what it is worth is what the hold of that sum in a sandbox is worth. -/
noncomputable def Tryd.pinned : Pinned := { name := "ytmmmdidbnjcooaadoor", sum := "c9986dc958e4276c00daf77988b833cdde68cf2fe361148574f9676171e679ec", checked := Tryd.checked }
namespace Rows
def none {H : Type} : Left H := { results := [], args := [] }

/- WHAT THE LISTED PACKAGE-LEVEL VARIABLES READ AS WHEN THE CALL BEGINS. Each datum BY PROGRAM (the guide's laid-datum.mjs) off the statement by which the dump's own 'gosem.cut.vars' lays the variable. In a bare row this is a premise. The card (YtmmmdidbnjcooaaDoorCards.lean) ties it to the program's text. -/
def laid_math_bits_deBruijn64tab {H : Type} : DataW H := .agg [.lit (.int .u8 0), .lit (.int .u8 1), .lit (.int .u8 56), .lit (.int .u8 2), .lit (.int .u8 57), .lit (.int .u8 49), .lit (.int .u8 28), .lit (.int .u8 3), .lit (.int .u8 61), .lit (.int .u8 58), .lit (.int .u8 42), .lit (.int .u8 50), .lit (.int .u8 38), .lit (.int .u8 29), .lit (.int .u8 17), .lit (.int .u8 4), .lit (.int .u8 62), .lit (.int .u8 47), .lit (.int .u8 59), .lit (.int .u8 36), .lit (.int .u8 45), .lit (.int .u8 43), .lit (.int .u8 51), .lit (.int .u8 22), .lit (.int .u8 53), .lit (.int .u8 39), .lit (.int .u8 33), .lit (.int .u8 30), .lit (.int .u8 24), .lit (.int .u8 18), .lit (.int .u8 12), .lit (.int .u8 5), .lit (.int .u8 63), .lit (.int .u8 55), .lit (.int .u8 48), .lit (.int .u8 27), .lit (.int .u8 60), .lit (.int .u8 41), .lit (.int .u8 37), .lit (.int .u8 16), .lit (.int .u8 46), .lit (.int .u8 35), .lit (.int .u8 44), .lit (.int .u8 21), .lit (.int .u8 52), .lit (.int .u8 32), .lit (.int .u8 23), .lit (.int .u8 11), .lit (.int .u8 54), .lit (.int .u8 26), .lit (.int .u8 40), .lit (.int .u8 15), .lit (.int .u8 34), .lit (.int .u8 20), .lit (.int .u8 31), .lit (.int .u8 10), .lit (.int .u8 25), .lit (.int .u8 14), .lit (.int .u8 19), .lit (.int .u8 9), .lit (.int .u8 13), .lit (.int .u8 8), .lit (.int .u8 7), .lit (.int .u8 6)]
def laid_consistory_mod_tried {H : Type} : DataW H := .agg [.lit (.int .u64 2), .lit (.int .u64 3), .lit (.int .u64 5), .lit (.int .u64 7), .lit (.int .u64 11), .lit (.int .u64 13), .lit (.int .u64 17), .lit (.int .u64 19), .lit (.int .u64 23), .lit (.int .u64 29), .lit (.int .u64 31), .lit (.int .u64 37)]

/-- 'consistorylaw04.RankNames': WHATEVER THE INPUT: true; the input reads as it did. -/
def rankNamesSpec : ChangeSpec := { name := "rankNames", fn := fun _ => fun
  | [] => { results := [.lit (.bool true)], args := [] }
  | _ => none }
def rankNamesRow : OpenClaim := { program := "ytmmmdidbnjcooaadoor", sum := "c9986dc958e4276c00daf77988b833cdde68cf2fe361148574f9676171e679ec", func := "consistory/consistorylaw04.RankNames", spec := "rankNames", named := ["consistory/mod.tried", "math/bits.deBruijn64tab", "math/bits.divideError", "math/bits.overflowError"], apart := false, laid := [("math/bits.deBruijn64tab", laid_math_bits_deBruijn64tab), ("consistory/mod.tried", laid_consistory_mod_tried)] }
def RankNamesSaid : Prop := rankNamesRow.holds Tryd.pinned (OpenSpec.ofChange rankNamesSpec)

/-- ITS FALSE NEIGHBOUR: 'it returns false'. Refute it at one input. -/
def rankNamesWrong : ChangeSpec := { name := "rankNames", fn := fun _ => fun
  | [] => { results := [.lit (.bool false)], args := [] }
  | _ => none }
def RankNamesWrongFalsely : Prop := rankNamesRow.holds Tryd.pinned (OpenSpec.ofChange rankNamesWrong)

/-- 'consistorylaw21.AdmitNever': WHATEVER THE INPUT: true; the input reads as it did. -/
def admitNeverSpec : ChangeSpec := { name := "admitNever", fn := fun _ => fun
  | [d1, d2] => { results := [.lit (.bool true)], args := [d1, d2] }
  | _ => none }
def admitNeverRow : OpenClaim := { program := "ytmmmdidbnjcooaadoor", sum := "c9986dc958e4276c00daf77988b833cdde68cf2fe361148574f9676171e679ec", func := "consistory/consistorylaw21.AdmitNever", spec := "admitNever", unfollowed := true, recurses := true, named := ["consistory/mod.tried", "math/bits.deBruijn64tab", "math/bits.divideError", "math/bits.overflowError"], apart := false, laid := [("math/bits.deBruijn64tab", laid_math_bits_deBruijn64tab), ("consistory/mod.tried", laid_consistory_mod_tried)] }
def AdmitNeverSaid : Prop := admitNeverRow.holds Tryd.pinned (OpenSpec.ofChange admitNeverSpec)

/-- ITS FALSE NEIGHBOUR: 'it returns false'. Refute it at one input. -/
def admitNeverWrong : ChangeSpec := { name := "admitNever", fn := fun _ => fun
  | [d1, d2] => { results := [.lit (.bool false)], args := [d1, d2] }
  | _ => none }
def AdmitNeverWrongFalsely : Prop := admitNeverRow.holds Tryd.pinned (OpenSpec.ofChange admitNeverWrong)

/-- 'consistorylaw05.RobustNames': WHATEVER THE INPUT: true; the input reads as it did. -/
def robustNamesSpec : ChangeSpec := { name := "robustNames", fn := fun _ => fun
  | [] => { results := [.lit (.bool true)], args := [] }
  | _ => none }
def robustNamesRow : OpenClaim := { program := "ytmmmdidbnjcooaadoor", sum := "c9986dc958e4276c00daf77988b833cdde68cf2fe361148574f9676171e679ec", func := "consistory/consistorylaw05.RobustNames", spec := "robustNames", unfollowed := true, recurses := true, named := ["consistory/mod.tried", "math/bits.deBruijn64tab", "math/bits.divideError", "math/bits.overflowError"], apart := false, laid := [("math/bits.deBruijn64tab", laid_math_bits_deBruijn64tab), ("consistory/mod.tried", laid_consistory_mod_tried)] }
def RobustNamesSaid : Prop := robustNamesRow.holds Tryd.pinned (OpenSpec.ofChange robustNamesSpec)

/-- ITS FALSE NEIGHBOUR: 'it returns false'. Refute it at one input. -/
def robustNamesWrong : ChangeSpec := { name := "robustNames", fn := fun _ => fun
  | [] => { results := [.lit (.bool false)], args := [] }
  | _ => none }
def RobustNamesWrongFalsely : Prop := robustNamesRow.holds Tryd.pinned (OpenSpec.ofChange robustNamesWrong)

/-- 'consistorylaw05.RobustLies': WHATEVER THE INPUT: true; the input reads as it did. -/
def robustLiesSpec : ChangeSpec := { name := "robustLies", fn := fun _ => fun
  | [d1, d2, d3, d4, d5, d6] => { results := [.lit (.bool true)], args := [d1, d2, d3, d4, d5, d6] }
  | _ => none }
def robustLiesRow : OpenClaim := { program := "ytmmmdidbnjcooaadoor", sum := "c9986dc958e4276c00daf77988b833cdde68cf2fe361148574f9676171e679ec", func := "consistory/consistorylaw05.RobustLies", spec := "robustLies", unfollowed := true, recurses := true, named := ["consistory/mod.tried", "math/bits.deBruijn64tab", "math/bits.divideError", "math/bits.overflowError"], apart := false, laid := [("math/bits.deBruijn64tab", laid_math_bits_deBruijn64tab), ("consistory/mod.tried", laid_consistory_mod_tried)] }
def RobustLiesSaid : Prop := robustLiesRow.holds Tryd.pinned (OpenSpec.ofChange robustLiesSpec)

/-- ITS FALSE NEIGHBOUR: 'it returns false'. Refute it at one input. -/
def robustLiesWrong : ChangeSpec := { name := "robustLies", fn := fun _ => fun
  | [d1, d2, d3, d4, d5, d6] => { results := [.lit (.bool false)], args := [d1, d2, d3, d4, d5, d6] }
  | _ => none }
def RobustLiesWrongFalsely : Prop := robustLiesRow.holds Tryd.pinned (OpenSpec.ofChange robustLiesWrong)

/-- 'consistorylaw05.RobustFits': WHATEVER THE INPUT: true; the input reads as it did. -/
def robustFitsSpec : ChangeSpec := { name := "robustFits", fn := fun _ => fun
  | [d1, d2, d3, d4] => { results := [.lit (.bool true)], args := [d1, d2, d3, d4] }
  | _ => none }
def robustFitsRow : OpenClaim := { program := "ytmmmdidbnjcooaadoor", sum := "c9986dc958e4276c00daf77988b833cdde68cf2fe361148574f9676171e679ec", func := "consistory/consistorylaw05.RobustFits", spec := "robustFits", unfollowed := true, recurses := true, named := ["consistory/mod.tried", "math/bits.deBruijn64tab", "math/bits.divideError", "math/bits.overflowError"], apart := false, laid := [("math/bits.deBruijn64tab", laid_math_bits_deBruijn64tab), ("consistory/mod.tried", laid_consistory_mod_tried)] }
def RobustFitsSaid : Prop := robustFitsRow.holds Tryd.pinned (OpenSpec.ofChange robustFitsSpec)

/-- ITS FALSE NEIGHBOUR: 'it returns false'. Refute it at one input. -/
def robustFitsWrong : ChangeSpec := { name := "robustFits", fn := fun _ => fun
  | [d1, d2, d3, d4] => { results := [.lit (.bool false)], args := [d1, d2, d3, d4] }
  | _ => none }
def RobustFitsWrongFalsely : Prop := robustFitsRow.holds Tryd.pinned (OpenSpec.ofChange robustFitsWrong)

/-- 'consistorylaw05.RobustWithout': WHATEVER THE INPUT: true; the input reads as it did. -/
def robustWithoutSpec : ChangeSpec := { name := "robustWithout", fn := fun _ => fun
  | [d1, d2, d3, d4, d5] => { results := [.lit (.bool true)], args := [d1, d2, d3, d4, d5] }
  | _ => none }
def robustWithoutRow : OpenClaim := { program := "ytmmmdidbnjcooaadoor", sum := "c9986dc958e4276c00daf77988b833cdde68cf2fe361148574f9676171e679ec", func := "consistory/consistorylaw05.RobustWithout", spec := "robustWithout", unfollowed := true, recurses := true, named := ["consistory/mod.tried", "math/bits.deBruijn64tab", "math/bits.divideError", "math/bits.overflowError"], apart := false, laid := [("math/bits.deBruijn64tab", laid_math_bits_deBruijn64tab), ("consistory/mod.tried", laid_consistory_mod_tried)] }
def RobustWithoutSaid : Prop := robustWithoutRow.holds Tryd.pinned (OpenSpec.ofChange robustWithoutSpec)

/-- ITS FALSE NEIGHBOUR: 'it returns false'. Refute it at one input. -/
def robustWithoutWrong : ChangeSpec := { name := "robustWithout", fn := fun _ => fun
  | [d1, d2, d3, d4, d5] => { results := [.lit (.bool false)], args := [d1, d2, d3, d4, d5] }
  | _ => none }
def RobustWithoutWrongFalsely : Prop := robustWithoutRow.holds Tryd.pinned (OpenSpec.ofChange robustWithoutWrong)

/-- 'consistorylaw21.AdmitNames': WHATEVER THE INPUT: true; the input reads as it did. -/
def admitNamesSpec : ChangeSpec := { name := "admitNames", fn := fun _ => fun
  | [] => { results := [.lit (.bool true)], args := [] }
  | _ => none }
def admitNamesRow : OpenClaim := { program := "ytmmmdidbnjcooaadoor", sum := "c9986dc958e4276c00daf77988b833cdde68cf2fe361148574f9676171e679ec", func := "consistory/consistorylaw21.AdmitNames", spec := "admitNames", unfollowed := true, recurses := true, named := ["consistory/mod.tried", "math/bits.deBruijn64tab", "math/bits.divideError", "math/bits.overflowError"], apart := false, laid := [("math/bits.deBruijn64tab", laid_math_bits_deBruijn64tab), ("consistory/mod.tried", laid_consistory_mod_tried)] }
def AdmitNamesSaid : Prop := admitNamesRow.holds Tryd.pinned (OpenSpec.ofChange admitNamesSpec)

/-- ITS FALSE NEIGHBOUR: 'it returns false'. Refute it at one input. -/
def admitNamesWrong : ChangeSpec := { name := "admitNames", fn := fun _ => fun
  | [] => { results := [.lit (.bool false)], args := [] }
  | _ => none }
def AdmitNamesWrongFalsely : Prop := admitNamesRow.holds Tryd.pinned (OpenSpec.ofChange admitNamesWrong)

/-- 'consistorylaw22.ScoreNames': WHATEVER THE INPUT: true; the input reads as it did. -/
def scoreNamesSpec : ChangeSpec := { name := "scoreNames", fn := fun _ => fun
  | [] => { results := [.lit (.bool true)], args := [] }
  | _ => none }
def scoreNamesRow : OpenClaim := { program := "ytmmmdidbnjcooaadoor", sum := "c9986dc958e4276c00daf77988b833cdde68cf2fe361148574f9676171e679ec", func := "consistory/consistorylaw22.ScoreNames", spec := "scoreNames", unfollowed := true, recurses := true, named := ["math/bits.divideError", "math/bits.overflowError", "consistory/mod.tried", "math/bits.deBruijn64tab"], apart := false, laid := [("math/bits.deBruijn64tab", laid_math_bits_deBruijn64tab), ("consistory/mod.tried", laid_consistory_mod_tried)] }
def ScoreNamesSaid : Prop := scoreNamesRow.holds Tryd.pinned (OpenSpec.ofChange scoreNamesSpec)

/-- ITS FALSE NEIGHBOUR: 'it returns false'. Refute it at one input. -/
def scoreNamesWrong : ChangeSpec := { name := "scoreNames", fn := fun _ => fun
  | [] => { results := [.lit (.bool false)], args := [] }
  | _ => none }
def ScoreNamesWrongFalsely : Prop := scoreNamesRow.holds Tryd.pinned (OpenSpec.ofChange scoreNamesWrong)

/- THE SECOND FORM. 'bulk': how many values and letters a reading holds, each counted each time it is reached (what is shared counts as often as it is met; a slice's spare places count too). A statement '..UptoSaid' is the law's where the arguments, and the package variables that the reading takes, are together of bulk at most 1048576: NARROWER than '..Said'. Prove '..Said' where nothing that the law and all that it calls make is longer than what came in: it says more and counts as full. Else prove '..UptoSaid'. A law counts once. -/
mutual
def uptoBulk {H : Type} : DataW H → Nat
  | .lit (.string bytes) => bytes.length + 1
  | .lit _ => 1
  | .nil => 1
  | .ptr d => uptoBulk d + 1
  | .slice elems spare => uptoBulkAll elems + uptoBulkAll spare + 1
  | .agg parts => uptoBulkAll parts + 1
  | .iface _ d => uptoBulk d + 1
  | .map entries => uptoBulkEntries entries + 1
  | .held _ => 1
def uptoBulkAll {H : Type} : List (DataW H) → Nat
  | [] => 0
  | d :: r => uptoBulk d + uptoBulkAll r
def uptoBulkEntries {H : Type} : List (Lit × DataW H) → Nat
  | [] => 0
  | x :: r => uptoBulkEntry x + uptoBulkEntries r
def uptoBulkEntry {H : Type} : Lit × DataW H → Nat
  | (.string bytes, d) => bytes.length + uptoBulk d + 1
  | (_, d) => uptoBulk d + 1
 end
def uptoSmall : (H : Type) → List (DataW H) → Bool := fun _ ds => decide (uptoBulkAll ds ≤ 1048576)
def OpenSpec.upto (s : _root_.Go.ChangeSpec) : _root_.Go.OpenSpec := { _root_.Go.OpenSpec.ofChange s with cond := some uptoSmall }

/-- 'consistorylaw04.RankNames', WHERE WHAT IT READS IS OF BULK AT MOST 1048576: true; the input reads as it did. -/
def rankNamesUptoRow : OpenClaim := { program := "ytmmmdidbnjcooaadoor", sum := "c9986dc958e4276c00daf77988b833cdde68cf2fe361148574f9676171e679ec", func := "consistory/consistorylaw04.RankNames", spec := "rankNames", named := ["consistory/mod.tried", "math/bits.deBruijn64tab", "math/bits.divideError", "math/bits.overflowError"], apart := false, laid := [("math/bits.deBruijn64tab", laid_math_bits_deBruijn64tab), ("consistory/mod.tried", laid_consistory_mod_tried)], narrowed := true }
def RankNamesUptoSaid : Prop := rankNamesUptoRow.holds Tryd.pinned (OpenSpec.upto rankNamesSpec)

/-- 'consistorylaw21.AdmitNever', WHERE WHAT IT READS IS OF BULK AT MOST 1048576: true; the input reads as it did. -/
def admitNeverUptoRow : OpenClaim := { program := "ytmmmdidbnjcooaadoor", sum := "c9986dc958e4276c00daf77988b833cdde68cf2fe361148574f9676171e679ec", func := "consistory/consistorylaw21.AdmitNever", spec := "admitNever", unfollowed := true, recurses := true, named := ["consistory/mod.tried", "math/bits.deBruijn64tab", "math/bits.divideError", "math/bits.overflowError"], apart := false, laid := [("math/bits.deBruijn64tab", laid_math_bits_deBruijn64tab), ("consistory/mod.tried", laid_consistory_mod_tried)], narrowed := true }
def AdmitNeverUptoSaid : Prop := admitNeverUptoRow.holds Tryd.pinned (OpenSpec.upto admitNeverSpec)

/-- 'consistorylaw05.RobustNames', WHERE WHAT IT READS IS OF BULK AT MOST 1048576: true; the input reads as it did. -/
def robustNamesUptoRow : OpenClaim := { program := "ytmmmdidbnjcooaadoor", sum := "c9986dc958e4276c00daf77988b833cdde68cf2fe361148574f9676171e679ec", func := "consistory/consistorylaw05.RobustNames", spec := "robustNames", unfollowed := true, recurses := true, named := ["consistory/mod.tried", "math/bits.deBruijn64tab", "math/bits.divideError", "math/bits.overflowError"], apart := false, laid := [("math/bits.deBruijn64tab", laid_math_bits_deBruijn64tab), ("consistory/mod.tried", laid_consistory_mod_tried)], narrowed := true }
def RobustNamesUptoSaid : Prop := robustNamesUptoRow.holds Tryd.pinned (OpenSpec.upto robustNamesSpec)

/-- 'consistorylaw05.RobustLies', WHERE WHAT IT READS IS OF BULK AT MOST 1048576: true; the input reads as it did. -/
def robustLiesUptoRow : OpenClaim := { program := "ytmmmdidbnjcooaadoor", sum := "c9986dc958e4276c00daf77988b833cdde68cf2fe361148574f9676171e679ec", func := "consistory/consistorylaw05.RobustLies", spec := "robustLies", unfollowed := true, recurses := true, named := ["consistory/mod.tried", "math/bits.deBruijn64tab", "math/bits.divideError", "math/bits.overflowError"], apart := false, laid := [("math/bits.deBruijn64tab", laid_math_bits_deBruijn64tab), ("consistory/mod.tried", laid_consistory_mod_tried)], narrowed := true }
def RobustLiesUptoSaid : Prop := robustLiesUptoRow.holds Tryd.pinned (OpenSpec.upto robustLiesSpec)

/-- 'consistorylaw05.RobustFits', WHERE WHAT IT READS IS OF BULK AT MOST 1048576: true; the input reads as it did. -/
def robustFitsUptoRow : OpenClaim := { program := "ytmmmdidbnjcooaadoor", sum := "c9986dc958e4276c00daf77988b833cdde68cf2fe361148574f9676171e679ec", func := "consistory/consistorylaw05.RobustFits", spec := "robustFits", unfollowed := true, recurses := true, named := ["consistory/mod.tried", "math/bits.deBruijn64tab", "math/bits.divideError", "math/bits.overflowError"], apart := false, laid := [("math/bits.deBruijn64tab", laid_math_bits_deBruijn64tab), ("consistory/mod.tried", laid_consistory_mod_tried)], narrowed := true }
def RobustFitsUptoSaid : Prop := robustFitsUptoRow.holds Tryd.pinned (OpenSpec.upto robustFitsSpec)

/-- 'consistorylaw05.RobustWithout', WHERE WHAT IT READS IS OF BULK AT MOST 1048576: true; the input reads as it did. -/
def robustWithoutUptoRow : OpenClaim := { program := "ytmmmdidbnjcooaadoor", sum := "c9986dc958e4276c00daf77988b833cdde68cf2fe361148574f9676171e679ec", func := "consistory/consistorylaw05.RobustWithout", spec := "robustWithout", unfollowed := true, recurses := true, named := ["consistory/mod.tried", "math/bits.deBruijn64tab", "math/bits.divideError", "math/bits.overflowError"], apart := false, laid := [("math/bits.deBruijn64tab", laid_math_bits_deBruijn64tab), ("consistory/mod.tried", laid_consistory_mod_tried)], narrowed := true }
def RobustWithoutUptoSaid : Prop := robustWithoutUptoRow.holds Tryd.pinned (OpenSpec.upto robustWithoutSpec)

/-- 'consistorylaw21.AdmitNames', WHERE WHAT IT READS IS OF BULK AT MOST 1048576: true; the input reads as it did. -/
def admitNamesUptoRow : OpenClaim := { program := "ytmmmdidbnjcooaadoor", sum := "c9986dc958e4276c00daf77988b833cdde68cf2fe361148574f9676171e679ec", func := "consistory/consistorylaw21.AdmitNames", spec := "admitNames", unfollowed := true, recurses := true, named := ["consistory/mod.tried", "math/bits.deBruijn64tab", "math/bits.divideError", "math/bits.overflowError"], apart := false, laid := [("math/bits.deBruijn64tab", laid_math_bits_deBruijn64tab), ("consistory/mod.tried", laid_consistory_mod_tried)], narrowed := true }
def AdmitNamesUptoSaid : Prop := admitNamesUptoRow.holds Tryd.pinned (OpenSpec.upto admitNamesSpec)

/-- 'consistorylaw22.ScoreNames', WHERE WHAT IT READS IS OF BULK AT MOST 1048576: true; the input reads as it did. -/
def scoreNamesUptoRow : OpenClaim := { program := "ytmmmdidbnjcooaadoor", sum := "c9986dc958e4276c00daf77988b833cdde68cf2fe361148574f9676171e679ec", func := "consistory/consistorylaw22.ScoreNames", spec := "scoreNames", unfollowed := true, recurses := true, named := ["math/bits.divideError", "math/bits.overflowError", "consistory/mod.tried", "math/bits.deBruijn64tab"], apart := false, laid := [("math/bits.deBruijn64tab", laid_math_bits_deBruijn64tab), ("consistory/mod.tried", laid_consistory_mod_tried)], narrowed := true }
def ScoreNamesUptoSaid : Prop := scoreNamesUptoRow.holds Tryd.pinned (OpenSpec.upto scoreNamesSpec)

end Rows
end Go.Proofs.YtmmmdidbnjcooaaDoor
