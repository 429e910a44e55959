/-
  No cell of these rows narrows 'for every input' (looked for: loops, veiled, ifaces, maps, wideKeys, modest, calm, conditions, laid).
  DERIVED. THE GIVEN ROWS OF THIS SEAT. 7 by the template 'for every input the law returns true; each argument reads behind the call as it read before'; 0 by the template 'total and deterministic' (their statements: YtnngnekfgijejaaTotals.lean).
  GIVEN WITH THE SEED: the statements are not yours to turn. If you find one false, say at which input.
  Laid BY PROGRAM, IN A SANDBOX (cutbox-rows.mjs): the forced cells as the released guide's own fill.sh prints them over the translation 8c8bb3ff300cbf4d… (all of the seat's roots in one cut). By AI agents, Wed Nov 11 2026. No macro, syntax, notation, axiom, sorry.
-/
import Derived.Test.YtnngnekfgijejaaChecked
import GoSem.Claim
import GoSem.ClaimJoined
import GoSem.ClaimMapViews
import Derived.JoinedTies
import Derived.KernelRfl
namespace Go.Proofs.Ytnngnekfgijejaa
/- THE CELL 'sum', in the pinned program and in every row, IS THE sha256 OF THE DUMP (.gsa) THAT YtnngnekfgijejaaProg.lean LOADS. Nothing in Lean hashes anything: it is a label: what it is worth is what the hold of that sum in a sandbox is worth. -/
noncomputable def Try.pinned : Pinned := { name := "ytnngnekfgijejaa", sum := "8c8bb3ff300cbf4dfbd9eed956a944c338e2dffb8d331d36b38e4ce0900e0d9e", checked := Try.checked }
namespace Rows
def none {H : Type} : Left H := { results := [], args := [] }

/-- 'consistorylaw15.TallyRow': WHATEVER THE INPUT: true; the input reads as it did. -/
def tallyRowSpec : ChangeSpec := { name := "tallyRow", fn := fun _ => fun
  | [d1, d2, d3] => { results := [.lit (.bool true)], args := [d1, d2, d3] }
  | _ => none }
def tallyRowRow : OpenClaim := { program := "ytnngnekfgijejaa", sum := "8c8bb3ff300cbf4dfbd9eed956a944c338e2dffb8d331d36b38e4ce0900e0d9e", func := "consistory/consistorylaw15.TallyRow", spec := "tallyRow", unfollowed := true, recurses := true, plainKeys := false, apart := false }
def TallyRowSaid : Prop := tallyRowRow.holds Try.pinned (OpenSpec.ofChange tallyRowSpec)

/-- ITS FALSE NEIGHBOUR: 'it returns false'. Refute it at one input. -/
def tallyRowWrong : ChangeSpec := { name := "tallyRow", fn := fun _ => fun
  | [d1, d2, d3] => { results := [.lit (.bool false)], args := [d1, d2, d3] }
  | _ => none }
def TallyRowWrongFalsely : Prop := tallyRowRow.holds Try.pinned (OpenSpec.ofChange tallyRowWrong)

/-- 'consistorylaw15.TallyCounts': WHATEVER THE INPUT: true; the input reads as it did. -/
def tallyCountsSpec : ChangeSpec := { name := "tallyCounts", fn := fun _ => fun
  | [d1, d2, d3, d4, d5, d6] => { results := [.lit (.bool true)], args := [d1, d2, d3, d4, d5, d6] }
  | _ => none }
def tallyCountsRow : OpenClaim := { program := "ytnngnekfgijejaa", sum := "8c8bb3ff300cbf4dfbd9eed956a944c338e2dffb8d331d36b38e4ce0900e0d9e", func := "consistory/consistorylaw15.TallyCounts", spec := "tallyCounts", unfollowed := true, recurses := true, plainKeys := false, apart := false }
def TallyCountsSaid : Prop := tallyCountsRow.holds Try.pinned (OpenSpec.ofChange tallyCountsSpec)

/-- ITS FALSE NEIGHBOUR: 'it returns false'. Refute it at one input. -/
def tallyCountsWrong : ChangeSpec := { name := "tallyCounts", fn := fun _ => fun
  | [d1, d2, d3, d4, d5, d6] => { results := [.lit (.bool false)], args := [d1, d2, d3, d4, d5, d6] }
  | _ => none }
def TallyCountsWrongFalsely : Prop := tallyCountsRow.holds Try.pinned (OpenSpec.ofChange tallyCountsWrong)

/-- 'consistorylaw15.TallyTwo': WHATEVER THE INPUT: true; the input reads as it did. -/
def tallyTwoSpec : ChangeSpec := { name := "tallyTwo", fn := fun _ => fun
  | [d1, d2, d3, d4, d5] => { results := [.lit (.bool true)], args := [d1, d2, d3, d4, d5] }
  | _ => none }
def tallyTwoRow : OpenClaim := { program := "ytnngnekfgijejaa", sum := "8c8bb3ff300cbf4dfbd9eed956a944c338e2dffb8d331d36b38e4ce0900e0d9e", func := "consistory/consistorylaw15.TallyTwo", spec := "tallyTwo", unfollowed := true, recurses := true, plainKeys := false, apart := false }
def TallyTwoSaid : Prop := tallyTwoRow.holds Try.pinned (OpenSpec.ofChange tallyTwoSpec)

/-- ITS FALSE NEIGHBOUR: 'it returns false'. Refute it at one input. -/
def tallyTwoWrong : ChangeSpec := { name := "tallyTwo", fn := fun _ => fun
  | [d1, d2, d3, d4, d5] => { results := [.lit (.bool false)], args := [d1, d2, d3, d4, d5] }
  | _ => none }
def TallyTwoWrongFalsely : Prop := tallyTwoRow.holds Try.pinned (OpenSpec.ofChange tallyTwoWrong)

/-- 'consistorylaw15.TallyNames': WHATEVER THE INPUT: true; the input reads as it did. -/
def tallyNamesSpec : ChangeSpec := { name := "tallyNames", fn := fun _ => fun
  | [] => { results := [.lit (.bool true)], args := [] }
  | _ => none }
def tallyNamesRow : OpenClaim := { program := "ytnngnekfgijejaa", sum := "8c8bb3ff300cbf4dfbd9eed956a944c338e2dffb8d331d36b38e4ce0900e0d9e", func := "consistory/consistorylaw15.TallyNames", spec := "tallyNames", inPlace := ["maps.clone"], unfollowed := true, recurses := true, plainKeys := false, apart := false }
def TallyNamesSaid : Prop := tallyNamesRow.holds Try.pinned (OpenSpec.ofChange tallyNamesSpec)

/-- ITS FALSE NEIGHBOUR: 'it returns false'. Refute it at one input. -/
def tallyNamesWrong : ChangeSpec := { name := "tallyNames", fn := fun _ => fun
  | [] => { results := [.lit (.bool false)], args := [] }
  | _ => none }
def TallyNamesWrongFalsely : Prop := tallyNamesRow.holds Try.pinned (OpenSpec.ofChange tallyNamesWrong)

/-- 'consistorylaw15.TallyPlays': WHATEVER THE INPUT: true; the input reads as it did. -/
def tallyPlaysSpec : ChangeSpec := { name := "tallyPlays", fn := fun _ => fun
  | [d1, d2] => { results := [.lit (.bool true)], args := [d1, d2] }
  | _ => none }
def tallyPlaysRow : OpenClaim := { program := "ytnngnekfgijejaa", sum := "8c8bb3ff300cbf4dfbd9eed956a944c338e2dffb8d331d36b38e4ce0900e0d9e", func := "consistory/consistorylaw15.TallyPlays", spec := "tallyPlays", inPlace := ["maps.clone"], unfollowed := true, recurses := true, plainKeys := false, apart := false }
def TallyPlaysSaid : Prop := tallyPlaysRow.holds Try.pinned (OpenSpec.ofChange tallyPlaysSpec)

/-- ITS FALSE NEIGHBOUR: 'it returns false'. Refute it at one input. -/
def tallyPlaysWrong : ChangeSpec := { name := "tallyPlays", fn := fun _ => fun
  | [d1, d2] => { results := [.lit (.bool false)], args := [d1, d2] }
  | _ => none }
def TallyPlaysWrongFalsely : Prop := tallyPlaysRow.holds Try.pinned (OpenSpec.ofChange tallyPlaysWrong)

/-- 'consistorylaw15.TallyFirst': WHATEVER THE INPUT: true; the input reads as it did. -/
def tallyFirstSpec : ChangeSpec := { name := "tallyFirst", fn := fun _ => fun
  | [d1, d2, d3, d4, d5] => { results := [.lit (.bool true)], args := [d1, d2, d3, d4, d5] }
  | _ => none }
def tallyFirstRow : OpenClaim := { program := "ytnngnekfgijejaa", sum := "8c8bb3ff300cbf4dfbd9eed956a944c338e2dffb8d331d36b38e4ce0900e0d9e", func := "consistory/consistorylaw15.TallyFirst", spec := "tallyFirst", inPlace := ["maps.clone"], unfollowed := true, recurses := true, plainKeys := false, apart := false }
def TallyFirstSaid : Prop := tallyFirstRow.holds Try.pinned (OpenSpec.ofChange tallyFirstSpec)

/-- ITS FALSE NEIGHBOUR: 'it returns false'. Refute it at one input. -/
def tallyFirstWrong : ChangeSpec := { name := "tallyFirst", fn := fun _ => fun
  | [d1, d2, d3, d4, d5] => { results := [.lit (.bool false)], args := [d1, d2, d3, d4, d5] }
  | _ => none }
def TallyFirstWrongFalsely : Prop := tallyFirstRow.holds Try.pinned (OpenSpec.ofChange tallyFirstWrong)

/-- 'consistorylaw15.TallyApart': WHATEVER THE INPUT: true; the input reads as it did. -/
def tallyApartSpec : ChangeSpec := { name := "tallyApart", fn := fun _ => fun
  | [d1, d2, d3, d4, d5, d6] => { results := [.lit (.bool true)], args := [d1, d2, d3, d4, d5, d6] }
  | _ => none }
def tallyApartRow : OpenClaim := { program := "ytnngnekfgijejaa", sum := "8c8bb3ff300cbf4dfbd9eed956a944c338e2dffb8d331d36b38e4ce0900e0d9e", func := "consistory/consistorylaw15.TallyApart", spec := "tallyApart", inPlace := ["maps.clone"], unfollowed := true, recurses := true, plainKeys := false, apart := false }
def TallyApartSaid : Prop := tallyApartRow.holds Try.pinned (OpenSpec.ofChange tallyApartSpec)

/-- ITS FALSE NEIGHBOUR: 'it returns false'. Refute it at one input. -/
def tallyApartWrong : ChangeSpec := { name := "tallyApart", fn := fun _ => fun
  | [d1, d2, d3, d4, d5, d6] => { results := [.lit (.bool false)], args := [d1, d2, d3, d4, d5, d6] }
  | _ => none }
def TallyApartWrongFalsely : Prop := tallyApartRow.holds Try.pinned (OpenSpec.ofChange tallyApartWrong)

/- THE SECOND FORM. 'bulk': how many values and letters a reading holds, each counted each time it is reached (what is shared counts as often as it is met; a slice's spare places count too). A statement '..UptoSaid' is the law's where the arguments, and the package variables that the reading takes, are together of bulk at most 1048576: NARROWER than '..Said'. Prove '..Said' where nothing that the law and all that it calls make is longer than what came in: it says more and counts as full. Else prove '..UptoSaid'. A law counts once. -/
mutual
def uptoBulk {H : Type} : DataW H → Nat
  | .lit (.string bytes) => bytes.length + 1
  | .lit _ => 1
  | .nil => 1
  | .ptr d => uptoBulk d + 1
  | .slice elems spare => uptoBulkAll elems + uptoBulkAll spare + 1
  | .agg parts => uptoBulkAll parts + 1
  | .iface _ d => uptoBulk d + 1
  | .map entries => uptoBulkEntries entries + 1
  | .held _ => 1
def uptoBulkAll {H : Type} : List (DataW H) → Nat
  | [] => 0
  | d :: r => uptoBulk d + uptoBulkAll r
def uptoBulkEntries {H : Type} : List (Lit × DataW H) → Nat
  | [] => 0
  | x :: r => uptoBulkEntry x + uptoBulkEntries r
def uptoBulkEntry {H : Type} : Lit × DataW H → Nat
  | (.string bytes, d) => bytes.length + uptoBulk d + 1
  | (_, d) => uptoBulk d + 1
 end
def uptoSmall : (H : Type) → List (DataW H) → Bool := fun _ ds => decide (uptoBulkAll ds ≤ 1048576)
def OpenSpec.upto (s : _root_.Go.ChangeSpec) : _root_.Go.OpenSpec := { _root_.Go.OpenSpec.ofChange s with cond := some uptoSmall }

/-- 'consistorylaw15.TallyRow', WHERE WHAT IT READS IS OF BULK AT MOST 1048576: true; the input reads as it did. -/
def tallyRowUptoRow : OpenClaim := { program := "ytnngnekfgijejaa", sum := "8c8bb3ff300cbf4dfbd9eed956a944c338e2dffb8d331d36b38e4ce0900e0d9e", func := "consistory/consistorylaw15.TallyRow", spec := "tallyRow", unfollowed := true, recurses := true, plainKeys := false, apart := false, narrowed := true }
def TallyRowUptoSaid : Prop := tallyRowUptoRow.holds Try.pinned (OpenSpec.upto tallyRowSpec)

/-- 'consistorylaw15.TallyCounts', WHERE WHAT IT READS IS OF BULK AT MOST 1048576: true; the input reads as it did. -/
def tallyCountsUptoRow : OpenClaim := { program := "ytnngnekfgijejaa", sum := "8c8bb3ff300cbf4dfbd9eed956a944c338e2dffb8d331d36b38e4ce0900e0d9e", func := "consistory/consistorylaw15.TallyCounts", spec := "tallyCounts", unfollowed := true, recurses := true, plainKeys := false, apart := false, narrowed := true }
def TallyCountsUptoSaid : Prop := tallyCountsUptoRow.holds Try.pinned (OpenSpec.upto tallyCountsSpec)

/-- 'consistorylaw15.TallyTwo', WHERE WHAT IT READS IS OF BULK AT MOST 1048576: true; the input reads as it did. -/
def tallyTwoUptoRow : OpenClaim := { program := "ytnngnekfgijejaa", sum := "8c8bb3ff300cbf4dfbd9eed956a944c338e2dffb8d331d36b38e4ce0900e0d9e", func := "consistory/consistorylaw15.TallyTwo", spec := "tallyTwo", unfollowed := true, recurses := true, plainKeys := false, apart := false, narrowed := true }
def TallyTwoUptoSaid : Prop := tallyTwoUptoRow.holds Try.pinned (OpenSpec.upto tallyTwoSpec)

/-- 'consistorylaw15.TallyNames', WHERE WHAT IT READS IS OF BULK AT MOST 1048576: true; the input reads as it did. -/
def tallyNamesUptoRow : OpenClaim := { program := "ytnngnekfgijejaa", sum := "8c8bb3ff300cbf4dfbd9eed956a944c338e2dffb8d331d36b38e4ce0900e0d9e", func := "consistory/consistorylaw15.TallyNames", spec := "tallyNames", inPlace := ["maps.clone"], unfollowed := true, recurses := true, plainKeys := false, apart := false, narrowed := true }
def TallyNamesUptoSaid : Prop := tallyNamesUptoRow.holds Try.pinned (OpenSpec.upto tallyNamesSpec)

/-- 'consistorylaw15.TallyPlays', WHERE WHAT IT READS IS OF BULK AT MOST 1048576: true; the input reads as it did. -/
def tallyPlaysUptoRow : OpenClaim := { program := "ytnngnekfgijejaa", sum := "8c8bb3ff300cbf4dfbd9eed956a944c338e2dffb8d331d36b38e4ce0900e0d9e", func := "consistory/consistorylaw15.TallyPlays", spec := "tallyPlays", inPlace := ["maps.clone"], unfollowed := true, recurses := true, plainKeys := false, apart := false, narrowed := true }
def TallyPlaysUptoSaid : Prop := tallyPlaysUptoRow.holds Try.pinned (OpenSpec.upto tallyPlaysSpec)

/-- 'consistorylaw15.TallyFirst', WHERE WHAT IT READS IS OF BULK AT MOST 1048576: true; the input reads as it did. -/
def tallyFirstUptoRow : OpenClaim := { program := "ytnngnekfgijejaa", sum := "8c8bb3ff300cbf4dfbd9eed956a944c338e2dffb8d331d36b38e4ce0900e0d9e", func := "consistory/consistorylaw15.TallyFirst", spec := "tallyFirst", inPlace := ["maps.clone"], unfollowed := true, recurses := true, plainKeys := false, apart := false, narrowed := true }
def TallyFirstUptoSaid : Prop := tallyFirstUptoRow.holds Try.pinned (OpenSpec.upto tallyFirstSpec)

/-- 'consistorylaw15.TallyApart', WHERE WHAT IT READS IS OF BULK AT MOST 1048576: true; the input reads as it did. -/
def tallyApartUptoRow : OpenClaim := { program := "ytnngnekfgijejaa", sum := "8c8bb3ff300cbf4dfbd9eed956a944c338e2dffb8d331d36b38e4ce0900e0d9e", func := "consistory/consistorylaw15.TallyApart", spec := "tallyApart", inPlace := ["maps.clone"], unfollowed := true, recurses := true, plainKeys := false, apart := false, narrowed := true }
def TallyApartUptoSaid : Prop := tallyApartUptoRow.holds Try.pinned (OpenSpec.upto tallyApartSpec)

end Rows
end Go.Proofs.Ytnngnekfgijejaa
