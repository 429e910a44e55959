/-
  No cell of these rows narrows 'for every input' (looked for: loops, veiled, ifaces, maps, wideKeys, modest, calm, conditions, laid).
  DERIVED. THE GIVEN ROWS OF THIS SEAT. 12 by the template 'for every input the law returns true; each argument reads behind the call as it read before'; 0 by the template 'total and deterministic' (their statements: YthllhnjbddpeoaaTotals.lean).
  GIVEN WITH THE SEED: the statements are not yours to turn. If you find one false, say at which input.
  Laid BY PROGRAM, IN A SANDBOX (cutbox-rows.mjs): the forced cells as the released guide's own fill.sh prints them over the translation cfd9bb24112c01f0… (all of the seat's roots in one cut). By AI agents, Wed Nov 11 2026. No macro, syntax, notation, axiom, sorry.
-/
import Derived.Test.YthllhnjbddpeoaaChecked
import GoSem.Claim
import GoSem.ClaimJoined
import GoSem.ClaimMapViews
import Derived.JoinedTies
import Derived.KernelRfl
namespace Go.Proofs.Ythllhnjbddpeoaa
/- THE CELL 'sum', in the pinned program and in every row, IS THE sha256 OF THE DUMP (.gsa) THAT YthllhnjbddpeoaaProg.lean LOADS. Nothing in Lean hashes anything: it is a label: what it is worth is what the hold of that sum in a sandbox is worth. -/
noncomputable def Try.pinned : Pinned := { name := "ythllhnjbddpeoaa", sum := "cfd9bb24112c01f0530b8ef0c47835c92ce62927babecae592af0fa30e596c71", checked := Try.checked }
namespace Rows
def none {H : Type} : Left H := { results := [], args := [] }

/-- 'consistorylaw10.DiskRead': WHATEVER THE INPUT: true; the input reads as it did. -/
def diskReadSpec : ChangeSpec := { name := "diskRead", fn := fun _ => fun
  | [d1, d2, d3, d4] => { results := [.lit (.bool true)], args := [d1, d2, d3, d4] }
  | _ => none }
def diskReadRow : OpenClaim := { program := "ythllhnjbddpeoaa", sum := "cfd9bb24112c01f0530b8ef0c47835c92ce62927babecae592af0fa30e596c71", func := "consistory/consistorylaw10.DiskRead", spec := "diskRead", inPlace := ["internal/abi.NoEscape", "internal/bytealg.MakeNoZero"], unfollowed := true, recurses := true, apart := false }
def DiskReadSaid : Prop := diskReadRow.holds Try.pinned (OpenSpec.ofChange diskReadSpec)

/-- ITS FALSE NEIGHBOUR: 'it returns false'. Refute it at one input. -/
def diskReadWrong : ChangeSpec := { name := "diskRead", fn := fun _ => fun
  | [d1, d2, d3, d4] => { results := [.lit (.bool false)], args := [d1, d2, d3, d4] }
  | _ => none }
def DiskReadWrongFalsely : Prop := diskReadRow.holds Try.pinned (OpenSpec.ofChange diskReadWrong)

/-- 'consistorylaw10.DiskFuse': WHATEVER THE INPUT: true; the input reads as it did. -/
def diskFuseSpec : ChangeSpec := { name := "diskFuse", fn := fun _ => fun
  | [d1, d2, d3] => { results := [.lit (.bool true)], args := [d1, d2, d3] }
  | _ => none }
def diskFuseRow : OpenClaim := { program := "ythllhnjbddpeoaa", sum := "cfd9bb24112c01f0530b8ef0c47835c92ce62927babecae592af0fa30e596c71", func := "consistory/consistorylaw10.DiskFuse", spec := "diskFuse", inPlace := ["internal/abi.NoEscape", "internal/bytealg.MakeNoZero"], unfollowed := true, recurses := true, apart := false }
def DiskFuseSaid : Prop := diskFuseRow.holds Try.pinned (OpenSpec.ofChange diskFuseSpec)

/-- ITS FALSE NEIGHBOUR: 'it returns false'. Refute it at one input. -/
def diskFuseWrong : ChangeSpec := { name := "diskFuse", fn := fun _ => fun
  | [d1, d2, d3] => { results := [.lit (.bool false)], args := [d1, d2, d3] }
  | _ => none }
def DiskFuseWrongFalsely : Prop := diskFuseRow.holds Try.pinned (OpenSpec.ofChange diskFuseWrong)

/-- 'consistorylaw10.DiskPlays': WHATEVER THE INPUT: true; the input reads as it did. -/
def diskPlaysSpec : ChangeSpec := { name := "diskPlays", fn := fun _ => fun
  | [d] => { results := [.lit (.bool true)], args := [d] }
  | _ => none }
def diskPlaysRow : OpenClaim := { program := "ythllhnjbddpeoaa", sum := "cfd9bb24112c01f0530b8ef0c47835c92ce62927babecae592af0fa30e596c71", func := "consistory/consistorylaw10.DiskPlays", spec := "diskPlays", inPlace := ["internal/abi.NoEscape", "internal/bytealg.MakeNoZero"], unfollowed := true, recurses := true, apart := false }
def DiskPlaysSaid : Prop := diskPlaysRow.holds Try.pinned (OpenSpec.ofChange diskPlaysSpec)

/-- ITS FALSE NEIGHBOUR: 'it returns false'. Refute it at one input. -/
def diskPlaysWrong : ChangeSpec := { name := "diskPlays", fn := fun _ => fun
  | [d] => { results := [.lit (.bool false)], args := [d] }
  | _ => none }
def DiskPlaysWrongFalsely : Prop := diskPlaysRow.holds Try.pinned (OpenSpec.ofChange diskPlaysWrong)

/-- 'consistorylaw10.DiskSynced': WHATEVER THE INPUT: true; the input reads as it did. -/
def diskSyncedSpec : ChangeSpec := { name := "diskSynced", fn := fun _ => fun
  | [d1, d2, d3] => { results := [.lit (.bool true)], args := [d1, d2, d3] }
  | _ => none }
def diskSyncedRow : OpenClaim := { program := "ythllhnjbddpeoaa", sum := "cfd9bb24112c01f0530b8ef0c47835c92ce62927babecae592af0fa30e596c71", func := "consistory/consistorylaw10.DiskSynced", spec := "diskSynced", inPlace := ["internal/abi.NoEscape", "internal/bytealg.MakeNoZero"], unfollowed := true, recurses := true, apart := false }
def DiskSyncedSaid : Prop := diskSyncedRow.holds Try.pinned (OpenSpec.ofChange diskSyncedSpec)

/-- ITS FALSE NEIGHBOUR: 'it returns false'. Refute it at one input. -/
def diskSyncedWrong : ChangeSpec := { name := "diskSynced", fn := fun _ => fun
  | [d1, d2, d3] => { results := [.lit (.bool false)], args := [d1, d2, d3] }
  | _ => none }
def DiskSyncedWrongFalsely : Prop := diskSyncedRow.holds Try.pinned (OpenSpec.ofChange diskSyncedWrong)

/-- 'consistorylaw10.DiskNames': WHATEVER THE INPUT: true; the input reads as it did. -/
def diskNamesSpec : ChangeSpec := { name := "diskNames", fn := fun _ => fun
  | [] => { results := [.lit (.bool true)], args := [] }
  | _ => none }
def diskNamesRow : OpenClaim := { program := "ythllhnjbddpeoaa", sum := "cfd9bb24112c01f0530b8ef0c47835c92ce62927babecae592af0fa30e596c71", func := "consistory/consistorylaw10.DiskNames", spec := "diskNames", inPlace := ["internal/abi.NoEscape", "internal/bytealg.MakeNoZero", "maps.clone"], unfollowed := true, recurses := true, apart := false }
def DiskNamesSaid : Prop := diskNamesRow.holds Try.pinned (OpenSpec.ofChange diskNamesSpec)

/-- ITS FALSE NEIGHBOUR: 'it returns false'. Refute it at one input. -/
def diskNamesWrong : ChangeSpec := { name := "diskNames", fn := fun _ => fun
  | [] => { results := [.lit (.bool false)], args := [] }
  | _ => none }
def DiskNamesWrongFalsely : Prop := diskNamesRow.holds Try.pinned (OpenSpec.ofChange diskNamesWrong)

/-- 'consistorylaw10.DiskLeft': WHATEVER THE INPUT: true; the input reads as it did. -/
def diskLeftSpec : ChangeSpec := { name := "diskLeft", fn := fun _ => fun
  | [d1, d2, d3, d4] => { results := [.lit (.bool true)], args := [d1, d2, d3, d4] }
  | _ => none }
def diskLeftRow : OpenClaim := { program := "ythllhnjbddpeoaa", sum := "cfd9bb24112c01f0530b8ef0c47835c92ce62927babecae592af0fa30e596c71", func := "consistory/consistorylaw10.DiskLeft", spec := "diskLeft", inPlace := ["internal/abi.NoEscape", "internal/bytealg.MakeNoZero", "maps.clone"], unfollowed := true, recurses := true, apart := false }
def DiskLeftSaid : Prop := diskLeftRow.holds Try.pinned (OpenSpec.ofChange diskLeftSpec)

/-- ITS FALSE NEIGHBOUR: 'it returns false'. Refute it at one input. -/
def diskLeftWrong : ChangeSpec := { name := "diskLeft", fn := fun _ => fun
  | [d1, d2, d3, d4] => { results := [.lit (.bool false)], args := [d1, d2, d3, d4] }
  | _ => none }
def DiskLeftWrongFalsely : Prop := diskLeftRow.holds Try.pinned (OpenSpec.ofChange diskLeftWrong)

/-- 'consistorylaw10.DiskCopies': WHATEVER THE INPUT: true; the input reads as it did. -/
def diskCopiesSpec : ChangeSpec := { name := "diskCopies", fn := fun _ => fun
  | [d1, d2] => { results := [.lit (.bool true)], args := [d1, d2] }
  | _ => none }
def diskCopiesRow : OpenClaim := { program := "ythllhnjbddpeoaa", sum := "cfd9bb24112c01f0530b8ef0c47835c92ce62927babecae592af0fa30e596c71", func := "consistory/consistorylaw10.DiskCopies", spec := "diskCopies", inPlace := ["internal/abi.NoEscape", "internal/bytealg.MakeNoZero", "maps.clone"], unfollowed := true, recurses := true, apart := false }
def DiskCopiesSaid : Prop := diskCopiesRow.holds Try.pinned (OpenSpec.ofChange diskCopiesSpec)

/-- ITS FALSE NEIGHBOUR: 'it returns false'. Refute it at one input. -/
def diskCopiesWrong : ChangeSpec := { name := "diskCopies", fn := fun _ => fun
  | [d1, d2] => { results := [.lit (.bool false)], args := [d1, d2] }
  | _ => none }
def DiskCopiesWrongFalsely : Prop := diskCopiesRow.holds Try.pinned (OpenSpec.ofChange diskCopiesWrong)

/-- 'consistorylaw11.SlotsOlder': WHATEVER THE INPUT: true; the input reads as it did. -/
def slotsOlderSpec : ChangeSpec := { name := "slotsOlder", fn := fun _ => fun
  | [d1, d2, d3] => { results := [.lit (.bool true)], args := [d1, d2, d3] }
  | _ => none }
def slotsOlderRow : OpenClaim := { program := "ythllhnjbddpeoaa", sum := "cfd9bb24112c01f0530b8ef0c47835c92ce62927babecae592af0fa30e596c71", func := "consistory/consistorylaw11.SlotsOlder", spec := "slotsOlder", inPlace := ["internal/abi.NoEscape", "internal/bytealg.MakeNoZero"], unfollowed := true, recurses := true, apart := false }
def SlotsOlderSaid : Prop := slotsOlderRow.holds Try.pinned (OpenSpec.ofChange slotsOlderSpec)

/-- ITS FALSE NEIGHBOUR: 'it returns false'. Refute it at one input. -/
def slotsOlderWrong : ChangeSpec := { name := "slotsOlder", fn := fun _ => fun
  | [d1, d2, d3] => { results := [.lit (.bool false)], args := [d1, d2, d3] }
  | _ => none }
def SlotsOlderWrongFalsely : Prop := slotsOlderRow.holds Try.pinned (OpenSpec.ofChange slotsOlderWrong)

/-- 'consistorylaw11.SlotsNames': WHATEVER THE INPUT: true; the input reads as it did. -/
def slotsNamesSpec : ChangeSpec := { name := "slotsNames", fn := fun _ => fun
  | [] => { results := [.lit (.bool true)], args := [] }
  | _ => none }
def slotsNamesRow : OpenClaim := { program := "ythllhnjbddpeoaa", sum := "cfd9bb24112c01f0530b8ef0c47835c92ce62927babecae592af0fa30e596c71", func := "consistory/consistorylaw11.SlotsNames", spec := "slotsNames", inPlace := ["internal/abi.NoEscape", "internal/bytealg.MakeNoZero"], unfollowed := true, recurses := true, apart := false }
def SlotsNamesSaid : Prop := slotsNamesRow.holds Try.pinned (OpenSpec.ofChange slotsNamesSpec)

/-- ITS FALSE NEIGHBOUR: 'it returns false'. Refute it at one input. -/
def slotsNamesWrong : ChangeSpec := { name := "slotsNames", fn := fun _ => fun
  | [] => { results := [.lit (.bool false)], args := [] }
  | _ => none }
def SlotsNamesWrongFalsely : Prop := slotsNamesRow.holds Try.pinned (OpenSpec.ofChange slotsNamesWrong)

/-- 'consistorylaw11.SlotsMany': WHATEVER THE INPUT: true; the input reads as it did. -/
def slotsManySpec : ChangeSpec := { name := "slotsMany", fn := fun _ => fun
  | [d1, d2] => { results := [.lit (.bool true)], args := [d1, d2] }
  | _ => none }
def slotsManyRow : OpenClaim := { program := "ythllhnjbddpeoaa", sum := "cfd9bb24112c01f0530b8ef0c47835c92ce62927babecae592af0fa30e596c71", func := "consistory/consistorylaw11.SlotsMany", spec := "slotsMany", inPlace := ["internal/abi.NoEscape", "internal/bytealg.MakeNoZero"], unfollowed := true, recurses := true, apart := false }
def SlotsManySaid : Prop := slotsManyRow.holds Try.pinned (OpenSpec.ofChange slotsManySpec)

/-- ITS FALSE NEIGHBOUR: 'it returns false'. Refute it at one input. -/
def slotsManyWrong : ChangeSpec := { name := "slotsMany", fn := fun _ => fun
  | [d1, d2] => { results := [.lit (.bool false)], args := [d1, d2] }
  | _ => none }
def SlotsManyWrongFalsely : Prop := slotsManyRow.holds Try.pinned (OpenSpec.ofChange slotsManyWrong)

/-- 'consistorylaw11.SlotsWhole': WHATEVER THE INPUT: true; the input reads as it did. -/
def slotsWholeSpec : ChangeSpec := { name := "slotsWhole", fn := fun _ => fun
  | [d] => { results := [.lit (.bool true)], args := [d] }
  | _ => none }
def slotsWholeRow : OpenClaim := { program := "ythllhnjbddpeoaa", sum := "cfd9bb24112c01f0530b8ef0c47835c92ce62927babecae592af0fa30e596c71", func := "consistory/consistorylaw11.SlotsWhole", spec := "slotsWhole", inPlace := ["internal/abi.NoEscape", "internal/bytealg.MakeNoZero"], unfollowed := true, recurses := true, apart := false }
def SlotsWholeSaid : Prop := slotsWholeRow.holds Try.pinned (OpenSpec.ofChange slotsWholeSpec)

/-- ITS FALSE NEIGHBOUR: 'it returns false'. Refute it at one input. -/
def slotsWholeWrong : ChangeSpec := { name := "slotsWhole", fn := fun _ => fun
  | [d] => { results := [.lit (.bool false)], args := [d] }
  | _ => none }
def SlotsWholeWrongFalsely : Prop := slotsWholeRow.holds Try.pinned (OpenSpec.ofChange slotsWholeWrong)

/-- 'consistorylaw11.SlotsGone': WHATEVER THE INPUT: true; the input reads as it did. -/
def slotsGoneSpec : ChangeSpec := { name := "slotsGone", fn := fun _ => fun
  | [d1, d2, d3] => { results := [.lit (.bool true)], args := [d1, d2, d3] }
  | _ => none }
def slotsGoneRow : OpenClaim := { program := "ythllhnjbddpeoaa", sum := "cfd9bb24112c01f0530b8ef0c47835c92ce62927babecae592af0fa30e596c71", func := "consistory/consistorylaw11.SlotsGone", spec := "slotsGone", inPlace := ["internal/abi.NoEscape", "internal/bytealg.MakeNoZero"], unfollowed := true, recurses := true, apart := false }
def SlotsGoneSaid : Prop := slotsGoneRow.holds Try.pinned (OpenSpec.ofChange slotsGoneSpec)

/-- ITS FALSE NEIGHBOUR: 'it returns false'. Refute it at one input. -/
def slotsGoneWrong : ChangeSpec := { name := "slotsGone", fn := fun _ => fun
  | [d1, d2, d3] => { results := [.lit (.bool false)], args := [d1, d2, d3] }
  | _ => none }
def SlotsGoneWrongFalsely : Prop := slotsGoneRow.holds Try.pinned (OpenSpec.ofChange slotsGoneWrong)

/- THE SECOND FORM. 'bulk': how many values and letters a reading holds, each counted each time it is reached (what is shared counts as often as it is met; a slice's spare places count too). A statement '..UptoSaid' is the law's where the arguments, and the package variables that the reading takes, are together of bulk at most 1048576: NARROWER than '..Said'. Prove '..Said' where nothing that the law and all that it calls make is longer than what came in: it says more and counts as full. Else prove '..UptoSaid'. A law counts once. -/
mutual
def uptoBulk {H : Type} : DataW H → Nat
  | .lit (.string bytes) => bytes.length + 1
  | .lit _ => 1
  | .nil => 1
  | .ptr d => uptoBulk d + 1
  | .slice elems spare => uptoBulkAll elems + uptoBulkAll spare + 1
  | .agg parts => uptoBulkAll parts + 1
  | .iface _ d => uptoBulk d + 1
  | .map entries => uptoBulkEntries entries + 1
  | .held _ => 1
def uptoBulkAll {H : Type} : List (DataW H) → Nat
  | [] => 0
  | d :: r => uptoBulk d + uptoBulkAll r
def uptoBulkEntries {H : Type} : List (Lit × DataW H) → Nat
  | [] => 0
  | x :: r => uptoBulkEntry x + uptoBulkEntries r
def uptoBulkEntry {H : Type} : Lit × DataW H → Nat
  | (.string bytes, d) => bytes.length + uptoBulk d + 1
  | (_, d) => uptoBulk d + 1
 end
def uptoSmall : (H : Type) → List (DataW H) → Bool := fun _ ds => decide (uptoBulkAll ds ≤ 1048576)
def OpenSpec.upto (s : _root_.Go.ChangeSpec) : _root_.Go.OpenSpec := { _root_.Go.OpenSpec.ofChange s with cond := some uptoSmall }

/-- 'consistorylaw10.DiskRead', WHERE WHAT IT READS IS OF BULK AT MOST 1048576: true; the input reads as it did. -/
def diskReadUptoRow : OpenClaim := { program := "ythllhnjbddpeoaa", sum := "cfd9bb24112c01f0530b8ef0c47835c92ce62927babecae592af0fa30e596c71", func := "consistory/consistorylaw10.DiskRead", spec := "diskRead", inPlace := ["internal/abi.NoEscape", "internal/bytealg.MakeNoZero"], unfollowed := true, recurses := true, apart := false, narrowed := true }
def DiskReadUptoSaid : Prop := diskReadUptoRow.holds Try.pinned (OpenSpec.upto diskReadSpec)

/-- 'consistorylaw10.DiskFuse', WHERE WHAT IT READS IS OF BULK AT MOST 1048576: true; the input reads as it did. -/
def diskFuseUptoRow : OpenClaim := { program := "ythllhnjbddpeoaa", sum := "cfd9bb24112c01f0530b8ef0c47835c92ce62927babecae592af0fa30e596c71", func := "consistory/consistorylaw10.DiskFuse", spec := "diskFuse", inPlace := ["internal/abi.NoEscape", "internal/bytealg.MakeNoZero"], unfollowed := true, recurses := true, apart := false, narrowed := true }
def DiskFuseUptoSaid : Prop := diskFuseUptoRow.holds Try.pinned (OpenSpec.upto diskFuseSpec)

/-- 'consistorylaw10.DiskPlays', WHERE WHAT IT READS IS OF BULK AT MOST 1048576: true; the input reads as it did. -/
def diskPlaysUptoRow : OpenClaim := { program := "ythllhnjbddpeoaa", sum := "cfd9bb24112c01f0530b8ef0c47835c92ce62927babecae592af0fa30e596c71", func := "consistory/consistorylaw10.DiskPlays", spec := "diskPlays", inPlace := ["internal/abi.NoEscape", "internal/bytealg.MakeNoZero"], unfollowed := true, recurses := true, apart := false, narrowed := true }
def DiskPlaysUptoSaid : Prop := diskPlaysUptoRow.holds Try.pinned (OpenSpec.upto diskPlaysSpec)

/-- 'consistorylaw10.DiskSynced', WHERE WHAT IT READS IS OF BULK AT MOST 1048576: true; the input reads as it did. -/
def diskSyncedUptoRow : OpenClaim := { program := "ythllhnjbddpeoaa", sum := "cfd9bb24112c01f0530b8ef0c47835c92ce62927babecae592af0fa30e596c71", func := "consistory/consistorylaw10.DiskSynced", spec := "diskSynced", inPlace := ["internal/abi.NoEscape", "internal/bytealg.MakeNoZero"], unfollowed := true, recurses := true, apart := false, narrowed := true }
def DiskSyncedUptoSaid : Prop := diskSyncedUptoRow.holds Try.pinned (OpenSpec.upto diskSyncedSpec)

/-- 'consistorylaw10.DiskNames', WHERE WHAT IT READS IS OF BULK AT MOST 1048576: true; the input reads as it did. -/
def diskNamesUptoRow : OpenClaim := { program := "ythllhnjbddpeoaa", sum := "cfd9bb24112c01f0530b8ef0c47835c92ce62927babecae592af0fa30e596c71", func := "consistory/consistorylaw10.DiskNames", spec := "diskNames", inPlace := ["internal/abi.NoEscape", "internal/bytealg.MakeNoZero", "maps.clone"], unfollowed := true, recurses := true, apart := false, narrowed := true }
def DiskNamesUptoSaid : Prop := diskNamesUptoRow.holds Try.pinned (OpenSpec.upto diskNamesSpec)

/-- 'consistorylaw10.DiskLeft', WHERE WHAT IT READS IS OF BULK AT MOST 1048576: true; the input reads as it did. -/
def diskLeftUptoRow : OpenClaim := { program := "ythllhnjbddpeoaa", sum := "cfd9bb24112c01f0530b8ef0c47835c92ce62927babecae592af0fa30e596c71", func := "consistory/consistorylaw10.DiskLeft", spec := "diskLeft", inPlace := ["internal/abi.NoEscape", "internal/bytealg.MakeNoZero", "maps.clone"], unfollowed := true, recurses := true, apart := false, narrowed := true }
def DiskLeftUptoSaid : Prop := diskLeftUptoRow.holds Try.pinned (OpenSpec.upto diskLeftSpec)

/-- 'consistorylaw10.DiskCopies', WHERE WHAT IT READS IS OF BULK AT MOST 1048576: true; the input reads as it did. -/
def diskCopiesUptoRow : OpenClaim := { program := "ythllhnjbddpeoaa", sum := "cfd9bb24112c01f0530b8ef0c47835c92ce62927babecae592af0fa30e596c71", func := "consistory/consistorylaw10.DiskCopies", spec := "diskCopies", inPlace := ["internal/abi.NoEscape", "internal/bytealg.MakeNoZero", "maps.clone"], unfollowed := true, recurses := true, apart := false, narrowed := true }
def DiskCopiesUptoSaid : Prop := diskCopiesUptoRow.holds Try.pinned (OpenSpec.upto diskCopiesSpec)

/-- 'consistorylaw11.SlotsOlder', WHERE WHAT IT READS IS OF BULK AT MOST 1048576: true; the input reads as it did. -/
def slotsOlderUptoRow : OpenClaim := { program := "ythllhnjbddpeoaa", sum := "cfd9bb24112c01f0530b8ef0c47835c92ce62927babecae592af0fa30e596c71", func := "consistory/consistorylaw11.SlotsOlder", spec := "slotsOlder", inPlace := ["internal/abi.NoEscape", "internal/bytealg.MakeNoZero"], unfollowed := true, recurses := true, apart := false, narrowed := true }
def SlotsOlderUptoSaid : Prop := slotsOlderUptoRow.holds Try.pinned (OpenSpec.upto slotsOlderSpec)

/-- 'consistorylaw11.SlotsNames', WHERE WHAT IT READS IS OF BULK AT MOST 1048576: true; the input reads as it did. -/
def slotsNamesUptoRow : OpenClaim := { program := "ythllhnjbddpeoaa", sum := "cfd9bb24112c01f0530b8ef0c47835c92ce62927babecae592af0fa30e596c71", func := "consistory/consistorylaw11.SlotsNames", spec := "slotsNames", inPlace := ["internal/abi.NoEscape", "internal/bytealg.MakeNoZero"], unfollowed := true, recurses := true, apart := false, narrowed := true }
def SlotsNamesUptoSaid : Prop := slotsNamesUptoRow.holds Try.pinned (OpenSpec.upto slotsNamesSpec)

/-- 'consistorylaw11.SlotsMany', WHERE WHAT IT READS IS OF BULK AT MOST 1048576: true; the input reads as it did. -/
def slotsManyUptoRow : OpenClaim := { program := "ythllhnjbddpeoaa", sum := "cfd9bb24112c01f0530b8ef0c47835c92ce62927babecae592af0fa30e596c71", func := "consistory/consistorylaw11.SlotsMany", spec := "slotsMany", inPlace := ["internal/abi.NoEscape", "internal/bytealg.MakeNoZero"], unfollowed := true, recurses := true, apart := false, narrowed := true }
def SlotsManyUptoSaid : Prop := slotsManyUptoRow.holds Try.pinned (OpenSpec.upto slotsManySpec)

/-- 'consistorylaw11.SlotsWhole', WHERE WHAT IT READS IS OF BULK AT MOST 1048576: true; the input reads as it did. -/
def slotsWholeUptoRow : OpenClaim := { program := "ythllhnjbddpeoaa", sum := "cfd9bb24112c01f0530b8ef0c47835c92ce62927babecae592af0fa30e596c71", func := "consistory/consistorylaw11.SlotsWhole", spec := "slotsWhole", inPlace := ["internal/abi.NoEscape", "internal/bytealg.MakeNoZero"], unfollowed := true, recurses := true, apart := false, narrowed := true }
def SlotsWholeUptoSaid : Prop := slotsWholeUptoRow.holds Try.pinned (OpenSpec.upto slotsWholeSpec)

/-- 'consistorylaw11.SlotsGone', WHERE WHAT IT READS IS OF BULK AT MOST 1048576: true; the input reads as it did. -/
def slotsGoneUptoRow : OpenClaim := { program := "ythllhnjbddpeoaa", sum := "cfd9bb24112c01f0530b8ef0c47835c92ce62927babecae592af0fa30e596c71", func := "consistory/consistorylaw11.SlotsGone", spec := "slotsGone", inPlace := ["internal/abi.NoEscape", "internal/bytealg.MakeNoZero"], unfollowed := true, recurses := true, apart := false, narrowed := true }
def SlotsGoneUptoSaid : Prop := slotsGoneUptoRow.holds Try.pinned (OpenSpec.upto slotsGoneSpec)

end Rows
end Go.Proofs.Ythllhnjbddpeoaa
