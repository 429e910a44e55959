/-
  The tables that the primes' test looks into: what a row's condition gives; a world that meets it; the cards' common facts.
-/
import Derived.Test.YtgdfphcggjclkaaDoorPrA
import Derived.Test.YtgdfphcggjclkaaDoorOpenT
import Derived.Test.YtgdfphcggjclkaaDoorRows
import Derived.Test.YtgdfphcggjclkaaDoorCards
import Derived.Test.YtgdfphcggjclkaaDoorTie
import Derived.ProofKit
import Derived.LaidMore
import Derived.LaidHandle
import Derived.OpenShut
import Derived.Stop.Joined
import Derived.Stop.LaidErr
import Derived.Lib.LaidTab
import Derived.SevenTiedAt
namespace Go.Proofs.YtgdfphcggjclkaaDoor
open Go.ChangeShapes Go.WideShapes Go.ChangeAt Go.RowKit

abbrev laidB : List (String × DataW Unit) := [("math/bits.deBruijn64tab", Rows.laid_math_bits_deBruijn64tab), ("consistory/mod.tried", Rows.laid_consistory_mod_tried)]
theorem tabs_of_laid {W : World} (h : laidMetH Tryd.prog laidB W) : Tabs W := by
  rw [MakeChecks.laidMetH_plain _ _ _ (by kernel_rfl)] at h
  have h1 : Lib.TabIs Tryd.prog W "math/bits.deBruijn64tab" .u8 (Lib.deBruijn64tab.map (fun n : Nat => (n : Int))) :=
    Lib.tabIs_of_head (g := 1) (n := 64) (t := 102) (e := 5) (by kernel_rfl) (by kernel_rfl) (by kernel_rfl) (by kernel_rfl) (by kernel_rfl) (by kernel_rfl) h
  have h2 : Lib.TabIs Tryd.prog W "consistory/mod.tried" .u64 triedL :=
    Lib.tabIs_of_head (g := 0) (n := 12) (t := 76) (e := 23) (by kernel_rfl) (by kernel_rfl) (by kernel_rfl) (by kernel_rfl) (by kernel_rfl) (by kernel_rfl) h.tail
  refine ⟨fun j hj => ?_, fun k z hz => ?_⟩
  · have := h1.cell (g := 1) (by kernel_rfl) j (by simpa using hj)
    rw [this]
    simp [List.getD_eq_getElem?_getD, List.getElem?_map, List.getElem?_eq_getElem hj]
  · have hk := (List.getElem?_eq_some_iff.1 hz).1
    have := h2.cell (g := 0) (by kernel_rfl) k hk
    rw [this, List.getD_eq_getElem?_getD, hz]; rfl
set_option maxRecDepth 100000 in
theorem door_met (os : Os) (args : Array Value) : laidMetH Tryd.prog laidB ((World.doorLaid Tryd.prog 400 os).forCall (fun _ _ => 0) ⟨#[], args, []⟩).memory :=
  laidMetH_of_parts3 (fuel := 8) (laidMet_of_run' 8 (by kernel_rfl) (by kernel_rfl)) (by kernel_rfl) (by kernel_rfl)
theorem own_knob : ownKnob Tryd.prog.godebug = none := by kernel_rfl
end Go.Proofs.YtgdfphcggjclkaaDoor
