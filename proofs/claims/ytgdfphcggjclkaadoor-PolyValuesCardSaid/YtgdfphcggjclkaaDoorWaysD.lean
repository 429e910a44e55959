/-
  Ways of regions in which several operations turn memory. (No program in sight.)
-/
import Derived.Test.YtgdfphcggjclkaaDoorRegionD
import Derived.Test.YtgdfphcggjclkaaDoorCore
namespace Go.Rgd
open Go.RowKit Go.Proofs.YtgdfphcggjclkaaDoor

/-- what lay in w0 stays; something holds of memory at each step, which growing keeps. -/
def stay (w0 : World) (Ph : Nat → World → Prop) (cs : List Nat) (bds : List (Nat × Nat)) : Way := ⟨Keep, fun _ _ _ => True, fun p w => Below w0.heap.size w0 w ∧ Ph p w, cs, bds⟩
theorem stay_fair {w0 : World} {Ph : Nat → World → Prop} {cs : List Nat} {bds : List (Nat × Nat)} (h : ∀ p w w', Ph p w → Below w.heap.size w w' → Ph p w') : (stay w0 Ph cs bds).Fair :=
  ⟨fun p _ _ h1 hk => ⟨below_next h1.1 h1.1.size hk, h p _ _ h1.2 hk⟩⟩
/-- what lay in w0 stays. -/
def keep (w0 : World) (cs : List Nat) (bds : List (Nat × Nat)) : Way := ⟨Keep, fun _ _ _ => True, fun _ w => Below w0.heap.size w0 w, cs, bds⟩
theorem keep_fair {w0 : World} {cs : List Nat} {bds : List (Nat × Nat)} : (keep w0 cs bds).Fair := ⟨fun _ _ _ h1 hk => below_next h1 (Below.size h1) hk⟩
theorem keep_start (w0 : World) : Below w0.heap.size w0 w0.drew := keep_drew w0
end Go.Rgd
