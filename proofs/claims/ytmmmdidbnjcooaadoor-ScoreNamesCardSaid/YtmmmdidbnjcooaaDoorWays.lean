/-
  Regions in which one operation writes to memory that the region has made. (No program in sight.)
-/
import Derived.Test.YtmmmdidbnjcooaaDoorCore
import Derived.Test.YtmmmdidbnjcooaaDoorRegionB
namespace Go.Rgb
open Go.RowKit

/-- operation s writes beyond what lay in w0; the others make memory. -/
def freshWay (w0 : World) (s : Nat) : Way := ⟨Keep, fun w w' => Below w0.heap.size w w', fun w => Below w0.heap.size w0 w, fun _ => True, s⟩
theorem freshWay_fair (w0 : World) (s : Nat) : (freshWay w0 s).Fair := ⟨fun _ _ h k => h.trans (k.mono h.size), fun _ _ h k => h.trans k, fun _ _ _ _ => trivial⟩
end Go.Rgb
