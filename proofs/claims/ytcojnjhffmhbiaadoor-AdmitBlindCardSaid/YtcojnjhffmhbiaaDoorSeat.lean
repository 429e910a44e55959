/-
  What the closed facts of every row ask of the whole program, once: it may be entered; what is lifted; the program's main package.
-/
import Derived.Test.YtcojnjhffmhbiaaDoorRows
import Derived.Test.YtcojnjhffmhbiaaDoorChecked
import Derived.JoinedOf
import Derived.SevenTiedAt
namespace Go.Proofs.YtcojnjhffmhbiaaDoor
open Go Go.Proofs

set_option maxRecDepth 100000 in
theorem seat_mayEnter : Tryd.prog.mayEnter = true := by kernel_rfl
set_option maxRecDepth 100000 in
theorem seat_lifts : Tryd.prog.liftsFinal = false := by kernel_rfl
set_option maxRecDepth 100000 in
theorem seat_mainIs : Tryd.pinned.checked.prog.mainIs = some (true, "f020eeb781593d56daa69a7cc06e1420dedbbf0f68a61d84e8d3556648cc65e3".toList) := by kernel_rfl
end Go.Proofs.YtcojnjhffmhbiaaDoor
