/-
  What the closed facts of every row ask of the whole program, once: it may be entered; what is lifted; the program's main package.
-/
import Derived.Test.YtlbhmoiicbhgkaaDoorRows
import Derived.Test.YtlbhmoiicbhgkaaDoorChecked
import Derived.JoinedOf
import Derived.SevenTiedAt
namespace Go.Proofs.YtlbhmoiicbhgkaaDoor
open Go Go.Proofs

set_option maxRecDepth 100000 in
theorem seat_mayEnter : Tryd.prog.mayEnter = true := by kernel_rfl
set_option maxRecDepth 100000 in
theorem seat_lifts : Tryd.prog.liftsFinal = false := by kernel_rfl
set_option maxRecDepth 100000 in
theorem seat_mainIs : Tryd.pinned.checked.prog.mainIs = some (true, "da6d4decbc9d0acaf6e32e2e04fae10cd6ebdb1f58acffaeddeac9726658d4f3".toList) := by kernel_rfl
end Go.Proofs.YtlbhmoiicbhgkaaDoor
