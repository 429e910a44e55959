/-
  What the closed facts of every row ask of the whole program, once: it may be entered; what is lifted; the program's main package.
-/
import Derived.Test.YtpdgalclnlbeaaaDoorAdmQ1
import Derived.Test.YtpdgalclnlbeaaaDoorAdmQ2
import Derived.Test.YtpdgalclnlbeaaaDoorAdmQ3
import Derived.Test.YtpdgalclnlbeaaaDoorAdmQ4
import Derived.Test.YtpdgalclnlbeaaaDoorAdmQ5
import Derived.Test.YtpdgalclnlbeaaaDoorAdmQ6
import Derived.Test.YtpdgalclnlbeaaaDoorAdmQ7
import Derived.Test.YtpdgalclnlbeaaaDoorAdmQ8
import Derived.Test.YtpdgalclnlbeaaaDoorRows
import Derived.Test.YtpdgalclnlbeaaaDoorChecked
import Derived.JoinedOf
import Derived.SevenTiedAt
namespace Go.Proofs.YtpdgalclnlbeaaaDoor
open Go Go.Proofs

set_option maxRecDepth 100000 in
theorem seat_mayEnter : Tryd.prog.mayEnter = true := by kernel_rfl
set_option maxRecDepth 100000 in
theorem seat_lifts : Tryd.prog.liftsFinal = false := by kernel_rfl
set_option maxRecDepth 100000 in
theorem seat_mainIs : Tryd.pinned.checked.prog.mainIs = some (true, "1e865e27d4a8538ef68c097958d6303b7cc63439efa1f86c2ace13c4d93e00a5".toList) := by kernel_rfl
end Go.Proofs.YtpdgalclnlbeaaaDoor
