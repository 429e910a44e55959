/-
  The document's Decode: does a polynomial go through a point.
-/
import Derived.Test.YtlbhmoiicbhgkaaDoorRobQ1
import Derived.Test.YtlbhmoiicbhgkaaDoorRobQ2
import Derived.Test.YtlbhmoiicbhgkaaDoorRobQ3
import Derived.Test.YtlbhmoiicbhgkaaDoorRobQ4
import Derived.Test.YtlbhmoiicbhgkaaDoorRobQ5
import Derived.Test.YtlbhmoiicbhgkaaDoorRobQ6
import Derived.Test.YtlbhmoiicbhgkaaDoorRobQ7
import Derived.Test.YtlbhmoiicbhgkaaDoorRobQ8
import Derived.Test.YtlbhmoiicbhgkaaDoorRobQ9
import Derived.Test.YtlbhmoiicbhgkaaDoorRobQ10
import Derived.Test.YtlbhmoiicbhgkaaDoorRobQ11
import Derived.Test.YtlbhmoiicbhgkaaDoorRoR
import Derived.Test.YtlbhmoiicbhgkaaDoorRoQ
namespace Go.Proofs.YtlbhmoiicbhgkaaDoor
open Go Go.RowKit Go.Maps Go.Shelf Go.Proofs

attribute [local go_sem] Oper.semAt_some

set_option maxRecDepth 100000 in
set_option maxHeartbeats 400000 in
theorem goes05_c (A : Option Addr) (c : List Int) (ca : Nat) (x y q : Int) (w : World) (hA : Cells w A (c.map (.int .u64))) (hl : c.length ≤ 1000) (hu : U64s c) (hx : U64 x) (hy : U64 y) (hq : U64 q) (hq0 : 0 < q) :
    Calls Tryd.prog 66 #[.slice A c.length ca, .int .u64 x, .int .u64 y, .int .u64 q] w fun e w' => e = .returned (.bool (decide (mEval c x q = y % q))) ∧ Dr w w' := by
  have hq1 : (q == 0) = false := by rw [beq_eq_false_iff_ne]; omega
  have ht := Int.tmod_eq_emod_of_nonneg (b := q) hy.lo
  have HEV := hid (fun m => reval_c A c ca x q (w.drewN m) (hA.dr ⟨m, rfl⟩) (by omega) hu hx hq)
  have HB := hid (show decide (mEval c x q = y % q) = (mEval c x q == y % q) by by_cases h : mEval c x q = y % q <;> simp [h])
  clear hA
  generalize mEval c x q = v at *
  generalize y % q = r at *
  go_enter Tryd.func66, Tryd.ntmps66
  go_wp2
  go_quiet (first | (go_at_call 97; exact quiet_dr (HEV.out _)))
  go_wp2
  go_ret
  exact ⟨by rw [HB.out]; rfl, ⟨_, rfl⟩⟩
end Go.Proofs.YtlbhmoiicbhgkaaDoor
