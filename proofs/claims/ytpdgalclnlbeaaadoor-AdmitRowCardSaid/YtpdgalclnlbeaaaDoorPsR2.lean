/-
  The kernel's runs: half of p1 from 1500 to 10000.
-/
import Derived.Test.YtpdgalclnlbeaaaDoorPsC
namespace Go.Psi
set_option maxHeartbeats 16000000 in
theorem b1500 : BigR 1500 2000 := big_of 1500 5 100 (by decide) (by (iterate 100 refine Chk.succ ?_ (by decide +kernel)); exact Chk.zero _)
set_option maxHeartbeats 16000000 in
theorem b2000 : BigR 2000 2500 := big_of 2000 5 100 (by decide) (by (iterate 100 refine Chk.succ ?_ (by decide +kernel)); exact Chk.zero _)
set_option maxHeartbeats 16000000 in
theorem b2500 : BigR 2500 3000 := big_of 2500 5 100 (by decide) (by (iterate 100 refine Chk.succ ?_ (by decide +kernel)); exact Chk.zero _)
set_option maxHeartbeats 16000000 in
theorem b3000 : BigR 3000 3500 := big_of 3000 5 100 (by decide) (by (iterate 100 refine Chk.succ ?_ (by decide +kernel)); exact Chk.zero _)
set_option maxHeartbeats 16000000 in
theorem b3500 : BigR 3500 4000 := big_of 3500 5 100 (by decide) (by (iterate 100 refine Chk.succ ?_ (by decide +kernel)); exact Chk.zero _)
set_option maxHeartbeats 16000000 in
theorem b4000 : BigR 4000 4500 := big_of 4000 5 100 (by decide) (by (iterate 100 refine Chk.succ ?_ (by decide +kernel)); exact Chk.zero _)
set_option maxHeartbeats 16000000 in
theorem b4500 : BigR 4500 5000 := big_of 4500 5 100 (by decide) (by (iterate 100 refine Chk.succ ?_ (by decide +kernel)); exact Chk.zero _)
set_option maxHeartbeats 16000000 in
theorem b5000 : BigR 5000 6000 := big_of 5000 10 100 (by decide) (by (iterate 100 refine Chk.succ ?_ (by decide +kernel)); exact Chk.zero _)
set_option maxHeartbeats 16000000 in
theorem b6000 : BigR 6000 7000 := big_of 6000 10 100 (by decide) (by (iterate 100 refine Chk.succ ?_ (by decide +kernel)); exact Chk.zero _)
set_option maxHeartbeats 16000000 in
theorem b7000 : BigR 7000 8000 := big_of 7000 10 100 (by decide) (by (iterate 100 refine Chk.succ ?_ (by decide +kernel)); exact Chk.zero _)
set_option maxHeartbeats 16000000 in
theorem b8000 : BigR 8000 9000 := big_of 8000 10 100 (by decide) (by (iterate 100 refine Chk.succ ?_ (by decide +kernel)); exact Chk.zero _)
set_option maxHeartbeats 16000000 in
theorem b9000 : BigR 9000 10000 := big_of 9000 10 100 (by decide) (by (iterate 100 refine Chk.succ ?_ (by decide +kernel)); exact Chk.zero _)
theorem B_0 : BigR 1500 10000 := (b1500.trans (b2000.trans (b2500.trans (b3000.trans (b3500.trans (b4000.trans (b4500.trans (b5000.trans (b6000.trans (b7000.trans (b8000.trans b9000)))))))))))
end Go.Psi

/-! The kernel's runs: p1 from 41 to 131. -/
namespace Go.Psi
def sl41 : List Nat := [41, 43, 47, 53, 59, 61, 67, 71, 73, 79, 83, 89, 97, 101, 103, 107, 109, 113, 127, 131]
set_option maxHeartbeats 16000000 in
theorem sc41 : SmR sl41 := by
  show SmR [41, 43, 47, 53, 59, 61, 67, 71, 73, 79, 83, 89, 97, 101, 103, 107, 109, 113, 127, 131]
  iterate 20 refine SmR.cons (by decide +kernel) ?_
  exact SmR.nil
end Go.Psi
