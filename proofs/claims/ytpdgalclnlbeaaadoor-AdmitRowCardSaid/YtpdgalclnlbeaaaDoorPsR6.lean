/-
  The kernel's runs: p1 from 137 to 673.
-/
import Derived.Test.YtpdgalclnlbeaaaDoorPsC
namespace Go.Psi
def sl137 : List Nat := [137, 139, 149, 151, 157, 163, 167, 173, 179, 181, 191, 193, 197, 199, 211, 223, 227, 229, 233, 239, 241, 251, 257, 263, 269, 271, 277, 281, 283, 293, 307, 311, 313, 317, 331, 337, 347, 349, 353, 359]
set_option maxHeartbeats 16000000 in
theorem sc137 : SmR sl137 := by
  show SmR [137, 139, 149, 151, 157, 163, 167, 173, 179, 181, 191, 193, 197, 199, 211, 223, 227, 229, 233, 239, 241, 251, 257, 263, 269, 271, 277, 281, 283, 293, 307, 311, 313, 317, 331, 337, 347, 349, 353, 359]
  iterate 40 refine SmR.cons (by decide +kernel) ?_
  exact SmR.nil
def sl367 : List Nat := [367, 373, 379, 383, 389, 397, 401, 409, 419, 421, 431, 433, 439, 443, 449, 457, 461, 463, 467, 479, 487, 491, 499, 503, 509, 521, 523, 541, 547, 557, 563, 569, 571, 577, 587, 593, 599, 601, 607, 613]
set_option maxHeartbeats 16000000 in
theorem sc367 : SmR sl367 := by
  show SmR [367, 373, 379, 383, 389, 397, 401, 409, 419, 421, 431, 433, 439, 443, 449, 457, 461, 463, 467, 479, 487, 491, 499, 503, 509, 521, 523, 541, 547, 557, 563, 569, 571, 577, 587, 593, 599, 601, 607, 613]
  iterate 40 refine SmR.cons (by decide +kernel) ?_
  exact SmR.nil
def sl617 : List Nat := [617, 619, 631, 641, 643, 647, 653, 659, 661, 673]
set_option maxHeartbeats 16000000 in
theorem sc617 : SmR sl617 := by
  show SmR [617, 619, 631, 641, 643, 647, 653, 659, 661, 673]
  iterate 10 refine SmR.cons (by decide +kernel) ?_
  exact SmR.nil
end Go.Psi

/-! The kernel's runs: odd v from 539 to 3313. -/
namespace Go.Psi
set_option maxHeartbeats 16000000 in
theorem o539 : OddR 539 547 := odd_grp 539 4 6 10 (c := 40) (by (iterate 40 refine Chk.succ ?_ (by decide +kernel)); exact Chk.zero _) rfl (by decide +kernel) rfl (by decide) (by decide) rfl
set_option maxHeartbeats 16000000 in
theorem o547 : OddR 547 571 := odd_grp 547 12 6 8 (c := 96) (by (iterate 96 refine Chk.succ ?_ (by decide +kernel)); exact Chk.zero _) rfl (by decide +kernel) rfl (by decide) (by decide) rfl
set_option maxHeartbeats 16000000 in
theorem o571 : OddR 571 583 := odd_grp 571 6 6 8 (c := 48) (by (iterate 48 refine Chk.succ ?_ (by decide +kernel)); exact Chk.zero _) rfl (by decide +kernel) rfl (by decide) (by decide) rfl
set_option maxHeartbeats 16000000 in
theorem o583 : OddR 583 601 := odd_grp 583 9 6 7 (c := 63) (by (iterate 63 refine Chk.succ ?_ (by decide +kernel)); exact Chk.zero _) rfl (by decide +kernel) rfl (by decide) (by decide) rfl
set_option maxHeartbeats 16000000 in
theorem o601 : OddR 601 701 := odd_all 601 50 (by (iterate 50 refine Chk.succ ?_ (by decide +kernel)); exact Chk.zero _) rfl rfl
set_option maxHeartbeats 16000000 in
theorem o701 : OddR 701 801 := odd_all 701 50 (by (iterate 50 refine Chk.succ ?_ (by decide +kernel)); exact Chk.zero _) rfl rfl
set_option maxHeartbeats 16000000 in
theorem o801 : OddR 801 901 := odd_all 801 50 (by (iterate 50 refine Chk.succ ?_ (by decide +kernel)); exact Chk.zero _) rfl rfl
set_option maxHeartbeats 16000000 in
theorem o901 : OddR 901 1001 := odd_all 901 50 (by (iterate 50 refine Chk.succ ?_ (by decide +kernel)); exact Chk.zero _) rfl rfl
set_option maxHeartbeats 16000000 in
theorem o1001 : OddR 1001 1101 := odd_all 1001 50 (by (iterate 50 refine Chk.succ ?_ (by decide +kernel)); exact Chk.zero _) rfl rfl
set_option maxHeartbeats 16000000 in
theorem o1101 : OddR 1101 1201 := odd_all 1101 50 (by (iterate 50 refine Chk.succ ?_ (by decide +kernel)); exact Chk.zero _) rfl rfl
set_option maxHeartbeats 16000000 in
theorem o1201 : OddR 1201 1301 := odd_all 1201 50 (by (iterate 50 refine Chk.succ ?_ (by decide +kernel)); exact Chk.zero _) rfl rfl
set_option maxHeartbeats 16000000 in
theorem o1301 : OddR 1301 1401 := odd_all 1301 50 (by (iterate 50 refine Chk.succ ?_ (by decide +kernel)); exact Chk.zero _) rfl rfl
set_option maxHeartbeats 16000000 in
theorem o1401 : OddR 1401 1501 := odd_all 1401 50 (by (iterate 50 refine Chk.succ ?_ (by decide +kernel)); exact Chk.zero _) rfl rfl
set_option maxHeartbeats 16000000 in
theorem o1501 : OddR 1501 1601 := odd_all 1501 50 (by (iterate 50 refine Chk.succ ?_ (by decide +kernel)); exact Chk.zero _) rfl rfl
set_option maxHeartbeats 16000000 in
theorem o1601 : OddR 1601 1701 := odd_all 1601 50 (by (iterate 50 refine Chk.succ ?_ (by decide +kernel)); exact Chk.zero _) rfl rfl
set_option maxHeartbeats 16000000 in
theorem o1701 : OddR 1701 1801 := odd_all 1701 50 (by (iterate 50 refine Chk.succ ?_ (by decide +kernel)); exact Chk.zero _) rfl rfl
set_option maxHeartbeats 16000000 in
theorem o1801 : OddR 1801 1901 := odd_all 1801 50 (by (iterate 50 refine Chk.succ ?_ (by decide +kernel)); exact Chk.zero _) rfl rfl
set_option maxHeartbeats 16000000 in
theorem o1901 : OddR 1901 2001 := odd_all 1901 50 (by (iterate 50 refine Chk.succ ?_ (by decide +kernel)); exact Chk.zero _) rfl rfl
set_option maxHeartbeats 16000000 in
theorem o2001 : OddR 2001 2101 := odd_all 2001 50 (by (iterate 50 refine Chk.succ ?_ (by decide +kernel)); exact Chk.zero _) rfl rfl
set_option maxHeartbeats 16000000 in
theorem o2101 : OddR 2101 2201 := odd_all 2101 50 (by (iterate 50 refine Chk.succ ?_ (by decide +kernel)); exact Chk.zero _) rfl rfl
set_option maxHeartbeats 16000000 in
theorem o2201 : OddR 2201 2301 := odd_all 2201 50 (by (iterate 50 refine Chk.succ ?_ (by decide +kernel)); exact Chk.zero _) rfl rfl
set_option maxHeartbeats 16000000 in
theorem o2301 : OddR 2301 2401 := odd_all 2301 50 (by (iterate 50 refine Chk.succ ?_ (by decide +kernel)); exact Chk.zero _) rfl rfl
set_option maxHeartbeats 16000000 in
theorem o2401 : OddR 2401 2501 := odd_all 2401 50 (by (iterate 50 refine Chk.succ ?_ (by decide +kernel)); exact Chk.zero _) rfl rfl
set_option maxHeartbeats 16000000 in
theorem o2501 : OddR 2501 2601 := odd_all 2501 50 (by (iterate 50 refine Chk.succ ?_ (by decide +kernel)); exact Chk.zero _) rfl rfl
set_option maxHeartbeats 16000000 in
theorem o2601 : OddR 2601 2701 := odd_all 2601 50 (by (iterate 50 refine Chk.succ ?_ (by decide +kernel)); exact Chk.zero _) rfl rfl
set_option maxHeartbeats 16000000 in
theorem o2701 : OddR 2701 2801 := odd_all 2701 50 (by (iterate 50 refine Chk.succ ?_ (by decide +kernel)); exact Chk.zero _) rfl rfl
set_option maxHeartbeats 16000000 in
theorem o2801 : OddR 2801 2901 := odd_all 2801 50 (by (iterate 50 refine Chk.succ ?_ (by decide +kernel)); exact Chk.zero _) rfl rfl
set_option maxHeartbeats 16000000 in
theorem o2901 : OddR 2901 3001 := odd_all 2901 50 (by (iterate 50 refine Chk.succ ?_ (by decide +kernel)); exact Chk.zero _) rfl rfl
set_option maxHeartbeats 16000000 in
theorem o3001 : OddR 3001 3101 := odd_all 3001 50 (by (iterate 50 refine Chk.succ ?_ (by decide +kernel)); exact Chk.zero _) rfl rfl
set_option maxHeartbeats 16000000 in
theorem o3101 : OddR 3101 3201 := odd_all 3101 50 (by (iterate 50 refine Chk.succ ?_ (by decide +kernel)); exact Chk.zero _) rfl rfl
set_option maxHeartbeats 16000000 in
theorem o3201 : OddR 3201 3301 := odd_all 3201 50 (by (iterate 50 refine Chk.succ ?_ (by decide +kernel)); exact Chk.zero _) rfl rfl
set_option maxHeartbeats 16000000 in
theorem o3301 : OddR 3301 3313 := odd_all 3301 6 (by (iterate 6 refine Chk.succ ?_ (by decide +kernel)); exact Chk.zero _) rfl rfl
theorem O_3 : OddR 539 3313 := (o539.trans (o547.trans (o571.trans (o583.trans (o601.trans (o701.trans (o801.trans (o901.trans (o1001.trans (o1101.trans (o1201.trans (o1301.trans (o1401.trans (o1501.trans (o1601.trans (o1701.trans (o1801.trans (o1901.trans (o2001.trans (o2101.trans (o2201.trans (o2301.trans (o2401.trans (o2501.trans (o2601.trans (o2701.trans (o2801.trans (o2901.trans (o3001.trans (o3101.trans (o3201.trans o3301)))))))))))))))))))))))))))))))
end Go.Psi
