/-
  The kernel's runs: half of p1 from 10000 to 29000.
-/
import Derived.Test.YtpdgalclnlbeaaaDoorPsC
namespace Go.Psi
set_option maxHeartbeats 16000000 in
theorem b10000 : BigR 10000 11000 := big_of 10000 10 100 (by decide) (by (iterate 100 refine Chk.succ ?_ (by decide +kernel)); exact Chk.zero _)
set_option maxHeartbeats 16000000 in
theorem b11000 : BigR 11000 12000 := big_of 11000 10 100 (by decide) (by (iterate 100 refine Chk.succ ?_ (by decide +kernel)); exact Chk.zero _)
set_option maxHeartbeats 16000000 in
theorem b12000 : BigR 12000 13000 := big_of 12000 10 100 (by decide) (by (iterate 100 refine Chk.succ ?_ (by decide +kernel)); exact Chk.zero _)
set_option maxHeartbeats 16000000 in
theorem b13000 : BigR 13000 14000 := big_of 13000 10 100 (by decide) (by (iterate 100 refine Chk.succ ?_ (by decide +kernel)); exact Chk.zero _)
set_option maxHeartbeats 16000000 in
theorem b14000 : BigR 14000 15000 := big_of 14000 10 100 (by decide) (by (iterate 100 refine Chk.succ ?_ (by decide +kernel)); exact Chk.zero _)
set_option maxHeartbeats 16000000 in
theorem b15000 : BigR 15000 17000 := big_of 15000 20 100 (by decide) (by (iterate 100 refine Chk.succ ?_ (by decide +kernel)); exact Chk.zero _)
set_option maxHeartbeats 16000000 in
theorem b17000 : BigR 17000 19000 := big_of 17000 20 100 (by decide) (by (iterate 100 refine Chk.succ ?_ (by decide +kernel)); exact Chk.zero _)
set_option maxHeartbeats 16000000 in
theorem b19000 : BigR 19000 21000 := big_of 19000 20 100 (by decide) (by (iterate 100 refine Chk.succ ?_ (by decide +kernel)); exact Chk.zero _)
set_option maxHeartbeats 16000000 in
theorem b21000 : BigR 21000 23000 := big_of 21000 20 100 (by decide) (by (iterate 100 refine Chk.succ ?_ (by decide +kernel)); exact Chk.zero _)
set_option maxHeartbeats 16000000 in
theorem b23000 : BigR 23000 25000 := big_of 23000 20 100 (by decide) (by (iterate 100 refine Chk.succ ?_ (by decide +kernel)); exact Chk.zero _)
set_option maxHeartbeats 16000000 in
theorem b25000 : BigR 25000 27000 := big_of 25000 20 100 (by decide) (by (iterate 100 refine Chk.succ ?_ (by decide +kernel)); exact Chk.zero _)
set_option maxHeartbeats 16000000 in
theorem b27000 : BigR 27000 29000 := big_of 27000 20 100 (by decide) (by (iterate 100 refine Chk.succ ?_ (by decide +kernel)); exact Chk.zero _)
theorem B_1 : BigR 10000 29000 := (b10000.trans (b11000.trans (b12000.trans (b13000.trans (b14000.trans (b15000.trans (b17000.trans (b19000.trans (b21000.trans (b23000.trans (b25000.trans b27000)))))))))))
end Go.Psi

/-! The kernel's runs: odd v from 3 to 133. -/
namespace Go.Psi
set_option maxHeartbeats 16000000 in
theorem o3 : OddR 3 7 := odd_grp 3 2 3 1 (c := 2) (by (iterate 2 refine Chk.succ ?_ (by decide +kernel)); exact Chk.zero _) rfl (by decide +kernel) rfl (by decide) (by decide) rfl
set_option maxHeartbeats 16000000 in
theorem o7 : OddR 7 13 := odd_grp 7 3 3 2 (c := 6) (by (iterate 6 refine Chk.succ ?_ (by decide +kernel)); exact Chk.zero _) rfl (by decide +kernel) rfl (by decide) (by decide) rfl
set_option maxHeartbeats 16000000 in
theorem o13 : OddR 13 19 := odd_grp 13 3 3 3 (c := 9) (by (iterate 9 refine Chk.succ ?_ (by decide +kernel)); exact Chk.zero _) rfl (by decide +kernel) rfl (by decide) (by decide) rfl
set_option maxHeartbeats 16000000 in
theorem o19 : OddR 19 25 := odd_grp 19 3 3 4 (c := 12) (by (iterate 12 refine Chk.succ ?_ (by decide +kernel)); exact Chk.zero _) rfl (by decide +kernel) rfl (by decide) (by decide) rfl
set_option maxHeartbeats 16000000 in
theorem o25 : OddR 25 31 := odd_grp 25 3 3 5 (c := 15) (by (iterate 15 refine Chk.succ ?_ (by decide +kernel)); exact Chk.zero _) rfl (by decide +kernel) rfl (by decide) (by decide) rfl
set_option maxHeartbeats 16000000 in
theorem o31 : OddR 31 37 := odd_grp 31 3 3 6 (c := 18) (by (iterate 18 refine Chk.succ ?_ (by decide +kernel)); exact Chk.zero _) rfl (by decide +kernel) rfl (by decide) (by decide) rfl
set_option maxHeartbeats 16000000 in
theorem o37 : OddR 37 43 := odd_grp 37 3 3 7 (c := 21) (by (iterate 21 refine Chk.succ ?_ (by decide +kernel)); exact Chk.zero _) rfl (by decide +kernel) rfl (by decide) (by decide) rfl
set_option maxHeartbeats 16000000 in
theorem o43 : OddR 43 49 := odd_grp 43 3 3 8 (c := 24) (by (iterate 24 refine Chk.succ ?_ (by decide +kernel)); exact Chk.zero _) rfl (by decide +kernel) rfl (by decide) (by decide) rfl
set_option maxHeartbeats 16000000 in
theorem o49 : OddR 49 55 := odd_grp 49 3 3 9 (c := 27) (by (iterate 27 refine Chk.succ ?_ (by decide +kernel)); exact Chk.zero _) rfl (by decide +kernel) rfl (by decide) (by decide) rfl
set_option maxHeartbeats 16000000 in
theorem o55 : OddR 55 71 := odd_grp 55 8 3 12 (c := 96) (by (iterate 96 refine Chk.succ ?_ (by decide +kernel)); exact Chk.zero _) rfl (by decide +kernel) rfl (by decide) (by decide) rfl
set_option maxHeartbeats 16000000 in
theorem o71 : OddR 71 85 := odd_grp 71 7 3 14 (c := 98) (by (iterate 98 refine Chk.succ ?_ (by decide +kernel)); exact Chk.zero _) rfl (by decide +kernel) rfl (by decide) (by decide) rfl
set_option maxHeartbeats 16000000 in
theorem o85 : OddR 85 97 := odd_grp 85 6 3 16 (c := 96) (by (iterate 96 refine Chk.succ ?_ (by decide +kernel)); exact Chk.zero _) rfl (by decide +kernel) rfl (by decide) (by decide) rfl
set_option maxHeartbeats 16000000 in
theorem o97 : OddR 97 107 := odd_grp 97 5 3 18 (c := 90) (by (iterate 90 refine Chk.succ ?_ (by decide +kernel)); exact Chk.zero _) rfl (by decide +kernel) rfl (by decide) (by decide) rfl
set_option maxHeartbeats 16000000 in
theorem o107 : OddR 107 117 := odd_grp 107 5 3 20 (c := 100) (by (iterate 100 refine Chk.succ ?_ (by decide +kernel)); exact Chk.zero _) rfl (by decide +kernel) rfl (by decide) (by decide) rfl
set_option maxHeartbeats 16000000 in
theorem o117 : OddR 117 125 := odd_grp 117 4 3 21 (c := 84) (by (iterate 84 refine Chk.succ ?_ (by decide +kernel)); exact Chk.zero _) rfl (by decide +kernel) rfl (by decide) (by decide) rfl
set_option maxHeartbeats 16000000 in
theorem o125 : OddR 125 133 := odd_grp 125 4 3 22 (c := 88) (by (iterate 88 refine Chk.succ ?_ (by decide +kernel)); exact Chk.zero _) rfl (by decide +kernel) rfl (by decide) (by decide) rfl
theorem O_0 : OddR 3 133 := (o3.trans (o7.trans (o13.trans (o19.trans (o25.trans (o31.trans (o37.trans (o43.trans (o49.trans (o55.trans (o71.trans (o85.trans (o97.trans (o107.trans (o117.trans o125)))))))))))))))
end Go.Psi

/-! The kernel's runs: even k from 2 to 130. -/
namespace Go.Psi
set_option maxHeartbeats 16000000 in
theorem e2 : EvR 2 4 := ev_grp 2 1 4364796 123 (c := 123) (by (iterate 123 refine Chk.succ ?_ (by decide +kernel)); exact Chk.zero _) rfl (by decide +kernel) rfl (by decide) (by decide) rfl
set_option maxHeartbeats 16000000 in
theorem e4 : EvR 4 8 := ev_grp 4 2 17255387 22 (c := 44) (by (iterate 44 refine Chk.succ ?_ (by decide +kernel)); exact Chk.zero _) rfl (by decide +kernel) rfl (by decide) (by decide) rfl
set_option maxHeartbeats 16000000 in
theorem e8 : EvR 8 14 := ev_grp 8 3 16775425 16 (c := 48) (by (iterate 48 refine Chk.succ ?_ (by decide +kernel)); exact Chk.zero _) rfl (by decide +kernel) rfl (by decide) (by decide) rfl
set_option maxHeartbeats 16000000 in
theorem e14 : EvR 14 22 := ev_grp 14 4 16903415 12 (c := 48) (by (iterate 48 refine Chk.succ ?_ (by decide +kernel)); exact Chk.zero _) rfl (by decide +kernel) rfl (by decide) (by decide) rfl
set_option maxHeartbeats 16000000 in
theorem e22 : EvR 22 36 := ev_grp 22 7 16173589 10 (c := 70) (by (iterate 70 refine Chk.succ ?_ (by decide +kernel)); exact Chk.zero _) rfl (by decide +kernel) rfl (by decide) (by decide) rfl
set_option maxHeartbeats 16000000 in
theorem e36 : EvR 36 58 := ev_grp 36 11 15788086 8 (c := 88) (by (iterate 88 refine Chk.succ ?_ (by decide +kernel)); exact Chk.zero _) rfl (by decide +kernel) rfl (by decide) (by decide) rfl
set_option maxHeartbeats 16000000 in
theorem e58 : EvR 58 90 := ev_grp 58 16 16548982 6 (c := 96) (by (iterate 96 refine Chk.succ ?_ (by decide +kernel)); exact Chk.zero _) rfl (by decide +kernel) rfl (by decide) (by decide) rfl
set_option maxHeartbeats 16000000 in
theorem e90 : EvR 90 130 := ev_grp 90 20 15873065 5 (c := 100) (by (iterate 100 refine Chk.succ ?_ (by decide +kernel)); exact Chk.zero _) rfl (by decide +kernel) rfl (by decide) (by decide) rfl
theorem E_0 : EvR 2 130 := (e2.trans (e4.trans (e8.trans (e14.trans (e22.trans (e36.trans (e58.trans e90)))))))
end Go.Psi
