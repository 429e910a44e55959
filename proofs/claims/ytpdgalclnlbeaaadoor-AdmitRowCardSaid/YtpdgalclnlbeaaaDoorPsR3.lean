/-
  The kernel's runs: odd v from 283 to 539.
-/
import Derived.Test.YtpdgalclnlbeaaaDoorPsC
namespace Go.Psi
set_option maxHeartbeats 16000000 in
theorem o283 : OddR 283 291 := odd_grp 283 4 6 25 (c := 100) (by (iterate 100 refine Chk.succ ?_ (by decide +kernel)); exact Chk.zero _) rfl (by decide +kernel) rfl (by decide) (by decide) rfl
set_option maxHeartbeats 16000000 in
theorem o291 : OddR 291 299 := odd_grp 291 4 6 25 (c := 100) (by (iterate 100 refine Chk.succ ?_ (by decide +kernel)); exact Chk.zero _) rfl (by decide +kernel) rfl (by decide) (by decide) rfl
set_option maxHeartbeats 16000000 in
theorem o299 : OddR 299 305 := odd_grp 299 3 6 26 (c := 78) (by (iterate 78 refine Chk.succ ?_ (by decide +kernel)); exact Chk.zero _) rfl (by decide +kernel) rfl (by decide) (by decide) rfl
set_option maxHeartbeats 16000000 in
theorem o305 : OddR 305 311 := odd_grp 305 3 6 26 (c := 78) (by (iterate 78 refine Chk.succ ?_ (by decide +kernel)); exact Chk.zero _) rfl (by decide +kernel) rfl (by decide) (by decide) rfl
set_option maxHeartbeats 16000000 in
theorem o311 : OddR 311 317 := odd_grp 311 3 6 27 (c := 81) (by (iterate 81 refine Chk.succ ?_ (by decide +kernel)); exact Chk.zero _) rfl (by decide +kernel) rfl (by decide) (by decide) rfl
set_option maxHeartbeats 16000000 in
theorem o317 : OddR 317 323 := odd_grp 317 3 6 27 (c := 81) (by (iterate 81 refine Chk.succ ?_ (by decide +kernel)); exact Chk.zero _) rfl (by decide +kernel) rfl (by decide) (by decide) rfl
set_option maxHeartbeats 16000000 in
theorem o323 : OddR 323 329 := odd_grp 323 3 6 28 (c := 84) (by (iterate 84 refine Chk.succ ?_ (by decide +kernel)); exact Chk.zero _) rfl (by decide +kernel) rfl (by decide) (by decide) rfl
set_option maxHeartbeats 16000000 in
theorem o329 : OddR 329 335 := odd_grp 329 3 6 28 (c := 84) (by (iterate 84 refine Chk.succ ?_ (by decide +kernel)); exact Chk.zero _) rfl (by decide +kernel) rfl (by decide) (by decide) rfl
set_option maxHeartbeats 16000000 in
theorem o335 : OddR 335 341 := odd_grp 335 3 6 28 (c := 84) (by (iterate 84 refine Chk.succ ?_ (by decide +kernel)); exact Chk.zero _) rfl (by decide +kernel) rfl (by decide) (by decide) rfl
set_option maxHeartbeats 16000000 in
theorem o341 : OddR 341 347 := odd_grp 341 3 6 27 (c := 81) (by (iterate 81 refine Chk.succ ?_ (by decide +kernel)); exact Chk.zero _) rfl (by decide +kernel) rfl (by decide) (by decide) rfl
set_option maxHeartbeats 16000000 in
theorem o347 : OddR 347 353 := odd_grp 347 3 6 27 (c := 81) (by (iterate 81 refine Chk.succ ?_ (by decide +kernel)); exact Chk.zero _) rfl (by decide +kernel) rfl (by decide) (by decide) rfl
set_option maxHeartbeats 16000000 in
theorem o353 : OddR 353 359 := odd_grp 353 3 6 27 (c := 81) (by (iterate 81 refine Chk.succ ?_ (by decide +kernel)); exact Chk.zero _) rfl (by decide +kernel) rfl (by decide) (by decide) rfl
set_option maxHeartbeats 16000000 in
theorem o359 : OddR 359 365 := odd_grp 359 3 6 26 (c := 78) (by (iterate 78 refine Chk.succ ?_ (by decide +kernel)); exact Chk.zero _) rfl (by decide +kernel) rfl (by decide) (by decide) rfl
set_option maxHeartbeats 16000000 in
theorem o365 : OddR 365 371 := odd_grp 365 3 6 26 (c := 78) (by (iterate 78 refine Chk.succ ?_ (by decide +kernel)); exact Chk.zero _) rfl (by decide +kernel) rfl (by decide) (by decide) rfl
set_option maxHeartbeats 16000000 in
theorem o371 : OddR 371 377 := odd_grp 371 3 6 25 (c := 75) (by (iterate 75 refine Chk.succ ?_ (by decide +kernel)); exact Chk.zero _) rfl (by decide +kernel) rfl (by decide) (by decide) rfl
set_option maxHeartbeats 16000000 in
theorem o377 : OddR 377 387 := odd_grp 377 5 6 20 (c := 100) (by (iterate 100 refine Chk.succ ?_ (by decide +kernel)); exact Chk.zero _) rfl (by decide +kernel) rfl (by decide) (by decide) rfl
set_option maxHeartbeats 16000000 in
theorem o387 : OddR 387 397 := odd_grp 387 5 6 20 (c := 100) (by (iterate 100 refine Chk.succ ?_ (by decide +kernel)); exact Chk.zero _) rfl (by decide +kernel) rfl (by decide) (by decide) rfl
set_option maxHeartbeats 16000000 in
theorem o397 : OddR 397 407 := odd_grp 397 5 6 19 (c := 95) (by (iterate 95 refine Chk.succ ?_ (by decide +kernel)); exact Chk.zero _) rfl (by decide +kernel) rfl (by decide) (by decide) rfl
set_option maxHeartbeats 16000000 in
theorem o407 : OddR 407 417 := odd_grp 407 5 6 19 (c := 95) (by (iterate 95 refine Chk.succ ?_ (by decide +kernel)); exact Chk.zero _) rfl (by decide +kernel) rfl (by decide) (by decide) rfl
set_option maxHeartbeats 16000000 in
theorem o417 : OddR 417 427 := odd_grp 417 5 6 19 (c := 95) (by (iterate 95 refine Chk.succ ?_ (by decide +kernel)); exact Chk.zero _) rfl (by decide +kernel) rfl (by decide) (by decide) rfl
set_option maxHeartbeats 16000000 in
theorem o427 : OddR 427 439 := odd_grp 427 6 6 15 (c := 90) (by (iterate 90 refine Chk.succ ?_ (by decide +kernel)); exact Chk.zero _) rfl (by decide +kernel) rfl (by decide) (by decide) rfl
set_option maxHeartbeats 16000000 in
theorem o439 : OddR 439 453 := odd_grp 439 7 6 14 (c := 98) (by (iterate 98 refine Chk.succ ?_ (by decide +kernel)); exact Chk.zero _) rfl (by decide +kernel) rfl (by decide) (by decide) rfl
set_option maxHeartbeats 16000000 in
theorem o453 : OddR 453 467 := odd_grp 453 7 6 14 (c := 98) (by (iterate 98 refine Chk.succ ?_ (by decide +kernel)); exact Chk.zero _) rfl (by decide +kernel) rfl (by decide) (by decide) rfl
set_option maxHeartbeats 16000000 in
theorem o467 : OddR 467 481 := odd_grp 467 7 6 13 (c := 91) (by (iterate 91 refine Chk.succ ?_ (by decide +kernel)); exact Chk.zero _) rfl (by decide +kernel) rfl (by decide) (by decide) rfl
set_option maxHeartbeats 16000000 in
theorem o481 : OddR 481 499 := odd_grp 481 9 6 11 (c := 99) (by (iterate 99 refine Chk.succ ?_ (by decide +kernel)); exact Chk.zero _) rfl (by decide +kernel) rfl (by decide) (by decide) rfl
set_option maxHeartbeats 16000000 in
theorem o499 : OddR 499 519 := odd_grp 499 10 6 10 (c := 100) (by (iterate 100 refine Chk.succ ?_ (by decide +kernel)); exact Chk.zero _) rfl (by decide +kernel) rfl (by decide) (by decide) rfl
set_option maxHeartbeats 16000000 in
theorem o519 : OddR 519 539 := odd_grp 519 10 6 10 (c := 100) (by (iterate 100 refine Chk.succ ?_ (by decide +kernel)); exact Chk.zero _) rfl (by decide +kernel) rfl (by decide) (by decide) rfl
theorem O_2 : OddR 283 539 := (o283.trans (o291.trans (o299.trans (o305.trans (o311.trans (o317.trans (o323.trans (o329.trans (o335.trans (o341.trans (o347.trans (o353.trans (o359.trans (o365.trans (o371.trans (o377.trans (o387.trans (o397.trans (o407.trans (o417.trans (o427.trans (o439.trans (o453.trans (o467.trans (o481.trans (o499.trans o519))))))))))))))))))))))))))
end Go.Psi

/-! The kernel's runs: even k from 528 to 1200. -/
namespace Go.Psi
set_option maxHeartbeats 16000000 in
theorem e528 : EvR 528 628 := ev_grp 528 50 14965320 2 (c := 100) (by (iterate 100 refine Chk.succ ?_ (by decide +kernel)); exact Chk.zero _) rfl (by decide +kernel) rfl (by decide) (by decide) rfl
set_option maxHeartbeats 16000000 in
theorem e628 : EvR 628 700 := ev_grp 628 36 13247448 2 (c := 72) (by (iterate 72 refine Chk.succ ?_ (by decide +kernel)); exact Chk.zero _) rfl (by decide +kernel) rfl (by decide) (by decide) rfl
set_option maxHeartbeats 16000000 in
theorem e700 : EvR 700 800 := ev_all 700 50 (by (iterate 50 refine Chk.succ ?_ (by decide +kernel)); exact Chk.zero _) rfl rfl
set_option maxHeartbeats 16000000 in
theorem e800 : EvR 800 900 := ev_all 800 50 (by (iterate 50 refine Chk.succ ?_ (by decide +kernel)); exact Chk.zero _) rfl rfl
set_option maxHeartbeats 16000000 in
theorem e900 : EvR 900 1000 := ev_all 900 50 (by (iterate 50 refine Chk.succ ?_ (by decide +kernel)); exact Chk.zero _) rfl rfl
set_option maxHeartbeats 16000000 in
theorem e1000 : EvR 1000 1100 := ev_all 1000 50 (by (iterate 50 refine Chk.succ ?_ (by decide +kernel)); exact Chk.zero _) rfl rfl
set_option maxHeartbeats 16000000 in
theorem e1100 : EvR 1100 1200 := ev_all 1100 50 (by (iterate 50 refine Chk.succ ?_ (by decide +kernel)); exact Chk.zero _) rfl rfl
theorem E_2 : EvR 528 1200 := (e528.trans (e628.trans (e700.trans (e800.trans (e900.trans (e1000.trans e1100))))))
end Go.Psi
