/-
  The kernel's runs: odd v from 133 to 283.
-/
import Derived.Test.YtpdgalclnlbeaaaDoorPsC
namespace Go.Psi
set_option maxHeartbeats 16000000 in
theorem o133 : OddR 133 141 := odd_grp 133 4 3 24 (c := 96) (by (iterate 96 refine Chk.succ ?_ (by decide +kernel)); exact Chk.zero _) rfl (by decide +kernel) rfl (by decide) (by decide) rfl
set_option maxHeartbeats 16000000 in
theorem o141 : OddR 141 149 := odd_grp 141 4 3 25 (c := 100) (by (iterate 100 refine Chk.succ ?_ (by decide +kernel)); exact Chk.zero _) rfl (by decide +kernel) rfl (by decide) (by decide) rfl
set_option maxHeartbeats 16000000 in
theorem o149 : OddR 149 155 := odd_grp 149 3 3 26 (c := 78) (by (iterate 78 refine Chk.succ ?_ (by decide +kernel)); exact Chk.zero _) rfl (by decide +kernel) rfl (by decide) (by decide) rfl
set_option maxHeartbeats 16000000 in
theorem o155 : OddR 155 161 := odd_grp 155 3 3 27 (c := 81) (by (iterate 81 refine Chk.succ ?_ (by decide +kernel)); exact Chk.zero _) rfl (by decide +kernel) rfl (by decide) (by decide) rfl
set_option maxHeartbeats 16000000 in
theorem o161 : OddR 161 167 := odd_grp 161 3 3 28 (c := 84) (by (iterate 84 refine Chk.succ ?_ (by decide +kernel)); exact Chk.zero _) rfl (by decide +kernel) rfl (by decide) (by decide) rfl
set_option maxHeartbeats 16000000 in
theorem o167 : OddR 167 173 := odd_grp 167 3 3 29 (c := 87) (by (iterate 87 refine Chk.succ ?_ (by decide +kernel)); exact Chk.zero _) rfl (by decide +kernel) rfl (by decide) (by decide) rfl
set_option maxHeartbeats 16000000 in
theorem o173 : OddR 173 179 := odd_grp 173 3 3 30 (c := 90) (by (iterate 90 refine Chk.succ ?_ (by decide +kernel)); exact Chk.zero _) rfl (by decide +kernel) rfl (by decide) (by decide) rfl
set_option maxHeartbeats 16000000 in
theorem o179 : OddR 179 185 := odd_grp 179 3 3 31 (c := 93) (by (iterate 93 refine Chk.succ ?_ (by decide +kernel)); exact Chk.zero _) rfl (by decide +kernel) rfl (by decide) (by decide) rfl
set_option maxHeartbeats 16000000 in
theorem o185 : OddR 185 191 := odd_grp 185 3 3 32 (c := 96) (by (iterate 96 refine Chk.succ ?_ (by decide +kernel)); exact Chk.zero _) rfl (by decide +kernel) rfl (by decide) (by decide) rfl
set_option maxHeartbeats 16000000 in
theorem o191 : OddR 191 197 := odd_grp 191 3 3 33 (c := 99) (by (iterate 99 refine Chk.succ ?_ (by decide +kernel)); exact Chk.zero _) rfl (by decide +kernel) rfl (by decide) (by decide) rfl
set_option maxHeartbeats 16000000 in
theorem o197 : OddR 197 201 := odd_grp 197 2 3 34 (c := 68) (by (iterate 68 refine Chk.succ ?_ (by decide +kernel)); exact Chk.zero _) rfl (by decide +kernel) rfl (by decide) (by decide) rfl
set_option maxHeartbeats 16000000 in
theorem o201 : OddR 201 205 := odd_grp 201 2 3 34 (c := 68) (by (iterate 68 refine Chk.succ ?_ (by decide +kernel)); exact Chk.zero _) rfl (by decide +kernel) rfl (by decide) (by decide) rfl
set_option maxHeartbeats 16000000 in
theorem o205 : OddR 205 209 := odd_grp 205 2 3 35 (c := 70) (by (iterate 70 refine Chk.succ ?_ (by decide +kernel)); exact Chk.zero _) rfl (by decide +kernel) rfl (by decide) (by decide) rfl
set_option maxHeartbeats 16000000 in
theorem o209 : OddR 209 213 := odd_grp 209 2 3 36 (c := 72) (by (iterate 72 refine Chk.succ ?_ (by decide +kernel)); exact Chk.zero _) rfl (by decide +kernel) rfl (by decide) (by decide) rfl
set_option maxHeartbeats 16000000 in
theorem o213 : OddR 213 217 := odd_grp 213 2 3 36 (c := 72) (by (iterate 72 refine Chk.succ ?_ (by decide +kernel)); exact Chk.zero _) rfl (by decide +kernel) rfl (by decide) (by decide) rfl
set_option maxHeartbeats 16000000 in
theorem o217 : OddR 217 221 := odd_grp 217 2 3 37 (c := 74) (by (iterate 74 refine Chk.succ ?_ (by decide +kernel)); exact Chk.zero _) rfl (by decide +kernel) rfl (by decide) (by decide) rfl
set_option maxHeartbeats 16000000 in
theorem o221 : OddR 221 225 := odd_grp 221 2 3 38 (c := 76) (by (iterate 76 refine Chk.succ ?_ (by decide +kernel)); exact Chk.zero _) rfl (by decide +kernel) rfl (by decide) (by decide) rfl
set_option maxHeartbeats 16000000 in
theorem o225 : OddR 225 229 := odd_grp 225 2 3 38 (c := 76) (by (iterate 76 refine Chk.succ ?_ (by decide +kernel)); exact Chk.zero _) rfl (by decide +kernel) rfl (by decide) (by decide) rfl
set_option maxHeartbeats 16000000 in
theorem o229 : OddR 229 233 := odd_grp 229 2 3 39 (c := 78) (by (iterate 78 refine Chk.succ ?_ (by decide +kernel)); exact Chk.zero _) rfl (by decide +kernel) rfl (by decide) (by decide) rfl
set_option maxHeartbeats 16000000 in
theorem o233 : OddR 233 237 := odd_grp 233 2 3 40 (c := 80) (by (iterate 80 refine Chk.succ ?_ (by decide +kernel)); exact Chk.zero _) rfl (by decide +kernel) rfl (by decide) (by decide) rfl
set_option maxHeartbeats 16000000 in
theorem o237 : OddR 237 241 := odd_grp 237 2 3 40 (c := 80) (by (iterate 80 refine Chk.succ ?_ (by decide +kernel)); exact Chk.zero _) rfl (by decide +kernel) rfl (by decide) (by decide) rfl
set_option maxHeartbeats 16000000 in
theorem o241 : OddR 241 245 := odd_grp 241 2 3 41 (c := 82) (by (iterate 82 refine Chk.succ ?_ (by decide +kernel)); exact Chk.zero _) rfl (by decide +kernel) rfl (by decide) (by decide) rfl
set_option maxHeartbeats 16000000 in
theorem o245 : OddR 245 249 := odd_grp 245 2 3 42 (c := 84) (by (iterate 84 refine Chk.succ ?_ (by decide +kernel)); exact Chk.zero _) rfl (by decide +kernel) rfl (by decide) (by decide) rfl
set_option maxHeartbeats 16000000 in
theorem o249 : OddR 249 251 := odd_grp 249 1 3 42 (c := 42) (by (iterate 42 refine Chk.succ ?_ (by decide +kernel)); exact Chk.zero _) rfl (by decide +kernel) rfl (by decide) (by decide) rfl
set_option maxHeartbeats 16000000 in
theorem o251 : OddR 251 259 := odd_grp 251 4 6 22 (c := 88) (by (iterate 88 refine Chk.succ ?_ (by decide +kernel)); exact Chk.zero _) rfl (by decide +kernel) rfl (by decide) (by decide) rfl
set_option maxHeartbeats 16000000 in
theorem o259 : OddR 259 267 := odd_grp 259 4 6 23 (c := 92) (by (iterate 92 refine Chk.succ ?_ (by decide +kernel)); exact Chk.zero _) rfl (by decide +kernel) rfl (by decide) (by decide) rfl
set_option maxHeartbeats 16000000 in
theorem o267 : OddR 267 275 := odd_grp 267 4 6 23 (c := 92) (by (iterate 92 refine Chk.succ ?_ (by decide +kernel)); exact Chk.zero _) rfl (by decide +kernel) rfl (by decide) (by decide) rfl
set_option maxHeartbeats 16000000 in
theorem o275 : OddR 275 283 := odd_grp 275 4 6 24 (c := 96) (by (iterate 96 refine Chk.succ ?_ (by decide +kernel)); exact Chk.zero _) rfl (by decide +kernel) rfl (by decide) (by decide) rfl
theorem O_1 : OddR 133 283 := (o133.trans (o141.trans (o149.trans (o155.trans (o161.trans (o167.trans (o173.trans (o179.trans (o185.trans (o191.trans (o197.trans (o201.trans (o205.trans (o209.trans (o213.trans (o217.trans (o221.trans (o225.trans (o229.trans (o233.trans (o237.trans (o241.trans (o245.trans (o249.trans (o251.trans (o259.trans (o267.trans o275)))))))))))))))))))))))))))
end Go.Psi

/-! The kernel's runs: even k from 130 to 528. -/
namespace Go.Psi
set_option maxHeartbeats 16000000 in
theorem e130 : EvR 130 180 := ev_grp 130 25 16412106 4 (c := 100) (by (iterate 100 refine Chk.succ ?_ (by decide +kernel)); exact Chk.zero _) rfl (by decide +kernel) rfl (by decide) (by decide) rfl
set_option maxHeartbeats 16000000 in
theorem e180 : EvR 180 230 := ev_grp 180 25 13816303 4 (c := 100) (by (iterate 100 refine Chk.succ ?_ (by decide +kernel)); exact Chk.zero _) rfl (by decide +kernel) rfl (by decide) (by decide) rfl
set_option maxHeartbeats 16000000 in
theorem e230 : EvR 230 296 := ev_grp 230 33 16127950 3 (c := 99) (by (iterate 99 refine Chk.succ ?_ (by decide +kernel)); exact Chk.zero _) rfl (by decide +kernel) rfl (by decide) (by decide) rfl
set_option maxHeartbeats 16000000 in
theorem e296 : EvR 296 362 := ev_grp 296 33 14094472 3 (c := 99) (by (iterate 99 refine Chk.succ ?_ (by decide +kernel)); exact Chk.zero _) rfl (by decide +kernel) rfl (by decide) (by decide) rfl
set_option maxHeartbeats 16000000 in
theorem e362 : EvR 362 428 := ev_grp 362 33 12539950 3 (c := 99) (by (iterate 99 refine Chk.succ ?_ (by decide +kernel)); exact Chk.zero _) rfl (by decide +kernel) rfl (by decide) (by decide) rfl
set_option maxHeartbeats 16000000 in
theorem e428 : EvR 428 528 := ev_grp 428 50 16941590 2 (c := 100) (by (iterate 100 refine Chk.succ ?_ (by decide +kernel)); exact Chk.zero _) rfl (by decide +kernel) rfl (by decide) (by decide) rfl
theorem E_1 : EvR 130 528 := (e130.trans (e180.trans (e230.trans (e296.trans (e362.trans e428)))))
end Go.Psi
