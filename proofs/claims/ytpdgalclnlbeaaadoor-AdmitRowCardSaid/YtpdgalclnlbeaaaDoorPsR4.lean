/-
  The kernel's runs: half of p1 from 204000 to 660600.
-/
import Derived.Test.YtpdgalclnlbeaaaDoorPsC
namespace Go.Psi
set_option maxHeartbeats 16000000 in
theorem b204000 : BigR 204000 210000 := big_of 204000 60 100 (by decide) (by (iterate 100 refine Chk.succ ?_ (by decide +kernel)); exact Chk.zero _)
set_option maxHeartbeats 16000000 in
theorem b210000 : BigR 210000 216000 := big_of 210000 60 100 (by decide) (by (iterate 100 refine Chk.succ ?_ (by decide +kernel)); exact Chk.zero _)
set_option maxHeartbeats 16000000 in
theorem b216000 : BigR 216000 222000 := big_of 216000 60 100 (by decide) (by (iterate 100 refine Chk.succ ?_ (by decide +kernel)); exact Chk.zero _)
set_option maxHeartbeats 16000000 in
theorem b222000 : BigR 222000 228000 := big_of 222000 60 100 (by decide) (by (iterate 100 refine Chk.succ ?_ (by decide +kernel)); exact Chk.zero _)
set_option maxHeartbeats 16000000 in
theorem b228000 : BigR 228000 234000 := big_of 228000 60 100 (by decide) (by (iterate 100 refine Chk.succ ?_ (by decide +kernel)); exact Chk.zero _)
set_option maxHeartbeats 16000000 in
theorem b234000 : BigR 234000 240000 := big_of 234000 60 100 (by decide) (by (iterate 100 refine Chk.succ ?_ (by decide +kernel)); exact Chk.zero _)
set_option maxHeartbeats 16000000 in
theorem b240000 : BigR 240000 246000 := big_of 240000 60 100 (by decide) (by (iterate 100 refine Chk.succ ?_ (by decide +kernel)); exact Chk.zero _)
set_option maxHeartbeats 16000000 in
theorem b246000 : BigR 246000 252000 := big_of 246000 60 100 (by decide) (by (iterate 100 refine Chk.succ ?_ (by decide +kernel)); exact Chk.zero _)
set_option maxHeartbeats 16000000 in
theorem b252000 : BigR 252000 258000 := big_of 252000 60 100 (by decide) (by (iterate 100 refine Chk.succ ?_ (by decide +kernel)); exact Chk.zero _)
set_option maxHeartbeats 16000000 in
theorem b258000 : BigR 258000 264000 := big_of 258000 60 100 (by decide) (by (iterate 100 refine Chk.succ ?_ (by decide +kernel)); exact Chk.zero _)
set_option maxHeartbeats 16000000 in
theorem b264000 : BigR 264000 270000 := big_of 264000 60 100 (by decide) (by (iterate 100 refine Chk.succ ?_ (by decide +kernel)); exact Chk.zero _)
set_option maxHeartbeats 16000000 in
theorem b270000 : BigR 270000 276000 := big_of 270000 60 100 (by decide) (by (iterate 100 refine Chk.succ ?_ (by decide +kernel)); exact Chk.zero _)
set_option maxHeartbeats 16000000 in
theorem b276000 : BigR 276000 282000 := big_of 276000 60 100 (by decide) (by (iterate 100 refine Chk.succ ?_ (by decide +kernel)); exact Chk.zero _)
set_option maxHeartbeats 16000000 in
theorem b282000 : BigR 282000 288000 := big_of 282000 60 100 (by decide) (by (iterate 100 refine Chk.succ ?_ (by decide +kernel)); exact Chk.zero _)
set_option maxHeartbeats 16000000 in
theorem b288000 : BigR 288000 294000 := big_of 288000 60 100 (by decide) (by (iterate 100 refine Chk.succ ?_ (by decide +kernel)); exact Chk.zero _)
set_option maxHeartbeats 16000000 in
theorem b294000 : BigR 294000 300000 := big_of 294000 60 100 (by decide) (by (iterate 100 refine Chk.succ ?_ (by decide +kernel)); exact Chk.zero _)
set_option maxHeartbeats 16000000 in
theorem b300000 : BigR 300000 306000 := big_of 300000 60 100 (by decide) (by (iterate 100 refine Chk.succ ?_ (by decide +kernel)); exact Chk.zero _)
set_option maxHeartbeats 16000000 in
theorem b306000 : BigR 306000 312000 := big_of 306000 60 100 (by decide) (by (iterate 100 refine Chk.succ ?_ (by decide +kernel)); exact Chk.zero _)
set_option maxHeartbeats 16000000 in
theorem b312000 : BigR 312000 318000 := big_of 312000 60 100 (by decide) (by (iterate 100 refine Chk.succ ?_ (by decide +kernel)); exact Chk.zero _)
set_option maxHeartbeats 16000000 in
theorem b318000 : BigR 318000 324000 := big_of 318000 60 100 (by decide) (by (iterate 100 refine Chk.succ ?_ (by decide +kernel)); exact Chk.zero _)
set_option maxHeartbeats 16000000 in
theorem b324000 : BigR 324000 330000 := big_of 324000 60 100 (by decide) (by (iterate 100 refine Chk.succ ?_ (by decide +kernel)); exact Chk.zero _)
set_option maxHeartbeats 16000000 in
theorem b330000 : BigR 330000 340000 := big_of 330000 100 100 (by decide) (by (iterate 100 refine Chk.succ ?_ (by decide +kernel)); exact Chk.zero _)
set_option maxHeartbeats 16000000 in
theorem b340000 : BigR 340000 350000 := big_of 340000 100 100 (by decide) (by (iterate 100 refine Chk.succ ?_ (by decide +kernel)); exact Chk.zero _)
set_option maxHeartbeats 16000000 in
theorem b350000 : BigR 350000 360000 := big_of 350000 100 100 (by decide) (by (iterate 100 refine Chk.succ ?_ (by decide +kernel)); exact Chk.zero _)
set_option maxHeartbeats 16000000 in
theorem b360000 : BigR 360000 370000 := big_of 360000 100 100 (by decide) (by (iterate 100 refine Chk.succ ?_ (by decide +kernel)); exact Chk.zero _)
set_option maxHeartbeats 16000000 in
theorem b370000 : BigR 370000 380000 := big_of 370000 100 100 (by decide) (by (iterate 100 refine Chk.succ ?_ (by decide +kernel)); exact Chk.zero _)
set_option maxHeartbeats 16000000 in
theorem b380000 : BigR 380000 390000 := big_of 380000 100 100 (by decide) (by (iterate 100 refine Chk.succ ?_ (by decide +kernel)); exact Chk.zero _)
set_option maxHeartbeats 16000000 in
theorem b390000 : BigR 390000 400000 := big_of 390000 100 100 (by decide) (by (iterate 100 refine Chk.succ ?_ (by decide +kernel)); exact Chk.zero _)
set_option maxHeartbeats 16000000 in
theorem b400000 : BigR 400000 410000 := big_of 400000 100 100 (by decide) (by (iterate 100 refine Chk.succ ?_ (by decide +kernel)); exact Chk.zero _)
set_option maxHeartbeats 16000000 in
theorem b410000 : BigR 410000 420000 := big_of 410000 100 100 (by decide) (by (iterate 100 refine Chk.succ ?_ (by decide +kernel)); exact Chk.zero _)
set_option maxHeartbeats 16000000 in
theorem b420000 : BigR 420000 430000 := big_of 420000 100 100 (by decide) (by (iterate 100 refine Chk.succ ?_ (by decide +kernel)); exact Chk.zero _)
set_option maxHeartbeats 16000000 in
theorem b430000 : BigR 430000 440000 := big_of 430000 100 100 (by decide) (by (iterate 100 refine Chk.succ ?_ (by decide +kernel)); exact Chk.zero _)
set_option maxHeartbeats 16000000 in
theorem b440000 : BigR 440000 450000 := big_of 440000 100 100 (by decide) (by (iterate 100 refine Chk.succ ?_ (by decide +kernel)); exact Chk.zero _)
set_option maxHeartbeats 16000000 in
theorem b450000 : BigR 450000 460000 := big_of 450000 100 100 (by decide) (by (iterate 100 refine Chk.succ ?_ (by decide +kernel)); exact Chk.zero _)
set_option maxHeartbeats 16000000 in
theorem b460000 : BigR 460000 470000 := big_of 460000 100 100 (by decide) (by (iterate 100 refine Chk.succ ?_ (by decide +kernel)); exact Chk.zero _)
set_option maxHeartbeats 16000000 in
theorem b470000 : BigR 470000 480000 := big_of 470000 100 100 (by decide) (by (iterate 100 refine Chk.succ ?_ (by decide +kernel)); exact Chk.zero _)
set_option maxHeartbeats 16000000 in
theorem b480000 : BigR 480000 490000 := big_of 480000 100 100 (by decide) (by (iterate 100 refine Chk.succ ?_ (by decide +kernel)); exact Chk.zero _)
set_option maxHeartbeats 16000000 in
theorem b490000 : BigR 490000 500000 := big_of 490000 100 100 (by decide) (by (iterate 100 refine Chk.succ ?_ (by decide +kernel)); exact Chk.zero _)
set_option maxHeartbeats 16000000 in
theorem b500000 : BigR 500000 510000 := big_of 500000 100 100 (by decide) (by (iterate 100 refine Chk.succ ?_ (by decide +kernel)); exact Chk.zero _)
set_option maxHeartbeats 16000000 in
theorem b510000 : BigR 510000 520000 := big_of 510000 100 100 (by decide) (by (iterate 100 refine Chk.succ ?_ (by decide +kernel)); exact Chk.zero _)
set_option maxHeartbeats 16000000 in
theorem b520000 : BigR 520000 530000 := big_of 520000 100 100 (by decide) (by (iterate 100 refine Chk.succ ?_ (by decide +kernel)); exact Chk.zero _)
set_option maxHeartbeats 16000000 in
theorem b530000 : BigR 530000 540000 := big_of 530000 100 100 (by decide) (by (iterate 100 refine Chk.succ ?_ (by decide +kernel)); exact Chk.zero _)
set_option maxHeartbeats 16000000 in
theorem b540000 : BigR 540000 550000 := big_of 540000 100 100 (by decide) (by (iterate 100 refine Chk.succ ?_ (by decide +kernel)); exact Chk.zero _)
set_option maxHeartbeats 16000000 in
theorem b550000 : BigR 550000 560000 := big_of 550000 100 100 (by decide) (by (iterate 100 refine Chk.succ ?_ (by decide +kernel)); exact Chk.zero _)
set_option maxHeartbeats 16000000 in
theorem b560000 : BigR 560000 570000 := big_of 560000 100 100 (by decide) (by (iterate 100 refine Chk.succ ?_ (by decide +kernel)); exact Chk.zero _)
set_option maxHeartbeats 16000000 in
theorem b570000 : BigR 570000 580000 := big_of 570000 100 100 (by decide) (by (iterate 100 refine Chk.succ ?_ (by decide +kernel)); exact Chk.zero _)
set_option maxHeartbeats 16000000 in
theorem b580000 : BigR 580000 590000 := big_of 580000 100 100 (by decide) (by (iterate 100 refine Chk.succ ?_ (by decide +kernel)); exact Chk.zero _)
set_option maxHeartbeats 16000000 in
theorem b590000 : BigR 590000 600000 := big_of 590000 100 100 (by decide) (by (iterate 100 refine Chk.succ ?_ (by decide +kernel)); exact Chk.zero _)
set_option maxHeartbeats 16000000 in
theorem b600000 : BigR 600000 610000 := big_of 600000 100 100 (by decide) (by (iterate 100 refine Chk.succ ?_ (by decide +kernel)); exact Chk.zero _)
set_option maxHeartbeats 16000000 in
theorem b610000 : BigR 610000 620000 := big_of 610000 100 100 (by decide) (by (iterate 100 refine Chk.succ ?_ (by decide +kernel)); exact Chk.zero _)
set_option maxHeartbeats 16000000 in
theorem b620000 : BigR 620000 630000 := big_of 620000 100 100 (by decide) (by (iterate 100 refine Chk.succ ?_ (by decide +kernel)); exact Chk.zero _)
set_option maxHeartbeats 16000000 in
theorem b630000 : BigR 630000 640000 := big_of 630000 100 100 (by decide) (by (iterate 100 refine Chk.succ ?_ (by decide +kernel)); exact Chk.zero _)
set_option maxHeartbeats 16000000 in
theorem b640000 : BigR 640000 650000 := big_of 640000 100 100 (by decide) (by (iterate 100 refine Chk.succ ?_ (by decide +kernel)); exact Chk.zero _)
set_option maxHeartbeats 16000000 in
theorem b650000 : BigR 650000 660000 := big_of 650000 100 100 (by decide) (by (iterate 100 refine Chk.succ ?_ (by decide +kernel)); exact Chk.zero _)
set_option maxHeartbeats 16000000 in
theorem b660000 : BigR 660000 660600 := big_of 660000 100 6 (by decide) (by (iterate 6 refine Chk.succ ?_ (by decide +kernel)); exact Chk.zero _)
theorem B_4 : BigR 204000 660600 := (b204000.trans (b210000.trans (b216000.trans (b222000.trans (b228000.trans (b234000.trans (b240000.trans (b246000.trans (b252000.trans (b258000.trans (b264000.trans (b270000.trans (b276000.trans (b282000.trans (b288000.trans (b294000.trans (b300000.trans (b306000.trans (b312000.trans (b318000.trans (b324000.trans (b330000.trans (b340000.trans (b350000.trans (b360000.trans (b370000.trans (b380000.trans (b390000.trans (b400000.trans (b410000.trans (b420000.trans (b430000.trans (b440000.trans (b450000.trans (b460000.trans (b470000.trans (b480000.trans (b490000.trans (b500000.trans (b510000.trans (b520000.trans (b530000.trans (b540000.trans (b550000.trans (b560000.trans (b570000.trans (b580000.trans (b590000.trans (b600000.trans (b610000.trans (b620000.trans (b630000.trans (b640000.trans (b650000.trans b660000))))))))))))))))))))))))))))))))))))))))))))))))))))))
end Go.Psi

/-! The kernel's runs: even k from 1200 to 3314. -/
namespace Go.Psi
set_option maxHeartbeats 16000000 in
theorem e1200 : EvR 1200 1300 := ev_all 1200 50 (by (iterate 50 refine Chk.succ ?_ (by decide +kernel)); exact Chk.zero _) rfl rfl
set_option maxHeartbeats 16000000 in
theorem e1300 : EvR 1300 1400 := ev_all 1300 50 (by (iterate 50 refine Chk.succ ?_ (by decide +kernel)); exact Chk.zero _) rfl rfl
set_option maxHeartbeats 16000000 in
theorem e1400 : EvR 1400 1500 := ev_all 1400 50 (by (iterate 50 refine Chk.succ ?_ (by decide +kernel)); exact Chk.zero _) rfl rfl
set_option maxHeartbeats 16000000 in
theorem e1500 : EvR 1500 1600 := ev_all 1500 50 (by (iterate 50 refine Chk.succ ?_ (by decide +kernel)); exact Chk.zero _) rfl rfl
set_option maxHeartbeats 16000000 in
theorem e1600 : EvR 1600 1700 := ev_all 1600 50 (by (iterate 50 refine Chk.succ ?_ (by decide +kernel)); exact Chk.zero _) rfl rfl
set_option maxHeartbeats 16000000 in
theorem e1700 : EvR 1700 1800 := ev_all 1700 50 (by (iterate 50 refine Chk.succ ?_ (by decide +kernel)); exact Chk.zero _) rfl rfl
set_option maxHeartbeats 16000000 in
theorem e1800 : EvR 1800 1900 := ev_all 1800 50 (by (iterate 50 refine Chk.succ ?_ (by decide +kernel)); exact Chk.zero _) rfl rfl
set_option maxHeartbeats 16000000 in
theorem e1900 : EvR 1900 2000 := ev_all 1900 50 (by (iterate 50 refine Chk.succ ?_ (by decide +kernel)); exact Chk.zero _) rfl rfl
set_option maxHeartbeats 16000000 in
theorem e2000 : EvR 2000 2100 := ev_all 2000 50 (by (iterate 50 refine Chk.succ ?_ (by decide +kernel)); exact Chk.zero _) rfl rfl
set_option maxHeartbeats 16000000 in
theorem e2100 : EvR 2100 2200 := ev_all 2100 50 (by (iterate 50 refine Chk.succ ?_ (by decide +kernel)); exact Chk.zero _) rfl rfl
set_option maxHeartbeats 16000000 in
theorem e2200 : EvR 2200 2300 := ev_all 2200 50 (by (iterate 50 refine Chk.succ ?_ (by decide +kernel)); exact Chk.zero _) rfl rfl
set_option maxHeartbeats 16000000 in
theorem e2300 : EvR 2300 2400 := ev_all 2300 50 (by (iterate 50 refine Chk.succ ?_ (by decide +kernel)); exact Chk.zero _) rfl rfl
set_option maxHeartbeats 16000000 in
theorem e2400 : EvR 2400 2500 := ev_all 2400 50 (by (iterate 50 refine Chk.succ ?_ (by decide +kernel)); exact Chk.zero _) rfl rfl
set_option maxHeartbeats 16000000 in
theorem e2500 : EvR 2500 2600 := ev_all 2500 50 (by (iterate 50 refine Chk.succ ?_ (by decide +kernel)); exact Chk.zero _) rfl rfl
set_option maxHeartbeats 16000000 in
theorem e2600 : EvR 2600 2700 := ev_all 2600 50 (by (iterate 50 refine Chk.succ ?_ (by decide +kernel)); exact Chk.zero _) rfl rfl
set_option maxHeartbeats 16000000 in
theorem e2700 : EvR 2700 2800 := ev_all 2700 50 (by (iterate 50 refine Chk.succ ?_ (by decide +kernel)); exact Chk.zero _) rfl rfl
set_option maxHeartbeats 16000000 in
theorem e2800 : EvR 2800 2900 := ev_all 2800 50 (by (iterate 50 refine Chk.succ ?_ (by decide +kernel)); exact Chk.zero _) rfl rfl
set_option maxHeartbeats 16000000 in
theorem e2900 : EvR 2900 3000 := ev_all 2900 50 (by (iterate 50 refine Chk.succ ?_ (by decide +kernel)); exact Chk.zero _) rfl rfl
set_option maxHeartbeats 16000000 in
theorem e3000 : EvR 3000 3100 := ev_all 3000 50 (by (iterate 50 refine Chk.succ ?_ (by decide +kernel)); exact Chk.zero _) rfl rfl
set_option maxHeartbeats 16000000 in
theorem e3100 : EvR 3100 3200 := ev_all 3100 50 (by (iterate 50 refine Chk.succ ?_ (by decide +kernel)); exact Chk.zero _) rfl rfl
set_option maxHeartbeats 16000000 in
theorem e3200 : EvR 3200 3300 := ev_all 3200 50 (by (iterate 50 refine Chk.succ ?_ (by decide +kernel)); exact Chk.zero _) rfl rfl
set_option maxHeartbeats 16000000 in
theorem e3300 : EvR 3300 3314 := ev_all 3300 7 (by (iterate 7 refine Chk.succ ?_ (by decide +kernel)); exact Chk.zero _) rfl rfl
theorem E_3 : EvR 1200 3314 := (e1200.trans (e1300.trans (e1400.trans (e1500.trans (e1600.trans (e1700.trans (e1800.trans (e1900.trans (e2000.trans (e2100.trans (e2200.trans (e2300.trans (e2400.trans (e2500.trans (e2600.trans (e2700.trans (e2800.trans (e2900.trans (e3000.trans (e3100.trans (e3200.trans e3300)))))))))))))))))))))
end Go.Psi
