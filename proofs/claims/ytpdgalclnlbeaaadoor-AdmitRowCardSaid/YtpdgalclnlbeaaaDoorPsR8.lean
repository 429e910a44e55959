/-
  The kernel's runs: half of p1 from 77500 to 204000.
-/
import Derived.Test.YtpdgalclnlbeaaaDoorPsC
namespace Go.Psi
set_option maxHeartbeats 16000000 in
theorem b77500 : BigR 77500 80000 := big_of 77500 25 100 (by decide) (by (iterate 100 refine Chk.succ ?_ (by decide +kernel)); exact Chk.zero _)
set_option maxHeartbeats 16000000 in
theorem b80000 : BigR 80000 82500 := big_of 80000 25 100 (by decide) (by (iterate 100 refine Chk.succ ?_ (by decide +kernel)); exact Chk.zero _)
set_option maxHeartbeats 16000000 in
theorem b82500 : BigR 82500 85000 := big_of 82500 25 100 (by decide) (by (iterate 100 refine Chk.succ ?_ (by decide +kernel)); exact Chk.zero _)
set_option maxHeartbeats 16000000 in
theorem b85000 : BigR 85000 87500 := big_of 85000 25 100 (by decide) (by (iterate 100 refine Chk.succ ?_ (by decide +kernel)); exact Chk.zero _)
set_option maxHeartbeats 16000000 in
theorem b87500 : BigR 87500 90000 := big_of 87500 25 100 (by decide) (by (iterate 100 refine Chk.succ ?_ (by decide +kernel)); exact Chk.zero _)
set_option maxHeartbeats 16000000 in
theorem b90000 : BigR 90000 92500 := big_of 90000 25 100 (by decide) (by (iterate 100 refine Chk.succ ?_ (by decide +kernel)); exact Chk.zero _)
set_option maxHeartbeats 16000000 in
theorem b92500 : BigR 92500 95000 := big_of 92500 25 100 (by decide) (by (iterate 100 refine Chk.succ ?_ (by decide +kernel)); exact Chk.zero _)
set_option maxHeartbeats 16000000 in
theorem b95000 : BigR 95000 97500 := big_of 95000 25 100 (by decide) (by (iterate 100 refine Chk.succ ?_ (by decide +kernel)); exact Chk.zero _)
set_option maxHeartbeats 16000000 in
theorem b97500 : BigR 97500 100000 := big_of 97500 25 100 (by decide) (by (iterate 100 refine Chk.succ ?_ (by decide +kernel)); exact Chk.zero _)
set_option maxHeartbeats 16000000 in
theorem b100000 : BigR 100000 102500 := big_of 100000 25 100 (by decide) (by (iterate 100 refine Chk.succ ?_ (by decide +kernel)); exact Chk.zero _)
set_option maxHeartbeats 16000000 in
theorem b102500 : BigR 102500 105000 := big_of 102500 25 100 (by decide) (by (iterate 100 refine Chk.succ ?_ (by decide +kernel)); exact Chk.zero _)
set_option maxHeartbeats 16000000 in
theorem b105000 : BigR 105000 107500 := big_of 105000 25 100 (by decide) (by (iterate 100 refine Chk.succ ?_ (by decide +kernel)); exact Chk.zero _)
set_option maxHeartbeats 16000000 in
theorem b107500 : BigR 107500 110000 := big_of 107500 25 100 (by decide) (by (iterate 100 refine Chk.succ ?_ (by decide +kernel)); exact Chk.zero _)
set_option maxHeartbeats 16000000 in
theorem b110000 : BigR 110000 112500 := big_of 110000 25 100 (by decide) (by (iterate 100 refine Chk.succ ?_ (by decide +kernel)); exact Chk.zero _)
set_option maxHeartbeats 16000000 in
theorem b112500 : BigR 112500 115000 := big_of 112500 25 100 (by decide) (by (iterate 100 refine Chk.succ ?_ (by decide +kernel)); exact Chk.zero _)
set_option maxHeartbeats 16000000 in
theorem b115000 : BigR 115000 117500 := big_of 115000 25 100 (by decide) (by (iterate 100 refine Chk.succ ?_ (by decide +kernel)); exact Chk.zero _)
set_option maxHeartbeats 16000000 in
theorem b117500 : BigR 117500 120000 := big_of 117500 25 100 (by decide) (by (iterate 100 refine Chk.succ ?_ (by decide +kernel)); exact Chk.zero _)
set_option maxHeartbeats 16000000 in
theorem b120000 : BigR 120000 122500 := big_of 120000 25 100 (by decide) (by (iterate 100 refine Chk.succ ?_ (by decide +kernel)); exact Chk.zero _)
set_option maxHeartbeats 16000000 in
theorem b122500 : BigR 122500 125000 := big_of 122500 25 100 (by decide) (by (iterate 100 refine Chk.succ ?_ (by decide +kernel)); exact Chk.zero _)
set_option maxHeartbeats 16000000 in
theorem b125000 : BigR 125000 127500 := big_of 125000 25 100 (by decide) (by (iterate 100 refine Chk.succ ?_ (by decide +kernel)); exact Chk.zero _)
set_option maxHeartbeats 16000000 in
theorem b127500 : BigR 127500 130000 := big_of 127500 25 100 (by decide) (by (iterate 100 refine Chk.succ ?_ (by decide +kernel)); exact Chk.zero _)
set_option maxHeartbeats 16000000 in
theorem b130000 : BigR 130000 132500 := big_of 130000 25 100 (by decide) (by (iterate 100 refine Chk.succ ?_ (by decide +kernel)); exact Chk.zero _)
set_option maxHeartbeats 16000000 in
theorem b132500 : BigR 132500 135000 := big_of 132500 25 100 (by decide) (by (iterate 100 refine Chk.succ ?_ (by decide +kernel)); exact Chk.zero _)
set_option maxHeartbeats 16000000 in
theorem b135000 : BigR 135000 137500 := big_of 135000 25 100 (by decide) (by (iterate 100 refine Chk.succ ?_ (by decide +kernel)); exact Chk.zero _)
set_option maxHeartbeats 16000000 in
theorem b137500 : BigR 137500 140000 := big_of 137500 25 100 (by decide) (by (iterate 100 refine Chk.succ ?_ (by decide +kernel)); exact Chk.zero _)
set_option maxHeartbeats 16000000 in
theorem b140000 : BigR 140000 142500 := big_of 140000 25 100 (by decide) (by (iterate 100 refine Chk.succ ?_ (by decide +kernel)); exact Chk.zero _)
set_option maxHeartbeats 16000000 in
theorem b142500 : BigR 142500 145000 := big_of 142500 25 100 (by decide) (by (iterate 100 refine Chk.succ ?_ (by decide +kernel)); exact Chk.zero _)
set_option maxHeartbeats 16000000 in
theorem b145000 : BigR 145000 147500 := big_of 145000 25 100 (by decide) (by (iterate 100 refine Chk.succ ?_ (by decide +kernel)); exact Chk.zero _)
set_option maxHeartbeats 16000000 in
theorem b147500 : BigR 147500 150000 := big_of 147500 25 100 (by decide) (by (iterate 100 refine Chk.succ ?_ (by decide +kernel)); exact Chk.zero _)
set_option maxHeartbeats 16000000 in
theorem b150000 : BigR 150000 156000 := big_of 150000 60 100 (by decide) (by (iterate 100 refine Chk.succ ?_ (by decide +kernel)); exact Chk.zero _)
set_option maxHeartbeats 16000000 in
theorem b156000 : BigR 156000 162000 := big_of 156000 60 100 (by decide) (by (iterate 100 refine Chk.succ ?_ (by decide +kernel)); exact Chk.zero _)
set_option maxHeartbeats 16000000 in
theorem b162000 : BigR 162000 168000 := big_of 162000 60 100 (by decide) (by (iterate 100 refine Chk.succ ?_ (by decide +kernel)); exact Chk.zero _)
set_option maxHeartbeats 16000000 in
theorem b168000 : BigR 168000 174000 := big_of 168000 60 100 (by decide) (by (iterate 100 refine Chk.succ ?_ (by decide +kernel)); exact Chk.zero _)
set_option maxHeartbeats 16000000 in
theorem b174000 : BigR 174000 180000 := big_of 174000 60 100 (by decide) (by (iterate 100 refine Chk.succ ?_ (by decide +kernel)); exact Chk.zero _)
set_option maxHeartbeats 16000000 in
theorem b180000 : BigR 180000 186000 := big_of 180000 60 100 (by decide) (by (iterate 100 refine Chk.succ ?_ (by decide +kernel)); exact Chk.zero _)
set_option maxHeartbeats 16000000 in
theorem b186000 : BigR 186000 192000 := big_of 186000 60 100 (by decide) (by (iterate 100 refine Chk.succ ?_ (by decide +kernel)); exact Chk.zero _)
set_option maxHeartbeats 16000000 in
theorem b192000 : BigR 192000 198000 := big_of 192000 60 100 (by decide) (by (iterate 100 refine Chk.succ ?_ (by decide +kernel)); exact Chk.zero _)
set_option maxHeartbeats 16000000 in
theorem b198000 : BigR 198000 204000 := big_of 198000 60 100 (by decide) (by (iterate 100 refine Chk.succ ?_ (by decide +kernel)); exact Chk.zero _)
theorem B_3 : BigR 77500 204000 := (b77500.trans (b80000.trans (b82500.trans (b85000.trans (b87500.trans (b90000.trans (b92500.trans (b95000.trans (b97500.trans (b100000.trans (b102500.trans (b105000.trans (b107500.trans (b110000.trans (b112500.trans (b115000.trans (b117500.trans (b120000.trans (b122500.trans (b125000.trans (b127500.trans (b130000.trans (b132500.trans (b135000.trans (b137500.trans (b140000.trans (b142500.trans (b145000.trans (b147500.trans (b150000.trans (b156000.trans (b162000.trans (b168000.trans (b174000.trans (b180000.trans (b186000.trans (b192000.trans b198000)))))))))))))))))))))))))))))))))))))
end Go.Psi

/-! The kernel's runs: half of p1 from 29000 to 77500. -/
namespace Go.Psi
set_option maxHeartbeats 16000000 in
theorem b29000 : BigR 29000 31000 := big_of 29000 20 100 (by decide) (by (iterate 100 refine Chk.succ ?_ (by decide +kernel)); exact Chk.zero _)
set_option maxHeartbeats 16000000 in
theorem b31000 : BigR 31000 33000 := big_of 31000 20 100 (by decide) (by (iterate 100 refine Chk.succ ?_ (by decide +kernel)); exact Chk.zero _)
set_option maxHeartbeats 16000000 in
theorem b33000 : BigR 33000 35000 := big_of 33000 20 100 (by decide) (by (iterate 100 refine Chk.succ ?_ (by decide +kernel)); exact Chk.zero _)
set_option maxHeartbeats 16000000 in
theorem b35000 : BigR 35000 37000 := big_of 35000 20 100 (by decide) (by (iterate 100 refine Chk.succ ?_ (by decide +kernel)); exact Chk.zero _)
set_option maxHeartbeats 16000000 in
theorem b37000 : BigR 37000 39000 := big_of 37000 20 100 (by decide) (by (iterate 100 refine Chk.succ ?_ (by decide +kernel)); exact Chk.zero _)
set_option maxHeartbeats 16000000 in
theorem b39000 : BigR 39000 41000 := big_of 39000 20 100 (by decide) (by (iterate 100 refine Chk.succ ?_ (by decide +kernel)); exact Chk.zero _)
set_option maxHeartbeats 16000000 in
theorem b41000 : BigR 41000 43000 := big_of 41000 20 100 (by decide) (by (iterate 100 refine Chk.succ ?_ (by decide +kernel)); exact Chk.zero _)
set_option maxHeartbeats 16000000 in
theorem b43000 : BigR 43000 45000 := big_of 43000 20 100 (by decide) (by (iterate 100 refine Chk.succ ?_ (by decide +kernel)); exact Chk.zero _)
set_option maxHeartbeats 16000000 in
theorem b45000 : BigR 45000 47000 := big_of 45000 20 100 (by decide) (by (iterate 100 refine Chk.succ ?_ (by decide +kernel)); exact Chk.zero _)
set_option maxHeartbeats 16000000 in
theorem b47000 : BigR 47000 49000 := big_of 47000 20 100 (by decide) (by (iterate 100 refine Chk.succ ?_ (by decide +kernel)); exact Chk.zero _)
set_option maxHeartbeats 16000000 in
theorem b49000 : BigR 49000 50000 := big_of 49000 20 50 (by decide) (by (iterate 50 refine Chk.succ ?_ (by decide +kernel)); exact Chk.zero _)
set_option maxHeartbeats 16000000 in
theorem b50000 : BigR 50000 52500 := big_of 50000 25 100 (by decide) (by (iterate 100 refine Chk.succ ?_ (by decide +kernel)); exact Chk.zero _)
set_option maxHeartbeats 16000000 in
theorem b52500 : BigR 52500 55000 := big_of 52500 25 100 (by decide) (by (iterate 100 refine Chk.succ ?_ (by decide +kernel)); exact Chk.zero _)
set_option maxHeartbeats 16000000 in
theorem b55000 : BigR 55000 57500 := big_of 55000 25 100 (by decide) (by (iterate 100 refine Chk.succ ?_ (by decide +kernel)); exact Chk.zero _)
set_option maxHeartbeats 16000000 in
theorem b57500 : BigR 57500 60000 := big_of 57500 25 100 (by decide) (by (iterate 100 refine Chk.succ ?_ (by decide +kernel)); exact Chk.zero _)
set_option maxHeartbeats 16000000 in
theorem b60000 : BigR 60000 62500 := big_of 60000 25 100 (by decide) (by (iterate 100 refine Chk.succ ?_ (by decide +kernel)); exact Chk.zero _)
set_option maxHeartbeats 16000000 in
theorem b62500 : BigR 62500 65000 := big_of 62500 25 100 (by decide) (by (iterate 100 refine Chk.succ ?_ (by decide +kernel)); exact Chk.zero _)
set_option maxHeartbeats 16000000 in
theorem b65000 : BigR 65000 67500 := big_of 65000 25 100 (by decide) (by (iterate 100 refine Chk.succ ?_ (by decide +kernel)); exact Chk.zero _)
set_option maxHeartbeats 16000000 in
theorem b67500 : BigR 67500 70000 := big_of 67500 25 100 (by decide) (by (iterate 100 refine Chk.succ ?_ (by decide +kernel)); exact Chk.zero _)
set_option maxHeartbeats 16000000 in
theorem b70000 : BigR 70000 72500 := big_of 70000 25 100 (by decide) (by (iterate 100 refine Chk.succ ?_ (by decide +kernel)); exact Chk.zero _)
set_option maxHeartbeats 16000000 in
theorem b72500 : BigR 72500 75000 := big_of 72500 25 100 (by decide) (by (iterate 100 refine Chk.succ ?_ (by decide +kernel)); exact Chk.zero _)
set_option maxHeartbeats 16000000 in
theorem b75000 : BigR 75000 77500 := big_of 75000 25 100 (by decide) (by (iterate 100 refine Chk.succ ?_ (by decide +kernel)); exact Chk.zero _)
theorem B_2 : BigR 29000 77500 := (b29000.trans (b31000.trans (b33000.trans (b35000.trans (b37000.trans (b39000.trans (b41000.trans (b43000.trans (b45000.trans (b47000.trans (b49000.trans (b50000.trans (b52500.trans (b55000.trans (b57500.trans (b60000.trans (b62500.trans (b65000.trans (b67500.trans (b70000.trans (b72500.trans b75000)))))))))))))))))))))
end Go.Psi
