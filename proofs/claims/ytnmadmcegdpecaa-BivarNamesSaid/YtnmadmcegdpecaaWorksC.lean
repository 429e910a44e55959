/-
  The examples of the layer of polynomials of two: they hold: the walk.
-/
import Derived.Test.YtnmadmcegdpecaaWorks
import Derived.Test.YtnmadmcegdpecaaBivH
import Derived.Test.YtnmadmcegdpecaaAwake03
namespace Go.Proofs.Ytnmadmcegdpecaa
open Go.RowKit

attribute [local go_sem] Oper.semAt_some

set_option maxRecDepth 100000 in
set_option maxHeartbeats 4000000 in
theorem works_c (w : World) : Calls Try.prog 73 #[] w fun e w' => e = .returned (.bool true) ∧ Below w.heap.size w w' := by
  have hq : U64 11 := ⟨by decide, by decide⟩
  have hB := Bun.nil w
  go_enter Try.func73, Try.ntmps73
  go_wp2_with (refine wpList_named hB rfl ?_; clear hB; intro wn gn hB hbn hg; (try rw [hg]); clear hg)
  have hf := grid_two [1, 2] [3, 4] (hB.row (i := 4) rfl) (hB.row (i := 6) rfl) (hB.row (i := 5) rfl) (by decide) (by decide)
  have hbw := hB.b
  refine (bthrough_c _ _ [1, 2] [[4, 6], [7, 10]] 2 2 11 wn (hB.row (i := 3) rfl).cells (grid_two [4, 6] [7, 10] (hB.row (i := 0) rfl) (hB.row (i := 2) rfl) (hB.row (i := 1) rfl) (by decide) (by decide)) (by decide) (by decide) (by decide) (u64s_of (by decide)) (words_of (by decide)) hq).mono ?_
  rintro e x1 ⟨v1, rfl, hr1, hb⟩
  rw [ex_w1]
  rw [ex_w1v] at hr1
  obtain ⟨A1, k1, rfl, hG1⟩ := hr1.grid (by decide)
  replace hf := hf.below hb
  replace hbw := below_next hbw hbw.size hb
  clear hr1 hb hB
  have hB := Bun.nil x1
  go_wp2_with (refine wpList_named hB rfl ?_; clear hB; intro wn gn hB hbn hg; (try rw [hg]); clear hg)
  have hs := hB.b
  replace hf := hf.below hs
  replace hG1 := hG1.below hs
  replace hbw := below_next hbw hbw.size hs
  refine (bthrough_c _ _ [1, 12] [[4, 6], [7, 10]] 2 2 11 wn (hB.row (i := 3) rfl).cells (grid_two [4, 6] [7, 10] (hB.row (i := 0) rfl) (hB.row (i := 2) rfl) (hB.row (i := 1) rfl) (by decide) (by decide)) (by decide) (by decide) (by decide) (u64s_of (by decide)) (words_of (by decide)) hq).mono ?_
  rintro e x2 ⟨v2, rfl, hr2, hb⟩
  rw [ex_w2]
  replace hf := hf.below hb
  replace hG1 := hG1.below hb
  replace hbw := below_next hbw hbw.size hb
  clear hr2 hb hs hB
  have hB := Bun.nil x2
  go_wp2_with (refine wpList_named hB rfl ?_; clear hB; intro wn gn hB hbn hg; (try rw [hg]); clear hg)
  have hs := hB.b
  replace hf := hf.below hs
  replace hG1 := hG1.below hs
  replace hbw := below_next hbw hbw.size hs
  refine (bthrough_c _ _ [1, 2] [[4]] 2 1 11 wn (hB.row (i := 2) rfl).cells (grid_one [4] (hB.row (i := 0) rfl) (hB.row (i := 1) rfl) (by decide)) (by decide) (by decide) (by decide) (u64s_of (by decide)) (words_of (by decide)) hq).mono ?_
  rintro e x3 ⟨v3, rfl, hr3, hb⟩
  rw [ex_w3]
  replace hf := hf.below hb
  replace hG1 := hG1.below hb
  replace hbw := below_next hbw hbw.size hb
  clear hr3 hb hs hB
  go_wp2_with (fail)
  refine (at_c _ [[1, 2], [3, 4]] 2 2 5 11 x3 hf (by decide) (words_of (by decide)) ⟨by decide, by decide⟩ ⟨by decide, by decide⟩ hq).mono ?_
  rintro e x4 ⟨rfl, hb⟩
  rw [show mAt [[1, 2], [3, 4]] 2 5 11 = 2 from by decide]
  replace hf := hf.below hb
  replace hG1 := hG1.below hb
  replace hbw := below_next hbw hbw.size hb
  clear hb
  go_wp2_with (fail)
  refine (brow_c _ [[1, 2], [3, 4]] 2 2 11 x4 hf (by decide) (by decide) (words_of (by decide)) ⟨by decide, by decide⟩ hq).mono ?_
  rintro e x5 ⟨v5, rfl, ho, hb⟩
  rw [show mRow [[1, 2], [3, 4]] 2 11 = [7, 10] from by decide] at ho
  obtain ⟨A5, k5, rfl, hc5⟩ := ho.form
  replace hf := hf.below hb
  replace hG1 := hG1.below hb
  replace hbw := below_next hbw hbw.size hb
  clear hb ho
  go_wp2_with (fail)
  refine (nums_c A5 _ [7, 10] [7, 10] k5 2 _ (hc5.more (below_alloc _ _)) (new_cells x5 [7, 10] 23) (by decide) (by decide)).mono ?_
  rintro e x6 ⟨rfl, hw⟩
  rw [show decide (([7, 10] : List Int) = [7, 10]) = true from by decide]
  have hb := below_dr (below_alloc x5 (.cells #[.int .u64 7, .int .u64 10] 23)) hw
  replace hf := hf.below hb
  replace hG1 := hG1.below hb
  replace hbw := below_next hbw hbw.size hb
  clear hb hw hc5
  go_wp2_with (fail)
  refine (col_c _ [[1, 2], [3, 4]] 2 5 11 x6 hf (by decide) (words_of (by decide)) ⟨by decide, by decide⟩ hq).mono ?_
  rintro e x7 ⟨v7, rfl, ho, hb⟩
  rw [show mCol [[1, 2], [3, 4]] 5 11 = [0, 1] from by decide] at ho
  obtain ⟨A7, k7, rfl, hc7⟩ := ho.form
  replace hf := hf.below hb
  replace hG1 := hG1.below hb
  replace hbw := below_next hbw hbw.size hb
  clear hb ho
  go_wp2_with (fail)
  refine (nums_c A7 _ [0, 1] [0, 1] k7 2 _ (hc7.more (below_alloc _ _)) (new_cells x7 [0, 1] 23) (by decide) (by decide)).mono ?_
  rintro e x8 ⟨rfl, hw⟩
  rw [show decide (([0, 1] : List Int) = [0, 1]) = true from by decide]
  have hb := below_dr (below_alloc x7 (.cells #[.int .u64 0, .int .u64 1] 23)) hw
  replace hf := hf.below hb
  replace hG1 := hG1.below hb
  replace hbw := below_next hbw hbw.size hb
  clear hb hw hc7
  go_wp2_with (fail)
  refine (polys_c A1 _ [[1, 2], [3, 4]] [[1, 2], [3, 4]] k1 2 x8 hG1 hf (by decide) (by decide)).mono ?_
  rintro e x9 ⟨rfl, hw⟩
  rw [show decide (([[1, 2], [3, 4]] : List (List Int)) = [[1, 2], [3, 4]]) = true from by decide]
  replace hbw := below_dr hbw hw
  clear hf hG1 hw
  go_wp2
  go_ret
  exact ⟨rfl, hbw⟩

end Go.Proofs.Ytnmadmcegdpecaa
