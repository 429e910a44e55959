/-
  The examples of the layer of polynomials: they hold.
-/
import Derived.Test.YtnmadmcegdpecaaWeiM
import Derived.Test.YtnmadmcegdpecaaPolM
import Derived.Test.YtnmadmcegdpecaaEval
import Derived.Test.YtnmadmcegdpecaaCmp
namespace Go.Proofs.Ytnmadmcegdpecaa
open Go.RowKit

attribute [local go_sem] Oper.semAt_some

theorem u64s_of {l : List Int} (h : (l.all fun z => decide (0 ≤ z) && decide (z < 18446744073709551616)) = true) : U64s l := by
  intro z hz
  have := List.all_eq_true.1 h z hz
  simp only [Bool.and_eq_true, decide_eq_true_eq] at this
  exact this
/-- a row that has just been laid. -/
theorem new_cells (w : World) (l : List Int) (e : TypeId) : Cells (w.alloc (.cells (l.map (Value.int .u64)).toArray e)) (some ⟨w.heap.size, 0, none⟩) (l.map (.int .u64)) := (row1_new w _ e).cells
theorem below_of_eq {w a b : World} {B : Nat} (h : Below B w a) (e : a = b) : Below B w b := e ▸ h
theorem Cells.more {w w' : World} {A : Option Addr} {xs : List Value} (h : Cells w A xs) (hb : Below w.heap.size w w') : Cells w' A xs := h.keep fun p hp => hb.cell hp

set_option maxRecDepth 100000 in
set_option maxHeartbeats 600000 in
theorem awake03_c (w : World) : Calls Try.prog 53 #[] w fun e w' => e = .returned (.bool true) ∧ Below w.heap.size w w' := by
  have hq : U64 11 := ⟨by decide, by decide⟩
  go_enter Try.func53, Try.ntmps53
  go_wp2_with (fail)
  refine (pweights_c _ [1, 2, 3] 3 0 11 _ (new_cells w [1, 2, 3] 23) (by decide) (u64s_of (by decide)) ⟨by decide, by decide⟩ hq).mono ?_
  rintro e w2 ⟨v2, rfl, hown2, hb2⟩
  rw [ex_we]
  rw [ex_w] at hown2
  obtain ⟨A2, c2, rfl, hc2⟩ := hown2.form
  have hB2 := below_next (below_alloc w _) (below_alloc w _).size hb2
  clear hown2 hb2
  go_wp2_with (fail)
  refine (pthrough_c _ _ [1, 2, 3] [6, 0, 7] 3 3 11 _ ((new_cells w2 [1, 2, 3] 23).more (below_alloc _ _)) (by simpa using new_cells (w2.alloc (.cells #[.int .u64 1, .int .u64 2, .int .u64 3] 23)) [6, 0, 7] 23) (by decide) (by decide) (u64s_of (by decide)) (u64s_of (by decide)) hq).mono ?_
  rintro e w4 ⟨v4, rfl, hown4, hb4⟩
  rw [ex_te]
  rw [ex_t] at hown4
  obtain ⟨A4, c4, rfl, hc4⟩ := hown4.form
  have hB3 : Below w2.heap.size w2 ((w2.alloc (.cells #[.int .u64 1, .int .u64 2, .int .u64 3] 23)).alloc (.cells #[.int .u64 6, .int .u64 0, .int .u64 7] 23)) := (below_alloc w2 _).alloc (by simp) _
  have hB4 := below_next hB3 hB3.size hb4
  have hc24 := hc2.more hB4
  have hBw4 := below_next hB2 hB2.size hB4
  clear hc2 hown4 hb4 hB3 hB4 hB2
  go_wp2_with (fail)
  refine (eval_c _ [3, 2, 1] 3 4 11 _ (new_cells w4 [3, 2, 1] 23) (by decide) (u64s_of (by decide)) ⟨by decide, by decide⟩ hq).mono ?_
  rintro e w6 ⟨rfl, hw6⟩
  rw [show mEval [3, 2, 1] 4 11 = 5 from by decide]
  have hB6 := below_dr (below_alloc w4 (.cells #[.int .u64 3, .int .u64 2, .int .u64 1] 23)) hw6
  have hc26 := hc24.more hB6
  have hc46 := hc4.more hB6
  have hBw6 := below_next hBw4 hBw4.size hB6
  clear hc24 hc4 hB6 hBw4 hw6
  go_wp2_with (fail)
  refine (pdeg_c _ [3, 2, 1, 0] 4 11 _ (new_cells w6 [3, 2, 1, 0] 23) (by decide) (u64s_of (by decide)) hq).mono ?_
  rintro e w7 ⟨rfl, hw7⟩
  rw [show pDeg [3, 2, 1, 0] 11 = 2 from by decide]
  have hB7 := below_of_eq (w := w6) (below_alloc w6 _) hw7
  have hBw7 := below_next hBw6 hBw6.size hB7
  have hc27 := hc26.more hB7
  have hc47 := hc46.more hB7
  clear hc26 hc46 hBw6 hB7 hw7
  go_wp2_with (fail)
  refine (ptimes_c _ _ [1, 1] [1, 10] 2 2 11 _ ((new_cells w7 [1, 1] 23).more (below_alloc _ _)) (by simpa using new_cells (w7.alloc (.cells #[.int .u64 1, .int .u64 1] 23)) [1, 10] 23) (by decide) (by decide) (u64s_of (by decide)) (u64s_of (by decide)) hq).mono ?_
  rintro e w8 ⟨v8, rfl, hown8, hb8⟩
  rw [show pTimes [1, 1] [1, 10] 11 = [1, 0, 10] from by decide] at hown8
  obtain ⟨A8, c8, rfl, hc8⟩ := hown8.form
  have hB7 : Below w7.heap.size w7 ((w7.alloc (.cells #[.int .u64 1, .int .u64 1] 23)).alloc (.cells #[.int .u64 1, .int .u64 10] 23)) := (below_alloc w7 _).alloc (by simp) _
  have hB8 := below_next hB7 hB7.size hb8
  have hBw8 := below_next hBw7 hBw7.size hB8
  have hc28 := hc27.more hB8
  have hc48 := hc47.more hB8
  clear hown8 hb8 hB7 hB8 hBw7 hc27 hc47
  go_wp2_with (fail)
  refine (numbers_c A8 _ [1, 0, 10] [1, 0, 10] c8 3 _ (hc8.more (below_alloc _ _)) (new_cells w8 [1, 0, 10] 23) (by decide) (by decide)).mono ?_
  rintro e w9 ⟨rfl, hw9⟩
  rw [show decide (([1, 0, 10] : List Int) = [1, 0, 10]) = true from by decide]
  have hB9 := below_dr (below_alloc w8 (.cells #[.int .u64 1, .int .u64 0, .int .u64 10] 23)) hw9
  have hBw9 := below_next hBw8 hBw8.size hB9
  have hc29 := hc28.more hB9
  have hc49 := hc48.more hB9
  clear hc8 hw9 hB9 hBw8 hc28 hc48
  go_wp2_with (fail)
  refine (numbers_c A2 _ [3, 8, 1] [3, 8, 1] c2 3 _ (hc29.more (below_alloc _ _)) (new_cells w9 [3, 8, 1] 23) (by decide) (by decide)).mono ?_
  rintro e w10 ⟨rfl, hw10⟩
  rw [show decide (([3, 8, 1] : List Int) = [3, 8, 1]) = true from by decide]
  have hB10 := below_dr (below_alloc w9 (.cells #[.int .u64 3, .int .u64 8, .int .u64 1] 23)) hw10
  have hBw10 := below_next hBw9 hBw9.size hB10
  have hc410 := hc49.more hB10
  clear hw10 hB10 hBw9 hc29 hc49
  go_wp2_with (fail)
  refine (numbers_c A4 _ [3, 2, 1] [3, 2, 1] c4 3 _ (hc410.more (below_alloc _ _)) (new_cells w10 [3, 2, 1] 23) (by decide) (by decide)).mono ?_
  rintro e w11 ⟨rfl, hw11⟩
  rw [show decide (([3, 2, 1] : List Int) = [3, 2, 1]) = true from by decide]
  have hB11 := below_dr (below_alloc w10 (.cells #[.int .u64 3, .int .u64 2, .int .u64 1] 23)) hw11
  have hBw11 := below_next hBw10 hBw10.size hB11
  clear hw11 hB11 hBw10 hc410
  go_wp2
  go_ret
  exact ⟨rfl, hBw11⟩

end Go.Proofs.Ytnmadmcegdpecaa
