/-
  PROVED HERE: BivarNames: the examples, lists of unlike length, polynomials of nothing, and no number.
-/
import Derived.Test.YtnmadmcegdpecaaWorksC
import Derived.Test.YtnmadmcegdpecaaArgs
namespace Go.Proofs.Ytnmadmcegdpecaa
open Go.ChangeShapes Go.WideShapes Go.ChangeAt Go.RowKit

attribute [local go_sem] Oper.semAt_some

theorem rowV_none (w : World) : RowV w (.slice none 0 0) [] := ⟨none, 0, rfl, .inl rfl, by decide⟩
theorem rowV_at {w : World} {g : Nat} (l : List Int) (h : Row1 w g 23 (l.map (.int .u64))) (hl : l.length ≤ 1000) : RowV w (.slice (some ⟨g, 0, none⟩) l.length l.length) l := ⟨_, _, rfl, h.cells, by omega⟩
theorem grid_vals {w : World} {A : Option Addr} {vs : List Value} {f : List (List Int)} (hA : Cells w A vs) (hl : vs.length = f.length) (h : ∀ (i : Nat) v l, vs[i]? = some v → f[i]? = some l → RowV w v l) : Grid w A f :=
  ⟨vs, hA, hl, fun i l hi => by
    obtain ⟨v, hv⟩ := get_of_lt (l := vs) (k := i) (by rw [hl]; exact (List.getElem?_eq_some_iff.1 hi).1)
    exact ⟨v, hv, h i v l hv hi⟩⟩
theorem grid_none (w : World) : Grid w none [] := ⟨[], .inl rfl, rfl, fun i l h => by simp at h⟩
theorem grid_f {w : World} {g g1 g2 : Nat} (hO : Row1 w g 26 [.slice (some ⟨g1, 0, none⟩) 1 1, .slice none 0 0, .slice (some ⟨g2, 0, none⟩) 3 3]) (h1 : Row1 w g1 23 [.int .u64 1]) (h2 : Row1 w g2 23 [.int .u64 0, .int .u64 2, .int .u64 3]) : Grid w (some ⟨g, 0, none⟩) [[1], [], [0, 2, 3]] :=
  grid_vals hO.cells rfl fun i v l hv hl => by
    match i, hv, hl with
    | 0, hv, hl =>
      obtain rfl := Option.some.inj hv
      obtain rfl := Option.some.inj hl
      exact rowV_at [1] h1 (by decide)
    | 1, hv, hl =>
      obtain rfl := Option.some.inj hv
      obtain rfl := Option.some.inj hl
      exact rowV_none w
    | 2, hv, hl =>
      obtain rfl := Option.some.inj hv
      obtain rfl := Option.some.inj hl
      exact rowV_at [0, 2, 3] h2 (by decide)
    | i + 3, hv, _ => simp at hv
theorem grid_c {w : World} {g g2 : Nat} (hO : Row1 w g 26 [.slice none 0 0, .slice (some ⟨g2, 0, none⟩) 2 2]) (h2 : Row1 w g2 23 [.int .u64 0, .int .u64 1]) : Grid w (some ⟨g, 0, none⟩) [[], [0, 1]] :=
  grid_vals hO.cells rfl fun i v l hv hl => by
    match i, hv, hl with
    | 0, hv, hl =>
      obtain rfl := Option.some.inj hv
      obtain rfl := Option.some.inj hl
      exact rowV_none w
    | 1, hv, hl =>
      obtain rfl := Option.some.inj hv
      obtain rfl := Option.some.inj hl
      exact rowV_at [0, 1] h2 (by decide)
    | i + 2, hv, _ => simp at hv
theorem grid_d {w : World} {g : Nat} (hO : Row1 w g 26 [.slice none 0 0, .slice none 0 0]) : Grid w (some ⟨g, 0, none⟩) [[], []] :=
  grid_vals hO.cells rfl fun i v l hv hl => by
    match i, hv, hl with
    | 0, hv, hl =>
      obtain rfl := Option.some.inj hv
      obtain rfl := Option.some.inj hl
      exact rowV_none w
    | 1, hv, hl =>
      obtain rfl := Option.some.inj hv
      obtain rfl := Option.some.inj hl
      exact rowV_none w
    | i + 2, hv, _ => simp at hv
theorem en1 : bErr [] [] 7 = 0 := (bVal_eval (xs := []) (f := []) (q := 7) [] (by decide) rfl).1
theorem en1v : bVal [] [] 7 = [] := by rw [(bVal_eval (xs := []) (f := []) (q := 7) [] (by decide) rfl).2]; rfl
theorem en2 : bErr [3] [[5, 9]] 7 = 0 := (bVal_eval (xs := [3]) (f := [[5, 9]]) (q := 7) [1] (by decide) rfl).1
theorem en2v : bVal [3] [[5, 9]] 7 = [[5, 2]] := by rw [(bVal_eval (xs := [3]) (f := [[5, 9]]) (q := 7) [1] (by decide) rfl).2]; decide
theorem en3 : bErr [1, 2] [[], [0, 1]] 7 = 0 := (bVal_eval (xs := [1, 2]) (f := [[], [0, 1]]) (q := 7) [6, 1] (by decide) rfl).1
theorem en3v : bVal [1, 2] [[], [0, 1]] 7 = [[0, 6], [0, 1]] := by rw [(bVal_eval (xs := [1, 2]) (f := [[], [0, 1]]) (q := 7) [6, 1] (by decide) rfl).2]; decide
theorem en4 : bErr [1, 2] [[], []] 7 = 0 := (bVal_eval (xs := [1, 2]) (f := [[], []]) (q := 7) [6, 1] (by decide) rfl).1
theorem en4v : bVal [1, 2] [[], []] 7 = [[], []] := by rw [(bVal_eval (xs := [1, 2]) (f := [[], []]) (q := 7) [6, 1] (by decide) rfl).2]; decide

set_option maxRecDepth 100000 in
set_option maxHeartbeats 8000000 in
theorem bivarNames_c (w : World) : Calls Try.prog 15 #[] w fun e w' => e = .returned (.bool true) ∧ Below w.heap.size w w' := by
  have hq : U64 7 := ⟨by decide, by decide⟩
  have hB := Bun.nil w
  go_enter Try.func15, Try.ntmps15
  go_wp2_with (refine wpList_named hB rfl ?_; clear hB; intro wn gn hB hbn hg; (try rw [hg]); clear hg)
  have hf := grid_f (hB.row (i := 0) rfl) (hB.row (i := 2) rfl) (hB.row (i := 1) rfl)
  have hbw := hB.b
  clear hB
  refine (bthrough_c none none [] [] 0 0 7 wn (.inl rfl) (grid_none _) (by decide) (by decide) (by decide) (u64s_of (by decide)) (words_of (by decide)) hq).mono ?_
  rintro e x1 ⟨v1, rfl, hr, hb⟩
  rw [en1]
  rw [en1v] at hr
  obtain ⟨A1, k1, rfl, hG1⟩ := hr.grid (by decide)
  replace hf := hf.below hb
  replace hbw := below_next hbw hbw.size hb
  clear hr hb hG1
  have hB := Bun.nil x1
  go_wp2_with (refine wpList_named hB rfl ?_; clear hB; intro wn gn hB hbn hg; (try rw [hg]); clear hg)
  have hs := hB.b
  replace hf := hf.below hs
  replace hbw := below_next hbw hbw.size hs
  refine (bthrough_c (some ⟨_, 0, none⟩) _ [3] [[5, 9]] 1 1 7 wn (hB.row (i := 2) rfl).cells (grid_one [5, 9] (hB.row (i := 0) rfl) (hB.row (i := 1) rfl) (by decide)) (by decide) (by decide) (by decide) (u64s_of (by decide)) (words_of (by decide)) ⟨by decide, by decide⟩).mono ?_
  rintro e x2 ⟨v2, rfl, hr, hb⟩
  rw [en2]
  rw [en2v] at hr
  obtain ⟨A2, k2, rfl, hG2⟩ := hr.grid (by decide)
  replace hf := hf.below hb
  replace hbw := below_next hbw hbw.size hb
  clear hr hb hs hB
  have hB := Bun.nil x2
  go_wp2_with (refine wpList_named hB rfl ?_; clear hB; intro wn gn hB hbn hg; (try rw [hg]); clear hg)
  have hs := hB.b
  replace hf := hf.below hs
  replace hG2 := hG2.below hs
  replace hbw := below_next hbw hbw.size hs
  refine (bthrough_c (some ⟨_, 0, none⟩) _ [1, 2] [[], [0, 1]] 2 2 7 wn (hB.row (i := 2) rfl).cells (grid_c (hB.row (i := 0) rfl) (hB.row (i := 1) rfl)) (by decide) (by decide) (by decide) (u64s_of (by decide)) (words_of (by decide)) ⟨by decide, by decide⟩).mono ?_
  rintro e x3 ⟨v3, rfl, hr, hb⟩
  rw [en3]
  rw [en3v] at hr
  obtain ⟨A3, k3, rfl, hG3⟩ := hr.grid (by decide)
  replace hf := hf.below hb
  replace hG2 := hG2.below hb
  replace hbw := below_next hbw hbw.size hb
  clear hr hb hs hB
  have hB := Bun.nil x3
  go_wp2_with (refine wpList_named hB rfl ?_; clear hB; intro wn gn hB hbn hg; (try rw [hg]); clear hg)
  have hs := hB.b
  replace hf := hf.below hs
  replace hG2 := hG2.below hs
  replace hG3 := hG3.below hs
  replace hbw := below_next hbw hbw.size hs
  refine (bthrough_c (some ⟨_, 0, none⟩) _ [1, 2] [[], []] 2 2 7 wn (hB.row (i := 1) rfl).cells (grid_d (hB.row (i := 0) rfl)) (by decide) (by decide) (by decide) (u64s_of (by decide)) (words_of (by decide)) ⟨by decide, by decide⟩).mono ?_
  rintro e x4 ⟨v4, rfl, hr, hb⟩
  rw [en4]
  rw [en4v] at hr
  obtain ⟨A4, k4, rfl, hG4⟩ := hr.grid (by decide)
  replace hf := hf.below hb
  replace hG2 := hG2.below hb
  replace hG3 := hG3.below hb
  replace hbw := below_next hbw hbw.size hb
  clear hr hb hs hB
  obtain ⟨o4, off4, B4, b4, rfl, hc0, _, _⟩ := hG4.at_ (show ([[], []] : List (List Int))[0]? = some [] from rfl)
  obtain ⟨o5, off5, B5, b5, he5, hc1, _, _⟩ := hG4.at_ (show ([[], []] : List (List Int))[1]? = some [] from rfl)
  simp only [Option.some.injEq, Addr.mk.injEq, and_true] at he5
  obtain ⟨rfl, rfl⟩ := he5
  rw [Nat.add_zero] at hc0
  simp only [List.length_nil] at hc0 hc1
  clear hG4
  go_wp2
  refine Rgb.wp_region (l := [_, _, _, _, _, _, _, _, _, _, _, _, _, _, _, _, _, _, _, _, _, _, _, _, _, _, _, _, _, _, _, _, _, _, _, _, _, _, _, _, _, _, _, _, _, _, _, _, _, _, _, _, _, _, _, _, _, _]) (tail := [_]) (Rgb.grows _ 59) [some 37, some 38, some 39, some 40, some 41, some 42, some 43, some 44, some 45, some 46, some 47, some 48, some 49, some 50, some 51, some 52, some 53, some 54, some 55, some 56, some 57, some 58, some 59, some 60, some 61, some 62, some 63, some 64, some 65, some 66, some 67, some 68, some 69, some 70, some 71, some 72, some 73, some 74, some 75, some 76, some 77, some 78, some 79, some 80, some 81, some 82, some 83, some 84, some 85, some 86, some 87, some 88, some 89, some 90, some 91, some 92, some 93, some 94, some 95] 146 (by kernel_rfl) (by kernel_rfl) (by kernel_rfl) rfl (Rgb.grows_fair _ _) (Rgb.keep_drew _) (trivial) ?_
  refine Rgb.op_is (.bool true) [] rfl rfl (by kernel_rfl) ?_ ?_
  · intro wx hb
    refine Rgb.from_nil fun T hT => ?_
    go_wp2_with (fail)
    refine (works_c wx).mono ?_
    rintro e w2 ⟨rfl, hw2⟩
    go_wp2
    exact hT _ _ rfl hw2 rfl
  refine Rgb.op_is (.bool false) [0] rfl rfl (by kernel_rfl) ?_ ?_
  · intro wx hb
    refine Rgb.from_is (some 37) rfl rfl ?_
    refine Rgb.from_nil fun T hT => ?_
    go_wp2
    exact hT _ _ rfl (by first | exact Rgb.Keep.refl _ | exact below_of_dr hw2 | exact hw2 | exact (Below.refl _ _).alloc (Nat.le_refl _) _) (by first | rfl | exact congrArg _ (by decide))
  refine Rgb.op_is (.bool false) [1] rfl rfl (by kernel_rfl) ?_ ?_
  · intro wx hb
    refine Rgb.from_is (some 38) rfl rfl ?_
    refine Rgb.from_nil fun T hT => ?_
    go_wp2
    exact hT _ _ rfl (by first | exact Rgb.Keep.refl _ | exact below_of_dr hw2 | exact hw2 | exact (Below.refl _ _).alloc (Nat.le_refl _) _) (by first | rfl | exact congrArg _ (by decide))
  refine Rgb.op_is (.bool false) [2] rfl rfl (by kernel_rfl) ?_ ?_
  · intro wx hb
    refine Rgb.from_is (some 39) rfl rfl ?_
    refine Rgb.from_nil fun T hT => ?_
    go_wp2
    exact hT _ _ rfl (by first | exact Rgb.Keep.refl _ | exact below_of_dr hw2 | exact hw2 | exact (Below.refl _ _).alloc (Nat.le_refl _) _) (by first | rfl | exact congrArg _ (by decide))
  refine Rgb.op_is (.bool false) [3] rfl rfl (by kernel_rfl) ?_ ?_
  · intro wx hb
    refine Rgb.from_is (some 40) rfl rfl ?_
    refine Rgb.from_nil fun T hT => ?_
    go_wp2
    exact hT _ _ rfl (by first | exact Rgb.Keep.refl _ | exact below_of_dr hw2 | exact hw2 | exact (Below.refl _ _).alloc (Nat.le_refl _) _) (by first | rfl | exact congrArg _ (by decide))
  refine Rgb.op_is (.bool false) [4] rfl rfl (by kernel_rfl) ?_ ?_
  · intro wx hb
    refine Rgb.from_is (some 41) rfl rfl ?_
    refine Rgb.from_nil fun T hT => ?_
    go_wp2
    exact hT _ _ rfl (by first | exact Rgb.Keep.refl _ | exact below_of_dr hw2 | exact hw2 | exact (Below.refl _ _).alloc (Nat.le_refl _) _) (by first | rfl | exact congrArg _ (by decide))
  refine Rgb.op_is (.bool false) [5] rfl rfl (by kernel_rfl) ?_ ?_
  · intro wx hb
    refine Rgb.from_is (some 42) rfl rfl ?_
    refine Rgb.from_nil fun T hT => ?_
    go_wp2
    exact hT _ _ rfl (by first | exact Rgb.Keep.refl _ | exact below_of_dr hw2 | exact hw2 | exact (Below.refl _ _).alloc (Nat.le_refl _) _) (by first | rfl | exact congrArg _ (by decide))
  refine' Rgb.op_is _ [] rfl rfl (by kernel_rfl) ?_ ?_
  rotate_left
  · intro wx hb
    refine Rgb.from_nil fun T hT => ?_
    go_wp2
    refine hT _ _ rfl (by first | exact Rgb.Keep.refl _ | exact below_of_dr hw2 | exact hw2 | exact (Below.refl _ _).alloc (Nat.le_refl _) _) ?_
    simp only [Rgb.last, List.getElem?_toArray, List.getElem?_cons_succ, List.getElem?_cons_zero, Option.getD_some]
    rfl
  refine Rgb.op_is (.bool false) [7] rfl rfl (by kernel_rfl) ?_ ?_
  · intro wx hb
    refine Rgb.from_is (some 44) rfl rfl ?_
    refine Rgb.from_nil fun T hT => ?_
    go_wp2
    exact hT _ _ rfl (by first | exact Rgb.Keep.refl _ | exact below_of_dr hw2 | exact hw2 | exact (Below.refl _ _).alloc (Nat.le_refl _) _) (by first | rfl | exact congrArg _ (by decide))
  refine Rgb.op_is (.bool false) [6, 8] rfl rfl (by kernel_rfl) ?_ ?_
  · intro wx hb
    refine Rgb.from_is (some 43) rfl rfl ?_
    refine Rgb.from_is (some 45) rfl rfl ?_
    refine Rgb.from_nil fun T hT => ?_
    go_wp2
    exact hT _ _ rfl (by first | exact Rgb.Keep.refl _ | exact below_of_dr hw2 | exact hw2 | exact (Below.refl _ _).alloc (Nat.le_refl _) _) (by first | rfl | exact congrArg _ (by decide))
  refine Rgb.op_is (.bool false) [9] rfl rfl (by kernel_rfl) ?_ ?_
  · intro wx hb
    refine Rgb.from_is (some 46) rfl rfl ?_
    refine Rgb.from_nil fun T hT => ?_
    go_wp2
    exact hT _ _ rfl (by first | exact Rgb.Keep.refl _ | exact below_of_dr hw2 | exact hw2 | exact (Below.refl _ _).alloc (Nat.le_refl _) _) (by first | rfl | exact congrArg _ (by decide))
  refine' Rgb.op_is _ [] rfl rfl (by kernel_rfl) ?_ ?_
  rotate_left
  · intro wx hb
    refine Rgb.from_nil fun T hT => ?_
    go_wp2
    refine hT _ _ rfl (by first | exact Rgb.Keep.refl _ | exact below_of_dr hw2 | exact hw2 | exact (Below.refl _ _).alloc (Nat.le_refl _) _) ?_
    simp only [Rgb.last, List.getElem?_toArray, List.getElem?_cons_succ, List.getElem?_cons_zero, Option.getD_some]
    rfl
  refine Rgb.op_is (.int .i64 0) [11] rfl rfl (by kernel_rfl) ?_ ?_
  · intro wx hb
    refine Rgb.from_is (some 48) rfl rfl ?_
    refine Rgb.from_nil fun T hT => ?_
    go_wp2
    exact hT _ _ rfl (by first | exact Rgb.Keep.refl _ | exact below_of_dr hw2 | exact hw2 | exact (Below.refl _ _).alloc (Nat.le_refl _) _) (by first | rfl | exact congrArg _ (by decide))
  refine Rgb.op_is (.bool false) [12] rfl rfl (by kernel_rfl) ?_ ?_
  · intro wx hb
    refine Rgb.from_is (some 49) rfl rfl ?_
    refine Rgb.from_nil fun T hT => ?_
    go_wp2
    exact hT _ _ rfl (by first | exact Rgb.Keep.refl _ | exact below_of_dr hw2 | exact hw2 | exact (Below.refl _ _).alloc (Nat.le_refl _) _) (by first | rfl | exact congrArg _ (by decide))
  refine Rgb.op_is (.bool false) [10, 13] rfl rfl (by kernel_rfl) ?_ ?_
  · intro wx hb
    refine Rgb.from_is (some 47) rfl rfl ?_
    refine Rgb.from_is (some 50) rfl rfl ?_
    refine Rgb.from_nil fun T hT => ?_
    go_wp2
    exact hT _ _ rfl (by first | exact Rgb.Keep.refl _ | exact below_of_dr hw2 | exact hw2 | exact (Below.refl _ _).alloc (Nat.le_refl _) _) (by first | rfl | exact congrArg _ (by decide))
  refine Rgb.op_is (.bool false) [14] rfl rfl (by kernel_rfl) ?_ ?_
  · intro wx hb
    refine Rgb.from_is (some 51) rfl rfl ?_
    refine Rgb.from_nil fun T hT => ?_
    go_wp2
    exact hT _ _ rfl (by first | exact Rgb.Keep.refl _ | exact below_of_dr hw2 | exact hw2 | exact (Below.refl _ _).alloc (Nat.le_refl _) _) (by first | rfl | exact congrArg _ (by decide))
  refine' Rgb.op_is _ [] rfl rfl (by kernel_rfl) ?_ ?_
  rotate_left
  · intro wx hb
    refine Rgb.from_nil fun T hT => ?_
    go_wp2
    refine hT _ _ rfl (by first | exact Rgb.Keep.refl _ | exact below_of_dr hw2 | exact hw2 | exact (Below.refl _ _).alloc (Nat.le_refl _) _) ?_
    simp only [Rgb.last, List.getElem?_toArray, List.getElem?_cons_succ, List.getElem?_cons_zero, Option.getD_some]
    rfl
  refine Rgb.op_is (.bool false) [16] rfl rfl (by kernel_rfl) ?_ ?_
  · intro wx hb
    refine Rgb.from_is (some 53) rfl rfl ?_
    refine Rgb.from_nil fun T hT => ?_
    go_wp2
    exact hT _ _ rfl (by first | exact Rgb.Keep.refl _ | exact below_of_dr hw2 | exact hw2 | exact (Below.refl _ _).alloc (Nat.le_refl _) _) (by first | rfl | exact congrArg _ (by decide))
  refine Rgb.op_is (.bool false) [15, 17] rfl rfl (by kernel_rfl) ?_ ?_
  · intro wx hb
    refine Rgb.from_is (some 52) rfl rfl ?_
    refine Rgb.from_is (some 54) rfl rfl ?_
    refine Rgb.from_nil fun T hT => ?_
    go_wp2
    exact hT _ _ rfl (by first | exact Rgb.Keep.refl _ | exact below_of_dr hw2 | exact hw2 | exact (Below.refl _ _).alloc (Nat.le_refl _) _) (by first | rfl | exact congrArg _ (by decide))
  refine Rgb.op_is (.bool false) [18] rfl rfl (by kernel_rfl) ?_ ?_
  · intro wx hb
    refine Rgb.from_is (some 55) rfl rfl ?_
    refine Rgb.from_nil fun T hT => ?_
    go_wp2
    exact hT _ _ rfl (by first | exact Rgb.Keep.refl _ | exact below_of_dr hw2 | exact hw2 | exact (Below.refl _ _).alloc (Nat.le_refl _) _) (by first | rfl | exact congrArg _ (by decide))
  refine' Rgb.op_is _ [] rfl rfl (by kernel_rfl) ?_ ?_
  rotate_left
  · intro wx hb
    refine Rgb.from_nil fun T hT => ?_
    go_wp2
    refine hT _ _ rfl (by first | exact Rgb.Keep.refl _ | exact below_of_dr hw2 | exact hw2 | exact (Below.refl _ _).alloc (Nat.le_refl _) _) ?_
    simp only [Rgb.last, List.getElem?_toArray, List.getElem?_cons_succ, List.getElem?_cons_zero, Option.getD_some]
    rfl
  refine Rgb.op_of (fun w' v => ∃ g, v = Value.slice (some ⟨g, 0, none⟩) 2 2 ∧ Row1 w' g 23 [.int .u64 5, .int .u64 2]) [] rfl ?_ ?_ rfl (by kernel_rfl) ?_ ?_
  · exact fun w1 w2 v hk ⟨g, e, h⟩ => ⟨g, e, h.below hk⟩
  · exact fun w1 w2 v hk ⟨g, e, h⟩ => ⟨g, e, h.below hk⟩
  · intro wx hb
    refine Rgb.from_nil fun T hT => ?_
    go_wp2
    exact hT _ _ rfl (below_alloc _ _) ⟨_, rfl, row1_new wx [.int .u64 5, .int .u64 2] 23⟩
  refine Rgb.op_of (fun w' v => ∃ A c, v = Value.slice A 1 c ∧ Grid w' A [[5, 2]]) [21] rfl ?_ ?_ rfl (by kernel_rfl) ?_ ?_
  · exact fun w1 w2 v hk ⟨A, c, e, h⟩ => ⟨A, c, e, h.below hk⟩
  · exact fun w1 w2 v hk ⟨A, c, e, h⟩ => ⟨A, c, e, h.below hk⟩
  · intro wx hb
    refine Rgb.from_of (some 58) rfl rfl fun v58 h58 => ?_
    refine Rgb.from_nil fun T hT => ?_
    obtain ⟨g, rfl, hg⟩ := h58
    go_wp2
    exact hT _ _ rfl (below_alloc _ _) ⟨_, _, rfl, grid_one [5, 2] (row1_new wx [_] 26) (hg.below (below_alloc _ _)) (by decide)⟩
  refine Rgb.op_is (.bool true) [20, 22] rfl rfl (by kernel_rfl) ?_ ?_
  · intro wx hb
    refine Rgb.from_is (some 57) rfl rfl ?_
    refine Rgb.from_of (some 59) rfl rfl fun v59 h59 => ?_
    refine Rgb.from_nil fun T hT => ?_
    obtain ⟨A9, c9, rfl, g9⟩ := h59
    go_wp2_with (fail)
    refine (polys_c A2 A9 [[5, 2]] [[5, 2]] k2 c9 wx (hG2.below hb) g9 (by decide) (by decide)).mono ?_
    rintro e w2 ⟨rfl, hw⟩
    rw [show decide (([[5, 2]] : List (List Int)) = [[5, 2]]) = true from by decide]
    go_wp2
    exact hT _ _ rfl (below_of_dr hw) rfl
  refine Rgb.op_is (.bool false) [23] rfl rfl (by kernel_rfl) ?_ ?_
  · intro wx hb
    refine Rgb.from_is (some 60) rfl rfl ?_
    refine Rgb.from_nil fun T hT => ?_
    go_wp2
    exact hT _ _ rfl (by first | exact Rgb.Keep.refl _ | exact below_of_dr hw2 | exact hw2 | exact (Below.refl _ _).alloc (Nat.le_refl _) _) (by first | rfl | exact congrArg _ (by decide))
  refine Rgb.op_is (.bool false) [19, 24] rfl rfl (by kernel_rfl) ?_ ?_
  · intro wx hb
    refine Rgb.from_is (some 56) rfl rfl ?_
    refine Rgb.from_is (some 61) rfl rfl ?_
    refine Rgb.from_nil fun T hT => ?_
    go_wp2
    exact hT _ _ rfl (by first | exact Rgb.Keep.refl _ | exact below_of_dr hw2 | exact hw2 | exact (Below.refl _ _).alloc (Nat.le_refl _) _) (by first | rfl | exact congrArg _ (by decide))
  refine Rgb.op_is (.bool false) [25] rfl rfl (by kernel_rfl) ?_ ?_
  · intro wx hb
    refine Rgb.from_is (some 62) rfl rfl ?_
    refine Rgb.from_nil fun T hT => ?_
    go_wp2
    exact hT _ _ rfl (by first | exact Rgb.Keep.refl _ | exact below_of_dr hw2 | exact hw2 | exact (Below.refl _ _).alloc (Nat.le_refl _) _) (by first | rfl | exact congrArg _ (by decide))
  refine' Rgb.op_is _ [] rfl rfl (by kernel_rfl) ?_ ?_
  rotate_left
  · intro wx hb
    refine Rgb.from_nil fun T hT => ?_
    go_wp2
    refine hT _ _ rfl (by first | exact Rgb.Keep.refl _ | exact below_of_dr hw2 | exact hw2 | exact (Below.refl _ _).alloc (Nat.le_refl _) _) ?_
    simp only [Rgb.last, List.getElem?_toArray, List.getElem?_cons_succ, List.getElem?_cons_zero, Option.getD_some]
    rfl
  refine Rgb.op_is (.bool false) [27] rfl rfl (by kernel_rfl) ?_ ?_
  · intro wx hb
    refine Rgb.from_is (some 64) rfl rfl ?_
    refine Rgb.from_nil fun T hT => ?_
    go_wp2
    exact hT _ _ rfl (by first | exact Rgb.Keep.refl _ | exact below_of_dr hw2 | exact hw2 | exact (Below.refl _ _).alloc (Nat.le_refl _) _) (by first | rfl | exact congrArg _ (by decide))
  refine Rgb.op_is (.bool false) [26, 28] rfl rfl (by kernel_rfl) ?_ ?_
  · intro wx hb
    refine Rgb.from_is (some 63) rfl rfl ?_
    refine Rgb.from_is (some 65) rfl rfl ?_
    refine Rgb.from_nil fun T hT => ?_
    go_wp2
    exact hT _ _ rfl (by first | exact Rgb.Keep.refl _ | exact below_of_dr hw2 | exact hw2 | exact (Below.refl _ _).alloc (Nat.le_refl _) _) (by first | rfl | exact congrArg _ (by decide))
  refine Rgb.op_is (.bool false) [29] rfl rfl (by kernel_rfl) ?_ ?_
  · intro wx hb
    refine Rgb.from_is (some 66) rfl rfl ?_
    refine Rgb.from_nil fun T hT => ?_
    go_wp2
    exact hT _ _ rfl (by first | exact Rgb.Keep.refl _ | exact below_of_dr hw2 | exact hw2 | exact (Below.refl _ _).alloc (Nat.le_refl _) _) (by first | rfl | exact congrArg _ (by decide))
  refine' Rgb.op_is _ [] rfl rfl (by kernel_rfl) ?_ ?_
  rotate_left
  · intro wx hb
    refine Rgb.from_nil fun T hT => ?_
    go_wp2
    refine hT _ _ rfl (by first | exact Rgb.Keep.refl _ | exact below_of_dr hw2 | exact hw2 | exact (Below.refl _ _).alloc (Nat.le_refl _) _) ?_
    simp only [Rgb.last, List.getElem?_toArray, List.getElem?_cons_succ, List.getElem?_cons_zero, Option.getD_some]
    rfl
  refine Rgb.op_of (fun w' v => ∃ g, v = Value.slice (some ⟨g, 0, none⟩) 2 2 ∧ Row1 w' g 23 [.int .u64 0, .int .u64 6]) [] rfl ?_ ?_ rfl (by kernel_rfl) ?_ ?_
  · exact fun w1 w2 v hk ⟨g, e, h⟩ => ⟨g, e, h.below hk⟩
  · exact fun w1 w2 v hk ⟨g, e, h⟩ => ⟨g, e, h.below hk⟩
  · intro wx hb
    refine Rgb.from_nil fun T hT => ?_
    go_wp2
    exact hT _ _ rfl (below_alloc _ _) ⟨_, rfl, row1_new wx [.int .u64 0, .int .u64 6] 23⟩
  refine Rgb.op_of (fun w' v => ∃ g, v = Value.slice (some ⟨g, 0, none⟩) 2 2 ∧ Row1 w' g 23 [.int .u64 0, .int .u64 1]) [] rfl ?_ ?_ rfl (by kernel_rfl) ?_ ?_
  · exact fun w1 w2 v hk ⟨g, e, h⟩ => ⟨g, e, h.below hk⟩
  · exact fun w1 w2 v hk ⟨g, e, h⟩ => ⟨g, e, h.below hk⟩
  · intro wx hb
    refine Rgb.from_nil fun T hT => ?_
    go_wp2
    exact hT _ _ rfl (below_alloc _ _) ⟨_, rfl, row1_new wx [.int .u64 0, .int .u64 1] 23⟩
  refine Rgb.op_of (fun w' v => ∃ A c, v = Value.slice A 2 c ∧ Grid w' A [[0, 6], [0, 1]]) [32, 33] rfl ?_ ?_ rfl (by kernel_rfl) ?_ ?_
  · exact fun w1 w2 v hk ⟨A, c, e, h⟩ => ⟨A, c, e, h.below hk⟩
  · exact fun w1 w2 v hk ⟨A, c, e, h⟩ => ⟨A, c, e, h.below hk⟩
  · intro wx hb
    refine Rgb.from_of (some 69) rfl rfl fun v69 h69 => ?_
    refine Rgb.from_of (some 70) rfl rfl fun v70 h70 => ?_
    refine Rgb.from_nil fun T hT => ?_
    obtain ⟨g, rfl, hg⟩ := h69
    obtain ⟨g2, rfl, hg2⟩ := h70
    go_wp2
    exact hT _ _ rfl (below_alloc _ _) ⟨_, _, rfl, grid_two [0, 6] [0, 1] (row1_new wx [_, _] 26) (hg.below (below_alloc _ _)) (hg2.below (below_alloc _ _)) (by decide) (by decide)⟩
  refine Rgb.op_is (.bool true) [31, 34] rfl rfl (by kernel_rfl) ?_ ?_
  · intro wx hb
    refine Rgb.from_is (some 68) rfl rfl ?_
    refine Rgb.from_of (some 71) rfl rfl fun v71 h71 => ?_
    refine Rgb.from_nil fun T hT => ?_
    obtain ⟨A9, c9, rfl, g9⟩ := h71
    go_wp2_with (fail)
    refine (polys_c A3 A9 [[0, 6], [0, 1]] [[0, 6], [0, 1]] k3 c9 wx (hG3.below hb) g9 (by decide) (by decide)).mono ?_
    rintro e w2 ⟨rfl, hw⟩
    rw [show decide (([[0, 6], [0, 1]] : List (List Int)) = [[0, 6], [0, 1]]) = true from by decide]
    go_wp2
    exact hT _ _ rfl (below_of_dr hw) rfl
  refine Rgb.op_is (.bool false) [35] rfl rfl (by kernel_rfl) ?_ ?_
  · intro wx hb
    refine Rgb.from_is (some 72) rfl rfl ?_
    refine Rgb.from_nil fun T hT => ?_
    go_wp2
    exact hT _ _ rfl (by first | exact Rgb.Keep.refl _ | exact below_of_dr hw2 | exact hw2 | exact (Below.refl _ _).alloc (Nat.le_refl _) _) (by first | rfl | exact congrArg _ (by decide))
  refine Rgb.op_is (.bool false) [30, 36] rfl rfl (by kernel_rfl) ?_ ?_
  · intro wx hb
    refine Rgb.from_is (some 67) rfl rfl ?_
    refine Rgb.from_is (some 73) rfl rfl ?_
    refine Rgb.from_nil fun T hT => ?_
    go_wp2
    exact hT _ _ rfl (by first | exact Rgb.Keep.refl _ | exact below_of_dr hw2 | exact hw2 | exact (Below.refl _ _).alloc (Nat.le_refl _) _) (by first | rfl | exact congrArg _ (by decide))
  refine Rgb.op_is (.bool false) [37] rfl rfl (by kernel_rfl) ?_ ?_
  · intro wx hb
    refine Rgb.from_is (some 74) rfl rfl ?_
    refine Rgb.from_nil fun T hT => ?_
    go_wp2
    exact hT _ _ rfl (by first | exact Rgb.Keep.refl _ | exact below_of_dr hw2 | exact hw2 | exact (Below.refl _ _).alloc (Nat.le_refl _) _) (by first | rfl | exact congrArg _ (by decide))
  refine' Rgb.op_is _ [] rfl rfl (by kernel_rfl) ?_ ?_
  rotate_left
  · intro wx hb
    refine Rgb.from_nil fun T hT => ?_
    go_wp2
    refine hT _ _ rfl (by first | exact Rgb.Keep.refl _ | exact below_of_dr hw2 | exact hw2 | exact (Below.refl _ _).alloc (Nat.le_refl _) _) ?_
    simp only [Rgb.last, List.getElem?_toArray, List.getElem?_cons_succ, List.getElem?_cons_zero, Option.getD_some]
    rfl
  refine Rgb.op_is (.bool false) [39] rfl rfl (by kernel_rfl) ?_ ?_
  · intro wx hb
    refine Rgb.from_is (some 76) rfl rfl ?_
    refine Rgb.from_nil fun T hT => ?_
    go_wp2
    exact hT _ _ rfl (by first | exact Rgb.Keep.refl _ | exact below_of_dr hw2 | exact hw2 | exact (Below.refl _ _).alloc (Nat.le_refl _) _) (by first | rfl | exact congrArg _ (by decide))
  refine Rgb.op_is (.bool false) [38, 40] rfl rfl (by kernel_rfl) ?_ ?_
  · intro wx hb
    refine Rgb.from_is (some 75) rfl rfl ?_
    refine Rgb.from_is (some 77) rfl rfl ?_
    refine Rgb.from_nil fun T hT => ?_
    go_wp2
    exact hT _ _ rfl (by first | exact Rgb.Keep.refl _ | exact below_of_dr hw2 | exact hw2 | exact (Below.refl _ _).alloc (Nat.le_refl _) _) (by first | rfl | exact congrArg _ (by decide))
  refine Rgb.op_is (.bool false) [41] rfl rfl (by kernel_rfl) ?_ ?_
  · intro wx hb
    refine Rgb.from_is (some 78) rfl rfl ?_
    refine Rgb.from_nil fun T hT => ?_
    go_wp2
    exact hT _ _ rfl (by first | exact Rgb.Keep.refl _ | exact below_of_dr hw2 | exact hw2 | exact (Below.refl _ _).alloc (Nat.le_refl _) _) (by first | rfl | exact congrArg _ (by decide))
  refine' Rgb.op_is _ [] rfl rfl (by kernel_rfl) ?_ ?_
  rotate_left
  · intro wx hb
    refine Rgb.from_nil fun T hT => ?_
    go_wp2
    refine hT _ _ rfl (by first | exact Rgb.Keep.refl _ | exact below_of_dr hw2 | exact hw2 | exact (Below.refl _ _).alloc (Nat.le_refl _) _) ?_
    simp only [Rgb.last, List.getElem?_toArray, List.getElem?_cons_succ, List.getElem?_cons_zero, Option.getD_some]
    rfl
  refine' Rgb.op_is _ [43] rfl rfl (by kernel_rfl) ?_ ?_
  rotate_left
  · intro wx hb
    refine Rgb.from_is (some 80) rfl rfl ?_
    refine Rgb.from_nil fun T hT => ?_
    go_wp2
    refine hT _ _ rfl (by first | exact Rgb.Keep.refl _ | exact below_of_dr hw2 | exact hw2 | exact (Below.refl _ _).alloc (Nat.le_refl _) _) ?_
    simp only [Rgb.last, List.getElem?_toArray, List.getElem?_cons_succ, List.getElem?_cons_zero, Option.getD_some]
    rfl
  refine Rgb.op_is (.bool false) [44] rfl rfl (by kernel_rfl) ?_ ?_
  · intro wx hb
    refine Rgb.from_is (some 81) rfl rfl ?_
    refine Rgb.from_nil fun T hT => ?_
    go_wp2
    exact hT _ _ rfl (by first | exact Rgb.Keep.refl _ | exact below_of_dr hw2 | exact hw2 | exact (Below.refl _ _).alloc (Nat.le_refl _) _) (by first | rfl | exact congrArg _ (by decide))
  refine Rgb.op_is (.bool false) [42, 45] rfl rfl (by kernel_rfl) ?_ ?_
  · intro wx hb
    refine Rgb.from_is (some 79) rfl rfl ?_
    refine Rgb.from_is (some 82) rfl rfl ?_
    refine Rgb.from_nil fun T hT => ?_
    go_wp2
    exact hT _ _ rfl (by first | exact Rgb.Keep.refl _ | exact below_of_dr hw2 | exact hw2 | exact (Below.refl _ _).alloc (Nat.le_refl _) _) (by first | rfl | exact congrArg _ (by decide))
  refine Rgb.op_is (.bool false) [46] rfl rfl (by kernel_rfl) ?_ ?_
  · intro wx hb
    refine Rgb.from_is (some 83) rfl rfl ?_
    refine Rgb.from_nil fun T hT => ?_
    go_wp2
    exact hT _ _ rfl (by first | exact Rgb.Keep.refl _ | exact below_of_dr hw2 | exact hw2 | exact (Below.refl _ _).alloc (Nat.le_refl _) _) (by first | rfl | exact congrArg _ (by decide))
  refine' Rgb.op_is _ [] rfl rfl (by kernel_rfl) ?_ ?_
  rotate_left
  · intro wx hb
    refine Rgb.from_nil fun T hT => ?_
    go_wp2
    refine hT _ _ rfl (by first | exact Rgb.Keep.refl _ | exact below_of_dr hw2 | exact hw2 | exact (Below.refl _ _).alloc (Nat.le_refl _) _) ?_
    simp only [Rgb.last, List.getElem?_toArray, List.getElem?_cons_succ, List.getElem?_cons_zero, Option.getD_some]
    rfl
  refine Rgb.op_is (.pointer (some ⟨o4, off4, none⟩)) [48] rfl rfl (by kernel_rfl) ?_ ?_
  · intro wx hb
    refine Rgb.from_is (some 85) rfl rfl ?_
    refine Rgb.from_nil fun T hT => ?_
    go_wp2
    exact hT _ _ rfl (by first | exact Rgb.Keep.refl _ | exact below_of_dr hw2 | exact hw2 | exact (Below.refl _ _).alloc (Nat.le_refl _) _) (by first | rfl | exact congrArg _ (by decide))
  refine Rgb.op_is (.slice B4 0 b4) [49] rfl rfl (by kernel_rfl) ?_ ?_
  · intro wx hb
    refine Rgb.from_is (some 86) rfl rfl ?_
    refine Rgb.from_nil fun T hT => ?_
    have g1 := (hb.cell (lt_of_cell hc0)).trans hc0
    go_wp2
    exact hT _ _ rfl (by first | exact Rgb.Keep.refl _ | exact below_of_dr hw2 | exact hw2 | exact (Below.refl _ _).alloc (Nat.le_refl _) _) (by first | rfl | exact congrArg _ (by decide))
  refine Rgb.op_is (.int .i64 0) [50] rfl rfl (by kernel_rfl) ?_ ?_
  · intro wx hb
    refine Rgb.from_is (some 87) rfl rfl ?_
    refine Rgb.from_nil fun T hT => ?_
    go_wp2
    exact hT _ _ rfl (by first | exact Rgb.Keep.refl _ | exact below_of_dr hw2 | exact hw2 | exact (Below.refl _ _).alloc (Nat.le_refl _) _) (by first | rfl | exact congrArg _ (by decide))
  refine' Rgb.op_is _ [] rfl rfl (by kernel_rfl) ?_ ?_
  rotate_left
  · intro wx hb
    refine Rgb.from_nil fun T hT => ?_
    go_wp2
    refine hT _ _ rfl (by first | exact Rgb.Keep.refl _ | exact below_of_dr hw2 | exact hw2 | exact (Below.refl _ _).alloc (Nat.le_refl _) _) ?_
    simp only [Rgb.last, List.getElem?_toArray, List.getElem?_cons_succ, List.getElem?_cons_zero, Option.getD_some]
    rfl
  refine Rgb.op_is (.pointer (some ⟨o4, off4 + 1, none⟩)) [52] rfl rfl (by kernel_rfl) ?_ ?_
  · intro wx hb
    refine Rgb.from_is (some 89) rfl rfl ?_
    refine Rgb.from_nil fun T hT => ?_
    go_wp2
    exact hT _ _ rfl (by first | exact Rgb.Keep.refl _ | exact below_of_dr hw2 | exact hw2 | exact (Below.refl _ _).alloc (Nat.le_refl _) _) (by first | rfl | exact congrArg _ (by decide))
  refine Rgb.op_is (.slice B5 0 b5) [53] rfl rfl (by kernel_rfl) ?_ ?_
  · intro wx hb
    refine Rgb.from_is (some 90) rfl rfl ?_
    refine Rgb.from_nil fun T hT => ?_
    have g1 := (hb.cell (lt_of_cell hc1)).trans hc1
    go_wp2
    exact hT _ _ rfl (by first | exact Rgb.Keep.refl _ | exact below_of_dr hw2 | exact hw2 | exact (Below.refl _ _).alloc (Nat.le_refl _) _) (by first | rfl | exact congrArg _ (by decide))
  refine Rgb.op_is (.int .i64 0) [54] rfl rfl (by kernel_rfl) ?_ ?_
  · intro wx hb
    refine Rgb.from_is (some 91) rfl rfl ?_
    refine Rgb.from_nil fun T hT => ?_
    go_wp2
    exact hT _ _ rfl (by first | exact Rgb.Keep.refl _ | exact below_of_dr hw2 | exact hw2 | exact (Below.refl _ _).alloc (Nat.le_refl _) _) (by first | rfl | exact congrArg _ (by decide))
  refine Rgb.op_is (.int .i64 0) [51, 55] rfl rfl (by kernel_rfl) ?_ ?_
  · intro wx hb
    refine Rgb.from_is (some 88) rfl rfl ?_
    refine Rgb.from_is (some 92) rfl rfl ?_
    refine Rgb.from_nil fun T hT => ?_
    go_wp2
    exact hT _ _ rfl (by first | exact Rgb.Keep.refl _ | exact below_of_dr hw2 | exact hw2 | exact (Below.refl _ _).alloc (Nat.le_refl _) _) (by first | rfl | exact congrArg _ (by decide))
  refine Rgb.op_is (.bool false) [56] rfl rfl (by kernel_rfl) ?_ ?_
  · intro wx hb
    refine Rgb.from_is (some 93) rfl rfl ?_
    refine Rgb.from_nil fun T hT => ?_
    go_wp2
    exact hT _ _ rfl (by first | exact Rgb.Keep.refl _ | exact below_of_dr hw2 | exact hw2 | exact (Below.refl _ _).alloc (Nat.le_refl _) _) (by first | rfl | exact congrArg _ (by decide))
  refine Rgb.walk_nil [0, 1, 2, 3, 4, 5, 6, 7, 8, 9, 10, 11, 12, 13, 14, 15, 16, 17, 18, 19, 20, 21, 22, 23, 24, 25, 26, 27, 28, 29, 30, 31, 32, 33, 34, 35, 36, 37, 38, 39, 40, 41, 42, 43, 44, 45, 46, 47, 48, 49, 50, 51, 52, 53, 54, 55, 56, 57] (by kernel_rfl) ?_
  intro wx hb
  refine Rgb.from_is (some 37) rfl rfl ?_
  refine Rgb.from_is (some 38) rfl rfl ?_
  refine Rgb.from_is (some 39) rfl rfl ?_
  refine Rgb.from_is (some 40) rfl rfl ?_
  refine Rgb.from_is (some 41) rfl rfl ?_
  refine Rgb.from_is (some 42) rfl rfl ?_
  refine Rgb.from_is (some 43) rfl rfl ?_
  refine Rgb.from_is (some 44) rfl rfl ?_
  refine Rgb.from_is (some 45) rfl rfl ?_
  refine Rgb.from_is (some 46) rfl rfl ?_
  refine Rgb.from_is (some 47) rfl rfl ?_
  refine Rgb.from_is (some 48) rfl rfl ?_
  refine Rgb.from_is (some 49) rfl rfl ?_
  refine Rgb.from_is (some 50) rfl rfl ?_
  refine Rgb.from_is (some 51) rfl rfl ?_
  refine Rgb.from_is (some 52) rfl rfl ?_
  refine Rgb.from_is (some 53) rfl rfl ?_
  refine Rgb.from_is (some 54) rfl rfl ?_
  refine Rgb.from_is (some 55) rfl rfl ?_
  refine Rgb.from_is (some 56) rfl rfl ?_
  refine Rgb.from_is (some 57) rfl rfl ?_
  refine Rgb.from_of (some 58) rfl rfl fun v58 h58 => ?_
  refine Rgb.from_of (some 59) rfl rfl fun v59 h59 => ?_
  refine Rgb.from_is (some 60) rfl rfl ?_
  refine Rgb.from_is (some 61) rfl rfl ?_
  refine Rgb.from_is (some 62) rfl rfl ?_
  refine Rgb.from_is (some 63) rfl rfl ?_
  refine Rgb.from_is (some 64) rfl rfl ?_
  refine Rgb.from_is (some 65) rfl rfl ?_
  refine Rgb.from_is (some 66) rfl rfl ?_
  refine Rgb.from_is (some 67) rfl rfl ?_
  refine Rgb.from_is (some 68) rfl rfl ?_
  refine Rgb.from_of (some 69) rfl rfl fun v69 h69 => ?_
  refine Rgb.from_of (some 70) rfl rfl fun v70 h70 => ?_
  refine Rgb.from_of (some 71) rfl rfl fun v71 h71 => ?_
  refine Rgb.from_is (some 72) rfl rfl ?_
  refine Rgb.from_is (some 73) rfl rfl ?_
  refine Rgb.from_is (some 74) rfl rfl ?_
  refine Rgb.from_is (some 75) rfl rfl ?_
  refine Rgb.from_is (some 76) rfl rfl ?_
  refine Rgb.from_is (some 77) rfl rfl ?_
  refine Rgb.from_is (some 78) rfl rfl ?_
  refine Rgb.from_is (some 79) rfl rfl ?_
  refine Rgb.from_is (some 80) rfl rfl ?_
  refine Rgb.from_is (some 81) rfl rfl ?_
  refine Rgb.from_is (some 82) rfl rfl ?_
  refine Rgb.from_is (some 83) rfl rfl ?_
  refine Rgb.from_is (some 84) rfl rfl ?_
  refine Rgb.from_is (some 85) rfl rfl ?_
  refine Rgb.from_is (some 86) rfl rfl ?_
  refine Rgb.from_is (some 87) rfl rfl ?_
  refine Rgb.from_is (some 88) rfl rfl ?_
  refine Rgb.from_is (some 89) rfl rfl ?_
  refine Rgb.from_is (some 90) rfl rfl ?_
  refine Rgb.from_is (some 91) rfl rfl ?_
  refine Rgb.from_is (some 92) rfl rfl ?_
  refine Rgb.from_is (some 93) rfl rfl ?_
  refine Rgb.from_is (some 94) rfl rfl ?_
  refine Rgb.from_nil ?_
  simp only [List.map, Act.put, List.setIfInBounds_toArray, List.set_cons_zero, List.set_cons_succ]
  replace hf := hf.below hb
  replace hbw := below_next hbw hbw.size hb
  clear hG2 hG3 hc0 hc1 hb h58 h59 h69 h70 h71
  go_wp2_with (fail)
  refine (at_c none [] 0 1 1 7 wx (grid_none _) (by decide) (words_of (by decide)) ⟨by decide, by decide⟩ ⟨by decide, by decide⟩ ⟨by decide, by decide⟩).mono ?_
  rintro e y1 ⟨rfl, hb⟩
  rw [show mAt [] 1 1 7 = 0 from by decide]
  replace hf := hf.below hb
  replace hbw := below_next hbw hbw.size hb
  clear hb
  go_wp2_with (fail)
  refine (brow_c none [] 0 1 7 y1 (grid_none _) (by decide) (by decide) (words_of (by decide)) ⟨by decide, by decide⟩ ⟨by decide, by decide⟩).mono ?_
  rintro e y2 ⟨vy2, rfl, ho, hb⟩
  rw [show mRow [] 1 7 = [] from by decide] at ho
  obtain ⟨Ay2, cy2, rfl, hy2⟩ := ho.form
  replace hf := hf.below hb
  replace hbw := below_next hbw hbw.size hb
  clear hb ho
  clear hy2
  go_wp2_with (fail)
  refine (col_c none [] 0 1 7 y2 (grid_none _) (by decide) (words_of (by decide)) ⟨by decide, by decide⟩ ⟨by decide, by decide⟩).mono ?_
  rintro e y3 ⟨vy3, rfl, ho, hb⟩
  rw [show mCol [] 1 7 = [] from by decide] at ho
  obtain ⟨Ay3, cy3, rfl, hy3⟩ := ho.form
  replace hf := hf.below hb
  replace hbw := below_next hbw hbw.size hb
  clear hb ho
  clear hy3
  go_wp2_with (fail)
  refine (brow_c _ [[1], [], [0, 2, 3]] 3 2 7 y3 hf (by decide) (by decide) (words_of (by decide)) ⟨by decide, by decide⟩ ⟨by decide, by decide⟩).mono ?_
  rintro e y4 ⟨vy4, rfl, ho, hb⟩
  rw [show mRow [[1], [], [0, 2, 3]] 2 7 = [1, 1, 5] from by decide] at ho
  obtain ⟨Ay4, cy4, rfl, hy4⟩ := ho.form
  replace hf := hf.below hb
  replace hbw := below_next hbw hbw.size hb
  clear hb ho
  go_wp2_with (fail)
  refine (nums_c Ay4 _ [1, 1, 5] [1, 1, 5] cy4 3 _ (hy4.more (below_alloc _ _)) (new_cells y4 [1, 1, 5] 23) (by decide) (by decide)).mono ?_
  rintro e y5 ⟨rfl, hw⟩
  rw [show decide (([1, 1, 5] : List Int) = [1, 1, 5]) = true from by decide]
  have hb := below_dr (below_alloc y4 (.cells #[.int .u64 1, .int .u64 1, .int .u64 5] 23)) hw
  replace hf := hf.below hb
  replace hbw := below_next hbw hbw.size hb
  clear hb hw hy4
  go_wp2_with (fail)
  refine (col_c _ [[1], [], [0, 2, 3]] 3 2 7 y5 hf (by decide) (words_of (by decide)) ⟨by decide, by decide⟩ ⟨by decide, by decide⟩).mono ?_
  rintro e y6 ⟨vy6, rfl, ho, hb⟩
  rw [show mCol [[1], [], [0, 2, 3]] 2 7 = [1, 0, 2] from by decide] at ho
  obtain ⟨Ay6, cy6, rfl, hy6⟩ := ho.form
  replace hf := hf.below hb
  replace hbw := below_next hbw hbw.size hb
  clear hb ho
  go_wp2_with (fail)
  refine (nums_c Ay6 _ [1, 0, 2] [1, 0, 2] cy6 3 _ (hy6.more (below_alloc _ _)) (new_cells y6 [1, 0, 2] 23) (by decide) (by decide)).mono ?_
  rintro e y7 ⟨rfl, hw⟩
  rw [show decide (([1, 0, 2] : List Int) = [1, 0, 2]) = true from by decide]
  have hb := below_dr (below_alloc y6 (.cells #[.int .u64 1, .int .u64 0, .int .u64 2] 23)) hw
  replace hf := hf.below hb
  replace hbw := below_next hbw hbw.size hb
  clear hb hw hy6
  go_wp2_with (fail)
  refine (at_c _ [[1], [], [0, 2, 3]] 3 2 2 7 y7 hf (by decide) (words_of (by decide)) ⟨by decide, by decide⟩ ⟨by decide, by decide⟩ ⟨by decide, by decide⟩).mono ?_
  rintro e y8 ⟨rfl, hb⟩
  rw [show mAt [[1], [], [0, 2, 3]] 2 2 7 = 2 from by decide]
  replace hf := hf.below hb
  replace hbw := below_next hbw hbw.size hb
  clear hb
  go_wp2_with (fail)
  refine (at_c _ [[1], [], [0, 2, 3]] 3 2 2 0 y8 hf (by decide) (words_of (by decide)) ⟨by decide, by decide⟩ ⟨by decide, by decide⟩ ⟨by decide, by decide⟩).mono ?_
  rintro e y9 ⟨rfl, hb⟩
  rw [show mAt [[1], [], [0, 2, 3]] 2 2 0 = 0 from by decide]
  replace hf := hf.below hb
  replace hbw := below_next hbw hbw.size hb
  clear hb
  go_wp2_with (fail)
  refine (brow_c _ [[1], [], [0, 2, 3]] 3 2 0 y9 hf (by decide) (by decide) (words_of (by decide)) ⟨by decide, by decide⟩ ⟨by decide, by decide⟩).mono ?_
  rintro e y10 ⟨vy10, rfl, ho, hb⟩
  rw [show mRow [[1], [], [0, 2, 3]] 2 0 = [0, 0, 0] from by decide] at ho
  obtain ⟨Ay10, cy10, rfl, hy10⟩ := ho.form
  replace hf := hf.below hb
  replace hbw := below_next hbw hbw.size hb
  clear hb ho
  go_wp2_with (fail)
  refine (nums_c Ay10 _ [0, 0, 0] [0, 0, 0] cy10 3 _ (hy10.more (below_alloc _ _)) (new_cells y10 [0, 0, 0] 23) (by decide) (by decide)).mono ?_
  rintro e y11 ⟨rfl, hw⟩
  rw [show decide (([0, 0, 0] : List Int) = [0, 0, 0]) = true from by decide]
  have hb := below_dr (below_alloc y10 (.cells #[.int .u64 0, .int .u64 0, .int .u64 0] 23)) hw
  replace hf := hf.below hb
  replace hbw := below_next hbw hbw.size hb
  clear hb hw hy10
  go_wp2_with (fail)
  refine (at_c _ [[1], [], [0, 2, 3]] 3 0 0 7 y11 hf (by decide) (words_of (by decide)) ⟨by decide, by decide⟩ ⟨by decide, by decide⟩ ⟨by decide, by decide⟩).mono ?_
  rintro e y12 ⟨rfl, hb⟩
  rw [show mAt [[1], [], [0, 2, 3]] 0 0 7 = 1 from by decide]
  replace hf := hf.below hb
  replace hbw := below_next hbw hbw.size hb
  clear hb
  go_wp2_with (fail)
  refine (at_c _ [[1], [], [0, 2, 3]] 3 0 0 1 y12 hf (by decide) (words_of (by decide)) ⟨by decide, by decide⟩ ⟨by decide, by decide⟩ ⟨by decide, by decide⟩).mono ?_
  rintro e y13 ⟨rfl, hb⟩
  rw [show mAt [[1], [], [0, 2, 3]] 0 0 1 = 0 from by decide]
  replace hf := hf.below hb
  replace hbw := below_next hbw hbw.size hb
  clear hb
  go_wp2
  go_ret
  exact ⟨rfl, hbw⟩

set_option maxRecDepth 100000 in
theorem bivarNames_lifted (os : Os) (started : os.Started) (H : Type) (enc : TypeId × Value → H) :
    ReturnsInHanded {} Try.checked os 15 .any (Rows.bivarNamesSpec.pre6 enc Try.prog Try.f15 Rows.bivarNamesRow.domain false) (Rows.bivarNamesSpec.post enc Try.prog Try.f15 false true false false) := by
  refine returnsInHanded_of_change (C := Try.checked) Try.own started (by kernel_rfl) Try.func15
    (ChangeSpec.witness6 (enc := enc) (C := Try.checked) false ⟨#[], #[], []⟩ 8 (by kernel_rfl) (by kernel_rfl) (by kernel_rfl) (by kernel_rfl)) ?_
  intro W base args ds gs before hval0 hW hcnd _
  have hW' := hW
  obtain ⟨p, q, hA0, hV, rfl, hfz, hnd⟩ := hW
  have hA : DataW.TrodAll enc Try.prog W 0 (fun _ => true) true Try.f15.params.toList args.toList ds p := hA0
  rw [Try.params15] at hA
  obtain ⟨rfl, rfl⟩ := trodVars_none hV
  obtain ⟨l⟩ := args
  obtain ⟨rfl, rfl, rfl⟩ := trodAll_end hA
  clear hA0 hval0
  refine (bivarNames_c W).mono fun e W' ⟨he, hb⟩ => ?_
  subst he
  exact ⟨_, rfl, post_true hW' hb Try.laidOut (by kernel_rfl) rfl rfl rfl rfl rfl Try.underlying4⟩

theorem bivarNames_holds : Rows.BivarNamesSaid :=
  OpenClaim.holds_of_wide 15 Try.f15 rfl rfl rfl rfl rfl rfl rfl ⟨rfl, rfl, rfl, rfl, rfl⟩ rfl rfl rfl rfl rfl (by kernel_rfl) Try.func15 (by kernel_rfl)
    (of_decide_eq_true (by kernel_rfl)) (by unfold Func.isWrapper; first | (rw [if_pos (by decide +kernel)]; kernel_rfl) | (rw [if_neg (by decide +kernel)]; exact ⟨rfl, rfl⟩))
    (fun os started H enc _ => bivarNames_lifted os started H enc)
#print axioms bivarNames_holds


end Go.Proofs.Ytnmadmcegdpecaa
