/-
  The examples of the layer of models: they hold.
-/
import Derived.Test.YtnmadmcegdpecaaFixK
namespace Go.Proofs.Ytnmadmcegdpecaa
open Go.RowKit

theorem row1_at (w : World) (xs : List Value) (e : TypeId) (g : Nat) (h : w.heap.size = g) : Row1 (w.alloc (.cells xs.toArray e)) g e xs := by
  subst h; exact row1_new w xs e
theorem rowV_own {w : World} {b : Nat} {e : TypeId} {v : Value} {l : List Int} (h : Own w b e v (l.map (.int .u64))) : RowV w v l := by
  obtain ⟨A, c, hv, hc⟩ := h.form
  have := h.len_le
  rw [List.length_map] at hv this
  exact ⟨A, c, hv, hc, this⟩
theorem rowI_own {w : World} {b : Nat} {e : TypeId} {v : Value} {l : List Int} (h : Own w b e v (l.map (.int .i64))) : RowI w v l := by
  obtain ⟨A, c, hv, hc⟩ := h.form
  have := h.len_le
  rw [List.length_map] at hv this
  exact ⟨A, c, hv, hc, this⟩
theorem RowV.below {w w' : World} {v : Value} {l : List Int} (h : RowV w v l) (hb : Below w.heap.size w w') : RowV w' v l := h.keep fun _ hp => hb.cell hp
theorem RowI.below {w w' : World} {v : Value} {l : List Int} (h : RowI w v l) (hb : Below w.heap.size w w') : RowI w' v l := h.keep fun _ hp => hb.cell hp
theorem rowV_new (w : World) (l : List Int) (e : TypeId) (n : Nat) (hn : l.length = n) (h : l.length ≤ 9223372036854775807) : RowV (w.alloc (.cells (l.map (Value.int .u64)).toArray e)) (.slice (some ⟨w.heap.size, 0, none⟩) n n) l := by
  subst hn
  exact ⟨_, _, rfl, (row1_new w (l.map (.int .u64)) e).cells, h⟩
theorem rowI_new (w : World) (l : List Int) (e : TypeId) (n : Nat) (hn : l.length = n) (h : l.length ≤ 9223372036854775807) : RowI (w.alloc (.cells (l.map (Value.int .i64)).toArray e)) (.slice (some ⟨w.heap.size, 0, none⟩) n n) l := by
  subst hn
  exact ⟨_, _, rfl, (row1_new w (l.map (.int .i64)) e).cells, h⟩

theorem ints_of_decide {l : List Int} (h : (l.all fun n => decide (-9223372036854775808 ≤ n) && decide (n < 9223372036854775808)) = true) : I64s l := by
  intro z hz
  have := List.all_eq_true.1 h z hz
  simp only [Bool.and_eq_true, decide_eq_true_eq] at this
  exact this
theorem words_of_decide {l : List Int} (h : (l.all fun n => decide (0 ≤ n) && decide (n < 18446744073709551616)) = true) : U64s l := by
  intro z hz
  have := List.all_eq_true.1 h z hz
  simp only [Bool.and_eq_true, decide_eq_true_eq] at this
  exact this

set_option maxRecDepth 100000 in
set_option maxHeartbeats 4000000 in
theorem awake07_c (w : World) :
    Calls Try.prog 31 #[] w fun e w' => e = .returned (.bool true) ∧ Below w.heap.size w w' := by
  go_enter Try.func31, Try.ntmps31
  go_wp2
  have f0 := ((((row1_at w [.int .i64 2] 2 _ rfl).alloc (.cells #[.int .i64 (-3)] 2)).alloc (.cells #[.slice (some ⟨w.heap.size, 0, none⟩) 1 1, .slice (some ⟨w.heap.size + 1, 0, none⟩) 1 1] 42)).alloc (.cells #[.int .i64 1, .int .i64 0] 2)).alloc (.cells #[.slice (some ⟨w.heap.size + 1 + 1, 0, none⟩) 2 2, .slice (some ⟨w.heap.size + 1 + 1 + 1, 0, none⟩) 2 2] 44)
  have f1 := (((row1_at (w.alloc (.cells #[.int .i64 2] 2)) [.int .i64 (-3)] 2 (w.heap.size + 1) (by simp)).alloc (.cells #[.slice (some ⟨w.heap.size, 0, none⟩) 1 1, .slice (some ⟨w.heap.size + 1, 0, none⟩) 1 1] 42)).alloc (.cells #[.int .i64 1, .int .i64 0] 2)).alloc (.cells #[.slice (some ⟨w.heap.size + 1 + 1, 0, none⟩) 2 2, .slice (some ⟨w.heap.size + 1 + 1 + 1, 0, none⟩) 2 2] 44)
  have f2 := ((row1_at ((w.alloc (.cells #[.int .i64 2] 2)).alloc (.cells #[.int .i64 (-3)] 2)) [.slice (some ⟨w.heap.size, 0, none⟩) 1 1, .slice (some ⟨w.heap.size + 1, 0, none⟩) 1 1] 42 (w.heap.size + 1 + 1) (by simp)).alloc (.cells #[.int .i64 1, .int .i64 0] 2)).alloc (.cells #[.slice (some ⟨w.heap.size + 1 + 1, 0, none⟩) 2 2, .slice (some ⟨w.heap.size + 1 + 1 + 1, 0, none⟩) 2 2] 44)
  have f3 := (row1_at (((w.alloc (.cells #[.int .i64 2] 2)).alloc (.cells #[.int .i64 (-3)] 2)).alloc (.cells #[.slice (some ⟨w.heap.size, 0, none⟩) 1 1, .slice (some ⟨w.heap.size + 1, 0, none⟩) 1 1] 42)) [.int .i64 1, .int .i64 0] 2 (w.heap.size + 1 + 1 + 1) (by simp)).alloc (.cells #[.slice (some ⟨w.heap.size + 1 + 1, 0, none⟩) 2 2, .slice (some ⟨w.heap.size + 1 + 1 + 1, 0, none⟩) 2 2] 44)
  have f4 := row1_at ((((w.alloc (.cells #[.int .i64 2] 2)).alloc (.cells #[.int .i64 (-3)] 2)).alloc (.cells #[.slice (some ⟨w.heap.size, 0, none⟩) 1 1, .slice (some ⟨w.heap.size + 1, 0, none⟩) 1 1] 42)).alloc (.cells #[.int .i64 1, .int .i64 0] 2)) [.slice (some ⟨w.heap.size + 1 + 1, 0, none⟩) 2 2, .slice (some ⟨w.heap.size + 1 + 1 + 1, 0, none⟩) 2 2] 44 (w.heap.size + 1 + 1 + 1 + 1) (by simp)
  have hbw := ((((below_alloc w (.cells #[.int .i64 2] 2)).alloc (by simp) (.cells #[.int .i64 (-3)] 2)).alloc (by simp; omega) (.cells #[.slice (some ⟨w.heap.size, 0, none⟩) 1 1, .slice (some ⟨w.heap.size + 1, 0, none⟩) 1 1] 42)).alloc (by simp; omega) (.cells #[.int .i64 1, .int .i64 0] 2)).alloc (by simp; omega) (.cells #[.slice (some ⟨w.heap.size + 1 + 1, 0, none⟩) 2 2, .slice (some ⟨w.heap.size + 1 + 1 + 1, 0, none⟩) 2 2] 44)
  simp only [List.toArray] at f0 f1 f2 f3 f4
  generalize ((((w.alloc (.cells #[.int .i64 2] 2)).alloc (.cells #[.int .i64 (-3)] 2)).alloc (.cells #[.slice (some ⟨w.heap.size, 0, none⟩) 1 1, .slice (some ⟨w.heap.size + 1, 0, none⟩) 1 1] 42)).alloc (.cells #[.int .i64 1, .int .i64 0] 2)).alloc (.cells #[.slice (some ⟨w.heap.size + 1 + 1, 0, none⟩) 2 2, .slice (some ⟨w.heap.size + 1 + 1 + 1, 0, none⟩) 2 2] 44) = W at *
  have hG : GridI W (some ⟨w.heap.size + 1 + 1, 0, none⟩) [[2], [-3]] := by
    refine ⟨_, f2.cells, rfl, fun i l hl => ?_⟩
    match i, hl with
    | 0, hl =>
      simp only [List.getElem?_cons_zero, Option.some.injEq] at hl
      subst hl
      exact ⟨_, rfl, _, _, rfl, f0.cells, by decide⟩
    | 1, hl =>
      simp only [List.getElem?_cons_succ, List.getElem?_cons_zero, Option.some.injEq] at hl
      subst hl
      exact ⟨_, rfl, _, _, rfl, f1.cells, by decide⟩
    | i + 2, hl => simp at hl
  have hB : Cells W (some ⟨w.heap.size + 1 + 1 + 1, 0, none⟩) ([1, 0].map (.int .i64)) := f3.cells
  have uG : Ints [[2], [-3]] := by
    intro l hl
    simp only [List.mem_cons, List.not_mem_nil, or_false] at hl
    rcases hl with rfl | rfl <;> exact ints_of_decide (by decide)
  have uB : I64s [1, 0] := ints_of_decide (by decide)
  have hMv : ∀ w' : World, Below W.heap.size W w' → w'.cell? ⟨w.heap.size + 1 + 1 + 1 + 1, 0, none⟩ = some (.slice (some ⟨w.heap.size + 1 + 1, 0, none⟩) 2 2) ∧ w'.cell? ⟨w.heap.size + 1 + 1 + 1 + 1, 1, none⟩ = some (.slice (some ⟨w.heap.size + 1 + 1 + 1, 0, none⟩) 2 2) := fun w' hb => ⟨(f4.below hb).cell (k := 0) rfl, (f4.below hb).cell (k := 1) rfl⟩
  clear f0 f1 f2 f3 f4
  refine Rg.wp_region (l := [_, _, _, _, _, _, _, _, _, _, _, _, _, _, _, _, _, _, _, _, _, _, _, _, _, _, _, _, _, _, _, _, _, _, _, _, _, _, _, _, _]) (tail := [_]) (Rg.grows _ 42) [some 7, some 8, some 9, some 10, some 11, some 12, some 13, some 14, some 15, some 16, some 17, some 18, some 19, some 20, some 21, some 22, some 23, some 24, some 25, some 26, some 27, some 28, some 29, some 30, some 31, some 32, some 33, some 34, some 35, some 36, some 37, some 38, some 39, some 40, some 41, some 42, some 43, some 44, some 45, some 46, some 47, some 0] 48 (by kernel_rfl) (by kernel_rfl) (by kernel_rfl) rfl (Rg.grows_fair _ _) (Rg.keep_drew _) (trivial) ?_
  refine Rg.op_is (.int .u64 98) [] rfl rfl (by kernel_rfl) ?_ ?_
  · intro wx hb
    refine Rg.from_nil fun T hT => ?_
    go_wp2_with (go_at_call 27; refine (num_c (-3) 101 ⟨by decide, by decide⟩ ⟨by decide, by decide⟩ _).mono ?_; rintro e w2 ⟨rfl, hw2⟩; rw [show mNum (-3) 101 = 98 from by decide])
    exact hT _ _ rfl (below_of_dr hw2) rfl
  refine Rg.op_is (.bool true) [0] rfl rfl (by kernel_rfl) ?_ ?_
  · intro wx hb
    refine Rg.from_is (some 7) rfl rfl ?_
    refine Rg.from_nil fun T hT => ?_
    go_wp2
    exact hT _ _ rfl (by first | exact Rg.Keep.refl _ | exact below_of_dr hw2 | exact hw2 | exact (Below.refl _ _).alloc (Nat.le_refl _) _) (by first | rfl | exact congrArg _ (by decide))
  refine Rg.op_is (.bool true) [1] rfl rfl (by kernel_rfl) ?_ ?_
  · intro wx hb
    refine Rg.from_is (some 8) rfl rfl ?_
    refine Rg.from_nil fun T hT => ?_
    go_wp2
    exact hT _ _ rfl (by first | exact Rg.Keep.refl _ | exact below_of_dr hw2 | exact hw2 | exact (Below.refl _ _).alloc (Nat.le_refl _) _) (by first | rfl | exact congrArg _ (by decide))
  refine Rg.op_is (.int .i64 (-3)) [] rfl rfl (by kernel_rfl) ?_ ?_
  · intro wx hb
    refine Rg.from_nil fun T hT => ?_
    go_wp2_with (go_at_call 29; refine (int_c 98 101 ⟨by decide, by decide⟩ ⟨by decide, by decide⟩ _).mono ?_; rintro e w2 ⟨rfl, hw2⟩; rw [show mInt 98 101 = -3 from by decide])
    exact hT _ _ rfl (below_of_dr hw2) rfl
  refine Rg.op_is (.bool true) [3] rfl rfl (by kernel_rfl) ?_ ?_
  · intro wx hb
    refine Rg.from_is (some 10) rfl rfl ?_
    refine Rg.from_nil fun T hT => ?_
    go_wp2
    exact hT _ _ rfl (by first | exact Rg.Keep.refl _ | exact below_of_dr hw2 | exact hw2 | exact (Below.refl _ _).alloc (Nat.le_refl _) _) (by first | rfl | exact congrArg _ (by decide))
  refine Rg.op_is (.bool true) [2, 4] rfl rfl (by kernel_rfl) ?_ ?_
  · intro wx hb
    refine Rg.from_is (some 9) rfl rfl ?_
    refine Rg.from_is (some 11) rfl rfl ?_
    refine Rg.from_nil fun T hT => ?_
    go_wp2
    exact hT _ _ rfl (by first | exact Rg.Keep.refl _ | exact below_of_dr hw2 | exact hw2 | exact (Below.refl _ _).alloc (Nat.le_refl _) _) (by first | rfl | exact congrArg _ (by decide))
  refine Rg.op_is (.bool true) [5] rfl rfl (by kernel_rfl) ?_ ?_
  · intro wx hb
    refine Rg.from_is (some 12) rfl rfl ?_
    refine Rg.from_nil fun T hT => ?_
    go_wp2
    exact hT _ _ rfl (by first | exact Rg.Keep.refl _ | exact below_of_dr hw2 | exact hw2 | exact (Below.refl _ _).alloc (Nat.le_refl _) _) (by first | rfl | exact congrArg _ (by decide))
  refine Rg.op_is (pval parSome) [] rfl rfl (by kernel_rfl) ?_ ?_
  · intro wx hb
    refine Rg.from_nil fun T hT => ?_
    go_wp2_with (go_at_call 42; refine (some_c _).mono ?_; rintro e w2 ⟨rfl, hw2⟩)
    exact hT _ _ rfl (by first | exact Rg.Keep.refl _ | exact below_of_dr hw2 | exact hw2 | exact (Below.refl _ _).alloc (Nat.le_refl _) _) (by first | rfl | exact congrArg _ (by decide))
  refine Rg.op_is (mval (some ⟨w.heap.size + 1 + 1, 0, none⟩) 2 2 (some ⟨w.heap.size + 1 + 1 + 1, 0, none⟩) 2 2) [] rfl rfl (by kernel_rfl) ?_ ?_
  · intro wx hb
    refine Rg.from_nil fun T hT => ?_
    obtain ⟨m0, m1⟩ := hMv wx hb
    go_wp2
    exact hT _ _ rfl (by first | exact Rg.Keep.refl _ | exact below_of_dr hw2 | exact hw2 | exact (Below.refl _ _).alloc (Nat.le_refl _) _) (by first | rfl | exact congrArg _ (by decide))
  refine Rg.op_is (.bool true) [7, 8] rfl rfl (by kernel_rfl) ?_ ?_
  · intro wx hb
    refine Rg.from_is (some 14) rfl rfl ?_
    refine Rg.from_is (some 15) rfl rfl ?_
    refine Rg.from_nil fun T hT => ?_
    go_wp2_with (go_at_call 36; refine (fmay_c parSome _ _ [[2], [-3]] [1, 0] 2 2 _ (hG.below hb) (hB.below hb) (by decide) (by decide) uG uB).mono ?_; rintro e w2 ⟨rfl, hw2⟩; rw [show mayB parSome [[2], [-3]] [1, 0] = true from by decide])
    exact hT _ _ rfl hw2 rfl
  refine Rg.op_is (.bool true) [6, 9] rfl rfl (by kernel_rfl) ?_ ?_
  · intro wx hb
    refine Rg.from_is (some 13) rfl rfl ?_
    refine Rg.from_is (some 16) rfl rfl ?_
    refine Rg.from_nil fun T hT => ?_
    go_wp2
    exact hT _ _ rfl (by first | exact Rg.Keep.refl _ | exact below_of_dr hw2 | exact hw2 | exact (Below.refl _ _).alloc (Nat.le_refl _) _) (by first | rfl | exact congrArg _ (by decide))
  refine Rg.op_is (.bool true) [10] rfl rfl (by kernel_rfl) ?_ ?_
  · intro wx hb
    refine Rg.from_is (some 17) rfl rfl ?_
    refine Rg.from_nil fun T hT => ?_
    go_wp2
    exact hT _ _ rfl (by first | exact Rg.Keep.refl _ | exact below_of_dr hw2 | exact hw2 | exact (Below.refl _ _).alloc (Nat.le_refl _) _) (by first | rfl | exact congrArg _ (by decide))
  refine Rg.op_is (pval parSome) [] rfl rfl (by kernel_rfl) ?_ ?_
  · intro wx hb
    refine Rg.from_nil fun T hT => ?_
    go_wp2_with (go_at_call 42; refine (some_c _).mono ?_; rintro e w2 ⟨rfl, hw2⟩)
    exact hT _ _ rfl (by first | exact Rg.Keep.refl _ | exact below_of_dr hw2 | exact hw2 | exact (Below.refl _ _).alloc (Nat.le_refl _) _) (by first | rfl | exact congrArg _ (by decide))
  refine Rg.op_is (mval (some ⟨w.heap.size + 1 + 1, 0, none⟩) 2 2 (some ⟨w.heap.size + 1 + 1 + 1, 0, none⟩) 2 2) [] rfl rfl (by kernel_rfl) ?_ ?_
  · intro wx hb
    refine Rg.from_nil fun T hT => ?_
    obtain ⟨m0, m1⟩ := hMv wx hb
    go_wp2
    exact hT _ _ rfl (by first | exact Rg.Keep.refl _ | exact below_of_dr hw2 | exact hw2 | exact (Below.refl _ _).alloc (Nat.le_refl _) _) (by first | rfl | exact congrArg _ (by decide))
  refine Rg.op_of (fun w' v => RowV w' v [2, 1, 98, 0]) [12, 13] rfl ?_ ?_ rfl (by kernel_rfl) ?_ ?_
  · exact fun w1 w2 v hk h => h.below hk
  · exact fun w1 w2 v hk h => h.below hk
  · intro wx hb
    refine Rg.from_is (some 19) rfl rfl ?_
    refine Rg.from_is (some 20) rfl rfl ?_
    refine Rg.from_nil fun T hT => ?_
    go_wp2_with (fail)
    refine (fsecrets_c parSome parSome_ok _ _ [[2], [-3]] [1, 0] 2 2 _ (hG.below hb) (hB.below hb) (by decide) (by decide) uG uB).mono ?_
    rintro e w2 ⟨v, rfl, hown, hw2⟩
    rw [show secretsS parSome [[2], [-3]] [1, 0] = [2, 1, 98, 0] from by decide] at hown
    have hrv := rowV_own hown
    clear hown
    go_wp2
    exact hT _ _ rfl hw2 hrv
  refine Rg.op_of (fun w' v => RowV w' v [2, 1, 98, 0]) [] rfl ?_ ?_ rfl (by kernel_rfl) ?_ ?_
  · exact fun w1 w2 v hk h => h.below hk
  · exact fun w1 w2 v hk h => h.below hk
  · intro wx hb
    refine Rg.from_nil fun T hT => ?_
    go_wp2
    exact hT _ _ rfl (below_alloc _ _) (rowV_new wx [2, 1, 98, 0] 23 4 rfl (by decide))
  refine Rg.op_is (.bool true) [14, 15] rfl rfl (by kernel_rfl) ?_ ?_
  · intro wx hb
    refine Rg.from_of (some 21) rfl rfl fun v21 h21 => ?_
    refine Rg.from_of (some 22) rfl rfl fun v22 h22 => ?_
    refine Rg.from_nil fun T hT => ?_
    obtain ⟨A1, c1, rfl, g1, _⟩ := h21
    obtain ⟨A2, c2, rfl, g2, _⟩ := h22
    go_wp2_with (go_at_call 44; refine (numbers_c A1 A2 [2, 1, 98, 0] [2, 1, 98, 0] c1 c2 _ g1 g2 (by decide) (by decide)).mono ?_; rintro e w2 ⟨rfl, hw2⟩; rw [show decide (([2, 1, 98, 0] : List Int) = [2, 1, 98, 0]) = true from by decide])
    exact hT _ _ rfl (below_of_dr hw2) rfl
  refine Rg.op_is (.bool true) [11, 16] rfl rfl (by kernel_rfl) ?_ ?_
  · intro wx hb
    refine Rg.from_is (some 18) rfl rfl ?_
    refine Rg.from_is (some 23) rfl rfl ?_
    refine Rg.from_nil fun T hT => ?_
    go_wp2
    exact hT _ _ rfl (by first | exact Rg.Keep.refl _ | exact below_of_dr hw2 | exact hw2 | exact (Below.refl _ _).alloc (Nat.le_refl _) _) (by first | rfl | exact congrArg _ (by decide))
  refine Rg.op_is (.bool true) [17] rfl rfl (by kernel_rfl) ?_ ?_
  · intro wx hb
    refine Rg.from_is (some 24) rfl rfl ?_
    refine Rg.from_nil fun T hT => ?_
    go_wp2
    exact hT _ _ rfl (by first | exact Rg.Keep.refl _ | exact below_of_dr hw2 | exact hw2 | exact (Below.refl _ _).alloc (Nat.le_refl _) _) (by first | rfl | exact congrArg _ (by decide))
  refine Rg.op_is (pval parSome) [] rfl rfl (by kernel_rfl) ?_ ?_
  · intro wx hb
    refine Rg.from_nil fun T hT => ?_
    go_wp2_with (go_at_call 42; refine (some_c _).mono ?_; rintro e w2 ⟨rfl, hw2⟩)
    exact hT _ _ rfl (by first | exact Rg.Keep.refl _ | exact below_of_dr hw2 | exact hw2 | exact (Below.refl _ _).alloc (Nat.le_refl _) _) (by first | rfl | exact congrArg _ (by decide))
  refine Rg.op_of (fun w' v => RowI w' v [-2]) [] rfl ?_ ?_ rfl (by kernel_rfl) ?_ ?_
  · exact fun w1 w2 v hk h => h.below hk
  · exact fun w1 w2 v hk h => h.below hk
  · intro wx hb
    refine Rg.from_nil fun T hT => ?_
    go_wp2
    exact hT _ _ rfl (below_alloc _ _) (rowI_new wx [-2] 2 1 rfl (by decide))
  refine Rg.op_of (fun w' v => RowV w' v [99, 1]) [19, 20] rfl ?_ ?_ rfl (by kernel_rfl) ?_ ?_
  · exact fun w1 w2 v hk h => h.below hk
  · exact fun w1 w2 v hk h => h.below hk
  · intro wx hb
    refine Rg.from_is (some 26) rfl rfl ?_
    refine Rg.from_of (some 27) rfl rfl fun v27 h27 => ?_
    refine Rg.from_nil fun T hT => ?_
    obtain ⟨A1, c1, rfl, g1, _⟩ := h27
    go_wp2_with (fail)
    refine (frow_c parSome parSome_ok A1 [-2] c1 _ g1 (by decide) (ints_of_decide (by decide))).mono ?_
    rintro e w2 ⟨v, rfl, hown, hw2⟩
    rw [show rowS parSome [-2] = [99, 1] from by decide] at hown
    have hrv := rowV_own hown
    clear hown
    go_wp2
    exact hT _ _ rfl hw2 hrv
  refine Rg.op_of (fun w' v => RowV w' v [99, 1]) [] rfl ?_ ?_ rfl (by kernel_rfl) ?_ ?_
  · exact fun w1 w2 v hk h => h.below hk
  · exact fun w1 w2 v hk h => h.below hk
  · intro wx hb
    refine Rg.from_nil fun T hT => ?_
    go_wp2
    exact hT _ _ rfl (below_alloc _ _) (rowV_new wx [99, 1] 23 2 rfl (by decide))
  refine Rg.op_is (.bool true) [21, 22] rfl rfl (by kernel_rfl) ?_ ?_
  · intro wx hb
    refine Rg.from_of (some 28) rfl rfl fun v28 h28 => ?_
    refine Rg.from_of (some 29) rfl rfl fun v29 h29 => ?_
    refine Rg.from_nil fun T hT => ?_
    obtain ⟨A1, c1, rfl, g1, _⟩ := h28
    obtain ⟨A2, c2, rfl, g2, _⟩ := h29
    go_wp2_with (go_at_call 44; refine (numbers_c A1 A2 [99, 1] [99, 1] c1 c2 _ g1 g2 (by decide) (by decide)).mono ?_; rintro e w2 ⟨rfl, hw2⟩; rw [show decide (([99, 1] : List Int) = [99, 1]) = true from by decide])
    exact hT _ _ rfl (below_of_dr hw2) rfl
  refine Rg.op_is (.bool true) [18, 23] rfl rfl (by kernel_rfl) ?_ ?_
  · intro wx hb
    refine Rg.from_is (some 25) rfl rfl ?_
    refine Rg.from_is (some 30) rfl rfl ?_
    refine Rg.from_nil fun T hT => ?_
    go_wp2
    exact hT _ _ rfl (by first | exact Rg.Keep.refl _ | exact below_of_dr hw2 | exact hw2 | exact (Below.refl _ _).alloc (Nat.le_refl _) _) (by first | rfl | exact congrArg _ (by decide))
  refine Rg.op_is (.bool true) [24] rfl rfl (by kernel_rfl) ?_ ?_
  · intro wx hb
    refine Rg.from_is (some 31) rfl rfl ?_
    refine Rg.from_nil fun T hT => ?_
    go_wp2
    exact hT _ _ rfl (by first | exact Rg.Keep.refl _ | exact below_of_dr hw2 | exact hw2 | exact (Below.refl _ _).alloc (Nat.le_refl _) _) (by first | rfl | exact congrArg _ (by decide))
  refine Rg.op_is (pval parSome) [] rfl rfl (by kernel_rfl) ?_ ?_
  · intro wx hb
    refine Rg.from_nil fun T hT => ?_
    go_wp2_with (go_at_call 42; refine (some_c _).mono ?_; rintro e w2 ⟨rfl, hw2⟩)
    exact hT _ _ rfl (by first | exact Rg.Keep.refl _ | exact below_of_dr hw2 | exact hw2 | exact (Below.refl _ _).alloc (Nat.le_refl _) _) (by first | rfl | exact congrArg _ (by decide))
  refine Rg.op_of (fun w' v => RowV w' v [2, 1, 98, 0]) [] rfl ?_ ?_ rfl (by kernel_rfl) ?_ ?_
  · exact fun w1 w2 v hk h => h.below hk
  · exact fun w1 w2 v hk h => h.below hk
  · intro wx hb
    refine Rg.from_nil fun T hT => ?_
    go_wp2
    exact hT _ _ rfl (below_alloc _ _) (rowV_new wx [2, 1, 98, 0] 23 4 rfl (by decide))
  refine Rg.op_of (fun w' v => RowI w' v [-2]) [] rfl ?_ ?_ rfl (by kernel_rfl) ?_ ?_
  · exact fun w1 w2 v hk h => h.below hk
  · exact fun w1 w2 v hk h => h.below hk
  · intro wx hb
    refine Rg.from_nil fun T hT => ?_
    go_wp2
    exact hT _ _ rfl (below_alloc _ _) (rowI_new wx [-2] 2 1 rfl (by decide))
  refine Rg.op_of (fun w' v => RowV w' v [98, 6]) [26, 27, 28] rfl ?_ ?_ rfl (by kernel_rfl) ?_ ?_
  · exact fun w1 w2 v hk h => h.below hk
  · exact fun w1 w2 v hk h => h.below hk
  · intro wx hb
    refine Rg.from_is (some 33) rfl rfl ?_
    refine Rg.from_of (some 34) rfl rfl fun v34 h34 => ?_
    refine Rg.from_of (some 35) rfl rfl fun v35 h35 => ?_
    refine Rg.from_nil fun T hT => ?_
    obtain ⟨A1, c1, rfl, g1, _⟩ := h34
    obtain ⟨A2, c2, rfl, g2, _⟩ := h35
    go_wp2_with (fail)
    refine (fdot_c parSome parSome_ok A1 A2 [2, 1, 98, 0] [-2] c1 c2 _ g1 g2 (by decide) (by decide) (words_of_decide (by decide)) (ints_of_decide (by decide))).mono ?_
    rintro e w2 ⟨v, rfl, hown, hw2⟩
    rw [show dotS parSome [2, 1, 98, 0] [-2] = [98, 6] from by decide] at hown
    have hrv := rowV_own hown
    clear hown
    go_wp2
    exact hT _ _ rfl hw2 hrv
  refine Rg.op_of (fun w' v => RowV w' v [98, 6]) [] rfl ?_ ?_ rfl (by kernel_rfl) ?_ ?_
  · exact fun w1 w2 v hk h => h.below hk
  · exact fun w1 w2 v hk h => h.below hk
  · intro wx hb
    refine Rg.from_nil fun T hT => ?_
    go_wp2
    exact hT _ _ rfl (below_alloc _ _) (rowV_new wx [98, 6] 23 2 rfl (by decide))
  refine Rg.op_is (.bool true) [29, 30] rfl rfl (by kernel_rfl) ?_ ?_
  · intro wx hb
    refine Rg.from_of (some 36) rfl rfl fun v36 h36 => ?_
    refine Rg.from_of (some 37) rfl rfl fun v37 h37 => ?_
    refine Rg.from_nil fun T hT => ?_
    obtain ⟨A1, c1, rfl, g1, _⟩ := h36
    obtain ⟨A2, c2, rfl, g2, _⟩ := h37
    go_wp2_with (go_at_call 44; refine (numbers_c A1 A2 [98, 6] [98, 6] c1 c2 _ g1 g2 (by decide) (by decide)).mono ?_; rintro e w2 ⟨rfl, hw2⟩; rw [show decide (([98, 6] : List Int) = [98, 6]) = true from by decide])
    exact hT _ _ rfl (below_of_dr hw2) rfl
  refine Rg.op_is (.bool true) [25, 31] rfl rfl (by kernel_rfl) ?_ ?_
  · intro wx hb
    refine Rg.from_is (some 32) rfl rfl ?_
    refine Rg.from_is (some 38) rfl rfl ?_
    refine Rg.from_nil fun T hT => ?_
    go_wp2
    exact hT _ _ rfl (by first | exact Rg.Keep.refl _ | exact below_of_dr hw2 | exact hw2 | exact (Below.refl _ _).alloc (Nat.le_refl _) _) (by first | rfl | exact congrArg _ (by decide))
  refine Rg.op_is (.bool true) [32] rfl rfl (by kernel_rfl) ?_ ?_
  · intro wx hb
    refine Rg.from_is (some 39) rfl rfl ?_
    refine Rg.from_nil fun T hT => ?_
    go_wp2
    exact hT _ _ rfl (by first | exact Rg.Keep.refl _ | exact below_of_dr hw2 | exact hw2 | exact (Below.refl _ _).alloc (Nat.le_refl _) _) (by first | rfl | exact congrArg _ (by decide))
  refine Rg.op_is (pval parSome) [] rfl rfl (by kernel_rfl) ?_ ?_
  · intro wx hb
    refine Rg.from_nil fun T hT => ?_
    go_wp2_with (go_at_call 42; refine (some_c _).mono ?_; rintro e w2 ⟨rfl, hw2⟩)
    exact hT _ _ rfl (by first | exact Rg.Keep.refl _ | exact below_of_dr hw2 | exact hw2 | exact (Below.refl _ _).alloc (Nat.le_refl _) _) (by first | rfl | exact congrArg _ (by decide))
  refine Rg.op_is (mval (some ⟨w.heap.size + 1 + 1, 0, none⟩) 2 2 (some ⟨w.heap.size + 1 + 1 + 1, 0, none⟩) 2 2) [] rfl rfl (by kernel_rfl) ?_ ?_
  · intro wx hb
    refine Rg.from_nil fun T hT => ?_
    obtain ⟨m0, m1⟩ := hMv wx hb
    go_wp2
    exact hT _ _ rfl (by first | exact Rg.Keep.refl _ | exact below_of_dr hw2 | exact hw2 | exact (Below.refl _ _).alloc (Nat.le_refl _) _) (by first | rfl | exact congrArg _ (by decide))
  refine Rg.op_of (fun w' v => RowI w' v [-2]) [] rfl ?_ ?_ rfl (by kernel_rfl) ?_ ?_
  · exact fun w1 w2 v hk h => h.below hk
  · exact fun w1 w2 v hk h => h.below hk
  · intro wx hb
    refine Rg.from_nil fun T hT => ?_
    go_wp2
    exact hT _ _ rfl (below_alloc _ _) (rowI_new wx [-2] 2 1 rfl (by decide))
  refine Rg.op_of (fun w' v => RowI w' v [-3, 6]) [34, 35, 36] rfl ?_ ?_ rfl (by kernel_rfl) ?_ ?_
  · exact fun w1 w2 v hk h => h.below hk
  · exact fun w1 w2 v hk h => h.below hk
  · intro wx hb
    refine Rg.from_is (some 41) rfl rfl ?_
    refine Rg.from_is (some 42) rfl rfl ?_
    refine Rg.from_of (some 43) rfl rfl fun v43 h43 => ?_
    refine Rg.from_nil fun T hT => ?_
    obtain ⟨A1, c1, rfl, g1, _⟩ := h43
    go_wp2_with (fail)
    refine (fscores_c parSome _ _ A1 [[2], [-3]] [1, 0] [-2] 2 2 c1 _ (hG.below hb) (hB.below hb) g1 (by decide) (by decide) (by decide) uG uB (ints_of_decide (by decide))).mono ?_
    rintro e w2 ⟨v, rfl, hown, hw2⟩
    rw [show scoresS parSome [[2], [-3]] [1, 0] [-2] = [-3, 6] from by decide] at hown
    have hrv := rowI_own hown
    clear hown
    go_wp2
    exact hT _ _ rfl hw2 hrv
  refine Rg.op_of (fun w' v => RowI w' v [-3, 6]) [] rfl ?_ ?_ rfl (by kernel_rfl) ?_ ?_
  · exact fun w1 w2 v hk h => h.below hk
  · exact fun w1 w2 v hk h => h.below hk
  · intro wx hb
    refine Rg.from_nil fun T hT => ?_
    go_wp2
    exact hT _ _ rfl (below_alloc _ _) (rowI_new wx [-3, 6] 2 2 rfl (by decide))
  refine Rg.op_is (.bool true) [37, 38] rfl rfl (by kernel_rfl) ?_ ?_
  · intro wx hb
    refine Rg.from_of (some 44) rfl rfl fun v44 h44 => ?_
    refine Rg.from_of (some 45) rfl rfl fun v45 h45 => ?_
    refine Rg.from_nil fun T hT => ?_
    obtain ⟨A1, c1, rfl, g1, _⟩ := h44
    obtain ⟨A2, c2, rfl, g2, _⟩ := h45
    go_wp2_with (go_at_call 41; refine (ints_c A1 A2 [-3, 6] [-3, 6] c1 c2 _ g1 g2 (by decide) (by decide)).mono ?_; rintro e w2 ⟨rfl, hw2⟩; rw [show decide (([-3, 6] : List Int) = [-3, 6]) = true from by decide])
    exact hT _ _ rfl (below_of_dr hw2) rfl
  refine Rg.op_is (.bool true) [33, 39] rfl rfl (by kernel_rfl) ?_ ?_
  · intro wx hb
    refine Rg.from_is (some 40) rfl rfl ?_
    refine Rg.from_is (some 46) rfl rfl ?_
    refine Rg.from_nil fun T hT => ?_
    go_wp2
    exact hT _ _ rfl (by first | exact Rg.Keep.refl _ | exact below_of_dr hw2 | exact hw2 | exact (Below.refl _ _).alloc (Nat.le_refl _) _) (by first | rfl | exact congrArg _ (by decide))
  refine Rg.walk_nil [0, 1, 2, 3, 4, 5, 6, 7, 8, 9, 10, 11, 12, 13, 14, 15, 16, 17, 18, 19, 20, 21, 22, 23, 24, 25, 26, 27, 28, 29, 30, 31, 32, 33, 34, 35, 36, 37, 38, 39, 40] (by kernel_rfl) ?_
  intro wx hb
  refine Rg.from_is (some 7) rfl rfl ?_
  refine Rg.from_is (some 8) rfl rfl ?_
  refine Rg.from_is (some 9) rfl rfl ?_
  refine Rg.from_is (some 10) rfl rfl ?_
  refine Rg.from_is (some 11) rfl rfl ?_
  refine Rg.from_is (some 12) rfl rfl ?_
  refine Rg.from_is (some 13) rfl rfl ?_
  refine Rg.from_is (some 14) rfl rfl ?_
  refine Rg.from_is (some 15) rfl rfl ?_
  refine Rg.from_is (some 16) rfl rfl ?_
  refine Rg.from_is (some 17) rfl rfl ?_
  refine Rg.from_is (some 18) rfl rfl ?_
  refine Rg.from_is (some 19) rfl rfl ?_
  refine Rg.from_is (some 20) rfl rfl ?_
  refine Rg.from_of (some 21) rfl rfl fun v21 h21 => ?_
  refine Rg.from_of (some 22) rfl rfl fun v22 h22 => ?_
  refine Rg.from_is (some 23) rfl rfl ?_
  refine Rg.from_is (some 24) rfl rfl ?_
  refine Rg.from_is (some 25) rfl rfl ?_
  refine Rg.from_is (some 26) rfl rfl ?_
  refine Rg.from_of (some 27) rfl rfl fun v27 h27 => ?_
  refine Rg.from_of (some 28) rfl rfl fun v28 h28 => ?_
  refine Rg.from_of (some 29) rfl rfl fun v29 h29 => ?_
  refine Rg.from_is (some 30) rfl rfl ?_
  refine Rg.from_is (some 31) rfl rfl ?_
  refine Rg.from_is (some 32) rfl rfl ?_
  refine Rg.from_is (some 33) rfl rfl ?_
  refine Rg.from_of (some 34) rfl rfl fun v34 h34 => ?_
  refine Rg.from_of (some 35) rfl rfl fun v35 h35 => ?_
  refine Rg.from_of (some 36) rfl rfl fun v36 h36 => ?_
  refine Rg.from_of (some 37) rfl rfl fun v37 h37 => ?_
  refine Rg.from_is (some 38) rfl rfl ?_
  refine Rg.from_is (some 39) rfl rfl ?_
  refine Rg.from_is (some 40) rfl rfl ?_
  refine Rg.from_is (some 41) rfl rfl ?_
  refine Rg.from_is (some 42) rfl rfl ?_
  refine Rg.from_of (some 43) rfl rfl fun v43 h43 => ?_
  refine Rg.from_of (some 44) rfl rfl fun v44 h44 => ?_
  refine Rg.from_of (some 45) rfl rfl fun v45 h45 => ?_
  refine Rg.from_is (some 46) rfl rfl ?_
  refine Rg.from_is (some 47) rfl rfl ?_
  refine Rg.from_nil ?_
  simp only [List.map, Act.put, List.setIfInBounds_toArray, List.set_cons_zero, List.set_cons_succ]
  go_wp2
  go_ret
  exact ⟨rfl, hbw.trans (Below.mono hb hbw.size)⟩

end Go.Proofs.Ytnmadmcegdpecaa
