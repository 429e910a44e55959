/-
  A vote is put.
-/
import Derived.Test.YtnngnekfgijejaaTalE
import Derived.Test.YtnngnekfgijejaaTalB
import Derived.Test.YtnngnekfgijejaaWays
namespace Go.Proofs.Ytnngnekfgijejaa
open Go.RowKit Go.Maps

theorem not_true : (!true) = false := rfl
theorem tput_nil (v : Vt) (w : World) :
    Calls Try.prog 19 #[.pointer none, vval v] w fun e w' => e = .returned (.bool false) ∧ Below w.heap.size w w' := by
  go_enter Try.func19, Try.ntmps19
  go_wp2
  refine Rgb.wp_region (l := [_, _, _, _, _, _, _, _, _, _]) (tail := [_]) (Rgb.grows _ 11) [some 8, some 9, some 10, some 11, some 12, some 13, some 14, some 15, some 16, some 17, some 18] 42 (by kernel_rfl) (by kernel_rfl) (by kernel_rfl) rfl (Rgb.grows_fair _ _) (Rgb.keep_drew _) (trivial) ?_
  refine' Rgb.op_is _ [] rfl rfl (by kernel_rfl) ?_ ?_
  rotate_left
  · intro wx hb
    refine Rgb.from_nil fun T hT => ?_
    go_wp2
    refine hT _ _ rfl (by first | exact Rgb.Keep.refl _ | exact below_of_dr hw2 | exact hw2 | exact (Below.refl _ _).alloc (Nat.le_refl _) _) ?_
    simp only [Rgb.last, List.getElem?_toArray, List.getElem?_cons_succ, List.getElem?_cons_zero, Option.getD_some]
    rfl
  refine Rgb.op_is (.bool true) [0] rfl rfl (by kernel_rfl) ?_ ?_
  · intro wx hb
    refine Rgb.from_is (some 8) rfl rfl ?_
    refine Rgb.from_nil fun T hT => ?_
    go_wp2
    exact hT _ _ rfl (by first | exact Rgb.Keep.refl _ | exact below_of_dr hw2 | exact hw2 | exact (Below.refl _ _).alloc (Nat.le_refl _) _) (by first | rfl | exact congrArg _ (by decide))
  refine Rgb.op_is (.bool true) [1] rfl rfl (by kernel_rfl) ?_ ?_
  · intro wx hb
    refine Rgb.from_is (some 9) rfl rfl ?_
    refine Rgb.from_nil fun T hT => ?_
    go_wp2
    exact hT _ _ rfl (by first | exact Rgb.Keep.refl _ | exact below_of_dr hw2 | exact hw2 | exact (Below.refl _ _).alloc (Nat.le_refl _) _) (by first | rfl | exact congrArg _ (by decide))
  refine Rgb.op_skip rfl ?_
  refine Rgb.op_skip rfl ?_
  refine Rgb.op_skip rfl ?_
  refine Rgb.op_skip rfl ?_
  refine Rgb.op_skip rfl ?_
  refine Rgb.op_skip rfl ?_
  refine Rgb.op_skip rfl ?_
  refine Rgb.walk_nil [0, 1, 2, 3, 4, 5, 6, 7, 8, 9] (by kernel_rfl) ?_
  intro wx hb
  refine Rgb.from_is (some 8) rfl rfl ?_
  refine Rgb.from_is (some 9) rfl rfl ?_
  refine Rgb.from_is (some 10) rfl rfl ?_
  refine Rgb.from_is (some 11) rfl rfl ?_
  refine Rgb.from_is (some 12) rfl rfl ?_
  refine Rgb.from_is (some 13) rfl rfl ?_
  refine Rgb.from_is (some 14) rfl rfl ?_
  refine Rgb.from_is (some 15) rfl rfl ?_
  refine Rgb.from_is (some 16) rfl rfl ?_
  refine Rgb.from_is (some 17) rfl rfl ?_
  refine Rgb.from_nil ?_
  simp only [List.map, Act.put, List.setIfInBounds_toArray, List.set_cons_zero, List.set_cons_succ]
  go_wp2
  go_ret
  exact ⟨rfl, below_next (below_alloc w _) (by simp) hb⟩

set_option maxRecDepth 100000 in
set_option maxHeartbeats 1000000 in
theorem tput_c (g gm : Nat) (n : Int) (L : List Vt) (v : Vt) (w : World) (h : Tly w g gm n L) (hv : v.Ok) [DecidableEq Lit] :
    Calls Try.prog 19 #[.pointer (some ⟨g, 0, none⟩), vval v] w fun e w' => e = .returned (.bool (putB n L v)) ∧ Tly w' g gm n (putL n L v) ∧ w.grownBy w' (some gm) := by
  have hn : I64 n := by have := h.n; exact ⟨by omega, by omega⟩
  have hTl := h.below (below_alloc w (.cells (vcl v).toArray 30))
  have hV := row1_new w (vcl v) 30
  have hB := below_alloc w (.cells (vcl v).toArray 30)
  have hlt := h.lt.2.1
  have HR : Hid (1 ≤ n ∧ n ≤ 7 ∧ L.length ≤ 10000) := hid ⟨h.n.1, h.n.2, h.len⟩
  clear h
  simp only [List.toArray] at hTl hV hB
  go_enter Try.func19, Try.ntmps19
  go_wp2
  generalize w.alloc (.cells #[.int .i64 v.fr, .int .i64 v.rd, .int .u8 v.kd, .int .i64 v.va, .string v.tx] 30) = w1 at *
  cases hm : mayV v n with
  | false =>
    have hP := hid (show putB n L v = false by simp [putB, hm])
    have HM := hid hm
    clear hm
    refine Rgb.wp_region (l := [_, _, _, _, _, _, _, _, _, _]) (tail := [_]) (Rgb.grows _ 11) [some 8, some 9, some 10, some 11, some 12, some 13, some 14, some 15, some 16, some 17, some 18] 42 (by kernel_rfl) (by kernel_rfl) (by kernel_rfl) rfl (Rgb.grows_fair _ _) (Rgb.keep_drew _) (trivial) ?_
    refine' Rgb.op_is _ [] rfl rfl (by kernel_rfl) ?_ ?_
    rotate_left
    · intro wx hb
      refine Rgb.from_nil fun T hT => ?_
      go_wp2
      refine hT _ _ rfl (by first | exact Rgb.Keep.refl _ | exact below_of_dr hw2 | exact hw2 | exact (Below.refl _ _).alloc (Nat.le_refl _) _) ?_
      simp only [Rgb.last, List.getElem?_toArray, List.getElem?_cons_succ, List.getElem?_cons_zero, Option.getD_some]
      rfl
    refine Rgb.op_is (.bool false) [0] rfl rfl (by kernel_rfl) ?_ ?_
    · intro wx hb
      refine Rgb.from_is (some 8) rfl rfl ?_
      refine Rgb.from_nil fun T hT => ?_
      go_wp2
      exact hT _ _ rfl (by first | exact Rgb.Keep.refl _ | exact below_of_dr hw2 | exact hw2 | exact (Below.refl _ _).alloc (Nat.le_refl _) _) (by first | rfl | exact congrArg _ (by decide))
    refine Rgb.op_is (.bool false) [1] rfl rfl (by kernel_rfl) ?_ ?_
    · intro wx hb
      refine Rgb.from_is (some 9) rfl rfl ?_
      refine Rgb.from_nil fun T hT => ?_
      go_wp2
      exact hT _ _ rfl (by first | exact Rgb.Keep.refl _ | exact below_of_dr hw2 | exact hw2 | exact (Below.refl _ _).alloc (Nat.le_refl _) _) (by first | rfl | exact congrArg _ (by decide))
    refine Rgb.op_is (vval v) [] rfl rfl (by kernel_rfl) ?_ ?_
    · intro wx hb
      refine Rgb.from_nil fun T hT => ?_
      obtain ⟨c0, c1, c2, c3, c4⟩ := (hV.below hb).five
      go_wp2
      exact hT _ _ rfl (by first | exact Rgb.Keep.refl _ | exact below_of_dr hw2 | exact hw2 | exact (Below.refl _ _).alloc (Nat.le_refl _) _) (by first | rfl | exact congrArg _ (by decide))
    refine' Rgb.op_is _ [] rfl rfl (by kernel_rfl) ?_ ?_
    rotate_left
    · intro wx hb
      refine Rgb.from_nil fun T hT => ?_
      go_wp2
      refine hT _ _ rfl (by first | exact Rgb.Keep.refl _ | exact below_of_dr hw2 | exact hw2 | exact (Below.refl _ _).alloc (Nat.le_refl _) _) ?_
      simp only [Rgb.last, List.getElem?_toArray, List.getElem?_cons_succ, List.getElem?_cons_zero, Option.getD_some]
      rfl
    refine' Rgb.op_is _ [4] rfl rfl (by kernel_rfl) ?_ ?_
    rotate_left
    · intro wx hb
      refine Rgb.from_is (some 12) rfl rfl ?_
      refine Rgb.from_nil fun T hT => ?_
      go_wp2
      refine hT _ _ rfl (by first | exact Rgb.Keep.refl _ | exact below_of_dr hw2 | exact hw2 | exact (Below.refl _ _).alloc (Nat.le_refl _) _) ?_
      simp only [Rgb.last, List.getElem?_toArray, List.getElem?_cons_succ, List.getElem?_cons_zero, Option.getD_some]
      rfl
    refine' Rgb.op_is _ [5] rfl rfl (by kernel_rfl) ?_ ?_
    rotate_left
    · intro wx hb
      refine Rgb.from_is (some 13) rfl rfl ?_
      refine Rgb.from_nil fun T hT => ?_
      go_wp2
      refine hT _ _ rfl (by first | exact Rgb.Keep.refl _ | exact below_of_dr hw2 | exact hw2 | exact (Below.refl _ _).alloc (Nat.le_refl _) _) ?_
      simp only [Rgb.last, List.getElem?_toArray, List.getElem?_cons_succ, List.getElem?_cons_zero, Option.getD_some]
      rfl
    refine Rgb.op_is (.int .i64 n) [6] rfl rfl (by kernel_rfl) ?_ ?_
    · intro wx hb
      refine Rgb.from_is (some 14) rfl rfl ?_
      refine Rgb.from_nil fun T hT => ?_
      have c0 := (hTl.row.below hb).cell (k := 0) rfl
      go_wp2
      exact hT _ _ rfl (by first | exact Rgb.Keep.refl _ | exact below_of_dr hw2 | exact hw2 | exact (Below.refl _ _).alloc (Nat.le_refl _) _) (by first | rfl | exact congrArg _ (by decide))
    refine Rgb.op_is (.bool false) [3, 7] rfl rfl (by kernel_rfl) ?_ ?_
    · intro wx hb
      refine Rgb.from_is (some 11) rfl rfl ?_
      refine Rgb.from_is (some 15) rfl rfl ?_
      refine Rgb.from_nil fun T hT => ?_
      go_wp2_with (go_at_call 41; refine (may_c v n _ hv hn).mono ?_; rintro e w5 ⟨rfl, hw5⟩; rw [HM.out])
      exact hT _ _ rfl hw5 rfl
    refine Rgb.op_is (.bool true) [8] rfl rfl (by kernel_rfl) ?_ ?_
    · intro wx hb
      refine Rgb.from_is (some 16) rfl rfl ?_
      refine Rgb.from_nil fun T hT => ?_
      go_wp2
      exact hT _ _ rfl (by first | exact Rgb.Keep.refl _ | exact below_of_dr hw2 | exact hw2 | exact (Below.refl _ _).alloc (Nat.le_refl _) _) (by first | rfl | exact congrArg _ (by decide))
    refine Rgb.walk_nil [0, 1, 2, 3, 4, 5, 6, 7, 8, 9] (by kernel_rfl) ?_
    intro wx hb
    refine Rgb.from_is (some 8) rfl rfl ?_
    refine Rgb.from_is (some 9) rfl rfl ?_
    refine Rgb.from_is (some 10) rfl rfl ?_
    refine Rgb.from_is (some 11) rfl rfl ?_
    refine Rgb.from_is (some 12) rfl rfl ?_
    refine Rgb.from_is (some 13) rfl rfl ?_
    refine Rgb.from_is (some 14) rfl rfl ?_
    refine Rgb.from_is (some 15) rfl rfl ?_
    refine Rgb.from_is (some 16) rfl rfl ?_
    refine Rgb.from_is (some 17) rfl rfl ?_
    refine Rgb.from_nil ?_
    simp only [List.map, Act.put, List.setIfInBounds_toArray, List.set_cons_zero, List.set_cons_succ]
    go_wp2
    go_ret
    have hb2 := below_next hB hB.size hb
    refine ⟨by rw [hP.out]; rfl, ?_, but_below hb2 _⟩
    rw [putL, hP.out, if_neg (by simp)]
    exact hTl.below hb
  | true =>
    have HM := hid hm
    refine Rgb.wp_region (l := [_, _, _, _, _, _, _, _, _, _]) (tail := [_]) (Rgb.grows _ 11) [some 8, some 9, some 10, some 11, some 12, some 13, some 14, some 15, some 16, some 17, some 18] 42 (by kernel_rfl) (by kernel_rfl) (by kernel_rfl) rfl (Rgb.grows_fair _ _) (Rgb.keep_drew _) (trivial) ?_
    refine' Rgb.op_is _ [] rfl rfl (by kernel_rfl) ?_ ?_
    rotate_left
    · intro wx hb
      refine Rgb.from_nil fun T hT => ?_
      go_wp2
      refine hT _ _ rfl (by first | exact Rgb.Keep.refl _ | exact below_of_dr hw2 | exact hw2 | exact (Below.refl _ _).alloc (Nat.le_refl _) _) ?_
      simp only [Rgb.last, List.getElem?_toArray, List.getElem?_cons_succ, List.getElem?_cons_zero, Option.getD_some]
      rfl
    refine Rgb.op_is (.bool false) [0] rfl rfl (by kernel_rfl) ?_ ?_
    · intro wx hb
      refine Rgb.from_is (some 8) rfl rfl ?_
      refine Rgb.from_nil fun T hT => ?_
      go_wp2
      exact hT _ _ rfl (by first | exact Rgb.Keep.refl _ | exact below_of_dr hw2 | exact hw2 | exact (Below.refl _ _).alloc (Nat.le_refl _) _) (by first | rfl | exact congrArg _ (by decide))
    refine Rgb.op_is (.bool false) [1] rfl rfl (by kernel_rfl) ?_ ?_
    · intro wx hb
      refine Rgb.from_is (some 9) rfl rfl ?_
      refine Rgb.from_nil fun T hT => ?_
      go_wp2
      exact hT _ _ rfl (by first | exact Rgb.Keep.refl _ | exact below_of_dr hw2 | exact hw2 | exact (Below.refl _ _).alloc (Nat.le_refl _) _) (by first | rfl | exact congrArg _ (by decide))
    refine Rgb.op_is (vval v) [] rfl rfl (by kernel_rfl) ?_ ?_
    · intro wx hb
      refine Rgb.from_nil fun T hT => ?_
      obtain ⟨c0, c1, c2, c3, c4⟩ := (hV.below hb).five
      go_wp2
      exact hT _ _ rfl (by first | exact Rgb.Keep.refl _ | exact below_of_dr hw2 | exact hw2 | exact (Below.refl _ _).alloc (Nat.le_refl _) _) (by first | rfl | exact congrArg _ (by decide))
    refine' Rgb.op_is _ [] rfl rfl (by kernel_rfl) ?_ ?_
    rotate_left
    · intro wx hb
      refine Rgb.from_nil fun T hT => ?_
      go_wp2
      refine hT _ _ rfl (by first | exact Rgb.Keep.refl _ | exact below_of_dr hw2 | exact hw2 | exact (Below.refl _ _).alloc (Nat.le_refl _) _) ?_
      simp only [Rgb.last, List.getElem?_toArray, List.getElem?_cons_succ, List.getElem?_cons_zero, Option.getD_some]
      rfl
    refine' Rgb.op_is _ [4] rfl rfl (by kernel_rfl) ?_ ?_
    rotate_left
    · intro wx hb
      refine Rgb.from_is (some 12) rfl rfl ?_
      refine Rgb.from_nil fun T hT => ?_
      go_wp2
      refine hT _ _ rfl (by first | exact Rgb.Keep.refl _ | exact below_of_dr hw2 | exact hw2 | exact (Below.refl _ _).alloc (Nat.le_refl _) _) ?_
      simp only [Rgb.last, List.getElem?_toArray, List.getElem?_cons_succ, List.getElem?_cons_zero, Option.getD_some]
      rfl
    refine' Rgb.op_is _ [5] rfl rfl (by kernel_rfl) ?_ ?_
    rotate_left
    · intro wx hb
      refine Rgb.from_is (some 13) rfl rfl ?_
      refine Rgb.from_nil fun T hT => ?_
      go_wp2
      refine hT _ _ rfl (by first | exact Rgb.Keep.refl _ | exact below_of_dr hw2 | exact hw2 | exact (Below.refl _ _).alloc (Nat.le_refl _) _) ?_
      simp only [Rgb.last, List.getElem?_toArray, List.getElem?_cons_succ, List.getElem?_cons_zero, Option.getD_some]
      rfl
    refine Rgb.op_is (.int .i64 n) [6] rfl rfl (by kernel_rfl) ?_ ?_
    · intro wx hb
      refine Rgb.from_is (some 14) rfl rfl ?_
      refine Rgb.from_nil fun T hT => ?_
      have c0 := (hTl.row.below hb).cell (k := 0) rfl
      go_wp2
      exact hT _ _ rfl (by first | exact Rgb.Keep.refl _ | exact below_of_dr hw2 | exact hw2 | exact (Below.refl _ _).alloc (Nat.le_refl _) _) (by first | rfl | exact congrArg _ (by decide))
    refine Rgb.op_is (.bool true) [3, 7] rfl rfl (by kernel_rfl) ?_ ?_
    · intro wx hb
      refine Rgb.from_is (some 11) rfl rfl ?_
      refine Rgb.from_is (some 15) rfl rfl ?_
      refine Rgb.from_nil fun T hT => ?_
      go_wp2_with (go_at_call 41; refine (may_c v n _ hv hn).mono ?_; rintro e w5 ⟨rfl, hw5⟩; rw [HM.out])
      exact hT _ _ rfl hw5 rfl
    refine Rgb.op_is (.bool false) [8] rfl rfl (by kernel_rfl) ?_ ?_
    · intro wx hb
      refine Rgb.from_is (some 16) rfl rfl ?_
      refine Rgb.from_nil fun T hT => ?_
      go_wp2
      exact hT _ _ rfl (by first | exact Rgb.Keep.refl _ | exact below_of_dr hw2 | exact hw2 | exact (Below.refl _ _).alloc (Nat.le_refl _) _) (by first | rfl | exact congrArg _ (by decide))
    refine Rgb.walk_nil [0, 1, 2, 3, 4, 5, 6, 7, 8, 9] (by kernel_rfl) ?_
    intro wx hb
    refine Rgb.from_is (some 8) rfl rfl ?_
    refine Rgb.from_is (some 9) rfl rfl ?_
    refine Rgb.from_is (some 10) rfl rfl ?_
    refine Rgb.from_is (some 11) rfl rfl ?_
    refine Rgb.from_is (some 12) rfl rfl ?_
    refine Rgb.from_is (some 13) rfl rfl ?_
    refine Rgb.from_is (some 14) rfl rfl ?_
    refine Rgb.from_is (some 15) rfl rfl ?_
    refine Rgb.from_is (some 16) rfl rfl ?_
    refine Rgb.from_is (some 17) rfl rfl ?_
    refine Rgb.from_nil ?_
    simp only [List.map, Act.put, List.setIfInBounds_toArray, List.set_cons_zero, List.set_cons_succ]
    replace hB := below_next hB hB.size hb
    replace hTl := hTl.below hb
    replace hV := hV.below hb
    clear hb
    obtain ⟨c0, c1, c2, c3, c4⟩ := hV.five
    go_wp2
    have hK := row1_new wx [.int .i64 v.rd, .int .i64 v.fr, .int .u8 v.kd] 70
    replace hB := hB.alloc hB.size (.cells #[.int .i64 v.rd, .int .i64 v.fr, .int .u8 v.kd] 70)
    replace hTl := hTl.below (below_alloc wx (.cells #[.int .i64 v.rd, .int .i64 v.fr, .int .u8 v.kd] 70))
    replace hV := hV.below (below_alloc wx (.cells #[.int .i64 v.rd, .int .i64 v.fr, .int .u8 v.kd] 70))
    simp only [List.toArray] at hK
    clear c0 c1 c2 c3 c4 hm
    generalize wx.alloc (.cells #[.int .i64 v.rd, .int .i64 v.fr, .int .u8 v.kd] 70) = w2 at *
    generalize wx.heap.size = gk at *
    clear wx
    cases hh : hasV L v with
    | true =>
      have hP := hid (show putB n L v = false by simp [putB, hh])
      obtain ⟨u, hu, e1, e2, e3⟩ := hasV_iff.1 hh
      have HE := hid (⟨e1, e2, e3⟩ : _ ∧ _ ∧ _)
      clear hh e1 e2 e3
      refine Rgb.wp_region (l := [_, _, _, _, _, _, _, _, _, _, _]) (tail := [_]) (Rgb.freshWay w2 10) [some 27, some 28, some 29, some 30, some 31, some 32, some 26, some 33, some 34, some 6, none, some 7] 42 (by kernel_rfl) (by kernel_rfl) (by kernel_rfl) rfl (Rgb.freshWay_fair _ _) (Rgb.keep_drew _) (trivial) ?_
      refine' Rgb.op_is _ [] rfl rfl (by kernel_rfl) ?_ ?_
      rotate_left
      · intro wx hb
        refine Rgb.from_nil fun T hT => ?_
        go_wp2
        refine hT _ _ rfl (by first | exact Rgb.Keep.refl _ | exact below_of_dr hw2 | exact hw2 | exact (Below.refl _ _).alloc (Nat.le_refl _) _) ?_
        simp only [Rgb.last, List.getElem?_toArray, List.getElem?_cons_succ, List.getElem?_cons_zero, Option.getD_some]
        rfl
      refine' Rgb.op_is _ [0] rfl rfl (by kernel_rfl) ?_ ?_
      rotate_left
      · intro wx hb
        refine Rgb.from_is (some 27) rfl rfl ?_
        refine Rgb.from_nil fun T hT => ?_
        go_wp2
        refine hT _ _ rfl (by first | exact Rgb.Keep.refl _ | exact below_of_dr hw2 | exact hw2 | exact (Below.refl _ _).alloc (Nat.le_refl _) _) ?_
        simp only [Rgb.last, List.getElem?_toArray, List.getElem?_cons_succ, List.getElem?_cons_zero, Option.getD_some]
        rfl
      refine' Rgb.op_is _ [1] rfl rfl (by kernel_rfl) ?_ ?_
      rotate_left
      · intro wx hb
        refine Rgb.from_is (some 28) rfl rfl ?_
        refine Rgb.from_nil fun T hT => ?_
        go_wp2
        refine hT _ _ rfl (by first | exact Rgb.Keep.refl _ | exact below_of_dr hw2 | exact hw2 | exact (Below.refl _ _).alloc (Nat.le_refl _) _) ?_
        simp only [Rgb.last, List.getElem?_toArray, List.getElem?_cons_succ, List.getElem?_cons_zero, Option.getD_some]
        rfl
      refine Rgb.op_is (.map (some gm)) [2] rfl rfl (by kernel_rfl) ?_ ?_
      · intro wx hb
        refine Rgb.from_is (some 29) rfl rfl ?_
        refine Rgb.from_nil fun T hT => ?_
        have c0 := (hTl.row.below hb).cell (k := 1) rfl
        go_wp2
        exact hT _ _ rfl (by first | exact Rgb.Keep.refl _ | exact below_of_dr hw2 | exact hw2 | exact (Below.refl _ _).alloc (Nat.le_refl _) _) (by first | rfl | exact congrArg _ (by decide))
      refine Rgb.op_is (pval v.rd v.fr v.kd) [] rfl rfl (by kernel_rfl) ?_ ?_
      · intro wx hb
        refine Rgb.from_nil fun T hT => ?_
        have c0 := (hK.below hb).cell (k := 0) rfl
        have c1 := (hK.below hb).cell (k := 1) rfl
        have c2 := (hK.below hb).cell (k := 2) rfl
        go_wp2
        exact hT _ _ rfl (by first | exact Rgb.Keep.refl _ | exact below_of_dr hw2 | exact hw2 | exact (Below.refl _ _).alloc (Nat.le_refl _) _) (by first | rfl | exact congrArg _ (by decide))
      refine Rgb.op_is (.tuple #[vval u, .bool true]) [3, 4] rfl rfl (by kernel_rfl) ?_ ?_
      · intro wx hb
        refine Rgb.from_is (some 30) rfl rfl ?_
        refine Rgb.from_is (some 31) rfl rfl ?_
        refine Rgb.from_nil fun T hT => ?_
        have c0 := look_yes (hTl.map.below hb) hu
        rw [HE.out.1, HE.out.2.1, HE.out.2.2] at c0
        go_wp2
        exact hT _ _ rfl (by first | exact Rgb.Keep.refl _ | exact below_of_dr hw2 | exact hw2 | exact (Below.refl _ _).alloc (Nat.le_refl _) _) (by first | rfl | exact congrArg _ (by decide))
      refine Rgb.op_is (.tuple #[vval u, .bool true]) [5] rfl rfl (by kernel_rfl) ?_ ?_
      · intro wx hb
        refine Rgb.from_is (some 32) rfl rfl ?_
        refine Rgb.from_nil fun T hT => ?_
        go_wp2
        exact hT _ _ rfl (by first | exact Rgb.Keep.refl _ | exact below_of_dr hw2 | exact hw2 | exact (Below.refl _ _).alloc (Nat.le_refl _) _) (by first | rfl | exact congrArg _ (by decide))
      refine Rgb.op_is (vval u) [6] rfl rfl (by kernel_rfl) ?_ ?_
      · intro wx hb
        refine Rgb.from_is (some 26) rfl rfl ?_
        refine Rgb.from_nil fun T hT => ?_
        go_wp2
        exact hT _ _ rfl (by first | exact Rgb.Keep.refl _ | exact below_of_dr hw2 | exact hw2 | exact (Below.refl _ _).alloc (Nat.le_refl _) _) (by first | rfl | exact congrArg _ (by decide))
      refine Rgb.op_is (.bool true) [6] rfl rfl (by kernel_rfl) ?_ ?_
      · intro wx hb
        refine Rgb.from_is (some 26) rfl rfl ?_
        refine Rgb.from_nil fun T hT => ?_
        go_wp2
        exact hT _ _ rfl (by first | exact Rgb.Keep.refl _ | exact below_of_dr hw2 | exact hw2 | exact (Below.refl _ _).alloc (Nat.le_refl _) _) (by first | rfl | exact congrArg _ (by decide))
      refine Rgb.op_till (fun w v => ∃ b, v = .pointer (some ⟨b, 0, none⟩) ∧ w2.heap.size ≤ b ∧ Row1 w b 30 (vcl zeroVt)) [] rfl ?_ rfl (by kernel_rfl) ?_ ?_
      · exact fun w1 w2 v hk ⟨b, h1, h2, h3⟩ => ⟨b, h1, h2, h3.below hk⟩
      · intro wx hb
        refine Rgb.from_nil fun T hT => ?_
        go_wp2
        exact hT _ _ rfl ((Below.refl _ _).alloc (Nat.le_refl _) _) ⟨_, rfl, hb.size, row1_new _ (vcl zeroVt) _⟩
      refine Rgb.op_turn (fun _ _ => True) [7, 9] rfl ?_ rfl (by kernel_rfl) ?_ ?_
      · exact fun _ _ _ _ h => h
      · intro wx hb hb1
        refine Rgb.from_is (some 33) rfl rfl ?_
        refine Rgb.from_till (some 6) rfl rfl fun v6 h6 => ?_
        refine Rgb.from_nil fun T hT => ?_
        obtain ⟨gb, rfl, hgb, hZ⟩ := h6
        obtain ⟨c0, c1, c2, c3, c4⟩ := hZ.five
        obtain ⟨f0, f1, f2, f3, f4⟩ := hZ.free5
        go_wp2
        exact hT _ _ rfl (((((Below.refl _ _).setCell hgb _).setCell hgb _).setCell hgb _).setCell hgb _ |>.setCell hgb _) trivial
      refine Rgb.walk_nil [0, 1, 2, 3, 4, 5, 6, 7, 8, 9, 10] (by kernel_rfl) ?_
      intro wx hb
      refine Rgb.from_is (some 27) rfl rfl ?_
      refine Rgb.from_is (some 28) rfl rfl ?_
      refine Rgb.from_is (some 29) rfl rfl ?_
      refine Rgb.from_is (some 30) rfl rfl ?_
      refine Rgb.from_is (some 31) rfl rfl ?_
      refine Rgb.from_is (some 32) rfl rfl ?_
      refine Rgb.from_is (some 26) rfl rfl ?_
      refine Rgb.from_is (some 33) rfl rfl ?_
      refine Rgb.from_is (some 34) rfl rfl ?_
      refine Rgb.from_gone (some 6) rfl rfl fun v6 => ?_
      refine Rgb.from_of (none) rfl rfl fun vx10 hx10 => ?_
      refine Rgb.from_nil ?_
      simp only [List.map, Act.put, List.setIfInBounds_toArray, List.set_cons_zero, List.set_cons_succ]
      replace hB := hB.trans (hb.mono hB.size)
      replace hTl := hTl.below hb
      clear hb
      go_wp2
      go_ret
      refine ⟨by rw [hP.out]; rfl, ?_, but_below hB _⟩
      rw [putL, hP.out, if_neg (by simp)]
      exact hTl
    | false =>
      have hP := hid (show putB n L v = true by simp [putB, hh, HM.out])
      have HN := hid (has_no hh)
      have HF := hid hh
      clear hh
      refine Rgb.wp_region (l := [_, _, _, _, _, _, _, _, _, _, _]) (tail := [_]) (Rgb.freshWay w2 10) [some 27, some 28, some 29, some 30, some 31, some 32, some 26, some 33, some 34, some 6, none, some 7] 42 (by kernel_rfl) (by kernel_rfl) (by kernel_rfl) rfl (Rgb.freshWay_fair _ _) (Rgb.keep_drew _) (trivial) ?_
      refine' Rgb.op_is _ [] rfl rfl (by kernel_rfl) ?_ ?_
      rotate_left
      · intro wx hb
        refine Rgb.from_nil fun T hT => ?_
        go_wp2
        refine hT _ _ rfl (by first | exact Rgb.Keep.refl _ | exact below_of_dr hw2 | exact hw2 | exact (Below.refl _ _).alloc (Nat.le_refl _) _) ?_
        simp only [Rgb.last, List.getElem?_toArray, List.getElem?_cons_succ, List.getElem?_cons_zero, Option.getD_some]
        rfl
      refine' Rgb.op_is _ [0] rfl rfl (by kernel_rfl) ?_ ?_
      rotate_left
      · intro wx hb
        refine Rgb.from_is (some 27) rfl rfl ?_
        refine Rgb.from_nil fun T hT => ?_
        go_wp2
        refine hT _ _ rfl (by first | exact Rgb.Keep.refl _ | exact below_of_dr hw2 | exact hw2 | exact (Below.refl _ _).alloc (Nat.le_refl _) _) ?_
        simp only [Rgb.last, List.getElem?_toArray, List.getElem?_cons_succ, List.getElem?_cons_zero, Option.getD_some]
        rfl
      refine' Rgb.op_is _ [1] rfl rfl (by kernel_rfl) ?_ ?_
      rotate_left
      · intro wx hb
        refine Rgb.from_is (some 28) rfl rfl ?_
        refine Rgb.from_nil fun T hT => ?_
        go_wp2
        refine hT _ _ rfl (by first | exact Rgb.Keep.refl _ | exact below_of_dr hw2 | exact hw2 | exact (Below.refl _ _).alloc (Nat.le_refl _) _) ?_
        simp only [Rgb.last, List.getElem?_toArray, List.getElem?_cons_succ, List.getElem?_cons_zero, Option.getD_some]
        rfl
      refine Rgb.op_is (.map (some gm)) [2] rfl rfl (by kernel_rfl) ?_ ?_
      · intro wx hb
        refine Rgb.from_is (some 29) rfl rfl ?_
        refine Rgb.from_nil fun T hT => ?_
        have c0 := (hTl.row.below hb).cell (k := 1) rfl
        go_wp2
        exact hT _ _ rfl (by first | exact Rgb.Keep.refl _ | exact below_of_dr hw2 | exact hw2 | exact (Below.refl _ _).alloc (Nat.le_refl _) _) (by first | rfl | exact congrArg _ (by decide))
      refine Rgb.op_is (pval v.rd v.fr v.kd) [] rfl rfl (by kernel_rfl) ?_ ?_
      · intro wx hb
        refine Rgb.from_nil fun T hT => ?_
        have c0 := (hK.below hb).cell (k := 0) rfl
        have c1 := (hK.below hb).cell (k := 1) rfl
        have c2 := (hK.below hb).cell (k := 2) rfl
        go_wp2
        exact hT _ _ rfl (by first | exact Rgb.Keep.refl _ | exact below_of_dr hw2 | exact hw2 | exact (Below.refl _ _).alloc (Nat.le_refl _) _) (by first | rfl | exact congrArg _ (by decide))
      refine Rgb.op_is (.tuple #[vval zeroVt, .bool false]) [3, 4] rfl rfl (by kernel_rfl) ?_ ?_
      · intro wx hb
        refine Rgb.from_is (some 30) rfl rfl ?_
        refine Rgb.from_is (some 31) rfl rfl ?_
        refine Rgb.from_nil fun T hT => ?_
        have c0 := look_no (hTl.map.below hb) hv.rd hv.fr hv.kd HN.out
        go_wp2
        exact hT _ _ rfl (by first | exact Rgb.Keep.refl _ | exact below_of_dr hw2 | exact hw2 | exact (Below.refl _ _).alloc (Nat.le_refl _) _) (by first | rfl | exact congrArg _ (by decide))
      refine Rgb.op_is (.tuple #[vval zeroVt, .bool false]) [5] rfl rfl (by kernel_rfl) ?_ ?_
      · intro wx hb
        refine Rgb.from_is (some 32) rfl rfl ?_
        refine Rgb.from_nil fun T hT => ?_
        go_wp2
        exact hT _ _ rfl (by first | exact Rgb.Keep.refl _ | exact below_of_dr hw2 | exact hw2 | exact (Below.refl _ _).alloc (Nat.le_refl _) _) (by first | rfl | exact congrArg _ (by decide))
      refine Rgb.op_is (vval zeroVt) [6] rfl rfl (by kernel_rfl) ?_ ?_
      · intro wx hb
        refine Rgb.from_is (some 26) rfl rfl ?_
        refine Rgb.from_nil fun T hT => ?_
        go_wp2
        exact hT _ _ rfl (by first | exact Rgb.Keep.refl _ | exact below_of_dr hw2 | exact hw2 | exact (Below.refl _ _).alloc (Nat.le_refl _) _) (by first | rfl | exact congrArg _ (by decide))
      refine Rgb.op_is (.bool false) [6] rfl rfl (by kernel_rfl) ?_ ?_
      · intro wx hb
        refine Rgb.from_is (some 26) rfl rfl ?_
        refine Rgb.from_nil fun T hT => ?_
        go_wp2
        exact hT _ _ rfl (by first | exact Rgb.Keep.refl _ | exact below_of_dr hw2 | exact hw2 | exact (Below.refl _ _).alloc (Nat.le_refl _) _) (by first | rfl | exact congrArg _ (by decide))
      refine Rgb.op_till (fun w v => ∃ b, v = .pointer (some ⟨b, 0, none⟩) ∧ w2.heap.size ≤ b ∧ Row1 w b 30 (vcl zeroVt)) [] rfl ?_ rfl (by kernel_rfl) ?_ ?_
      · exact fun w1 w2 v hk ⟨b, h1, h2, h3⟩ => ⟨b, h1, h2, h3.below hk⟩
      · intro wx hb
        refine Rgb.from_nil fun T hT => ?_
        go_wp2
        exact hT _ _ rfl ((Below.refl _ _).alloc (Nat.le_refl _) _) ⟨_, rfl, hb.size, row1_new _ (vcl zeroVt) _⟩
      refine Rgb.op_turn (fun _ _ => True) [7, 9] rfl ?_ rfl (by kernel_rfl) ?_ ?_
      · exact fun _ _ _ _ h => h
      · intro wx hb hb1
        refine Rgb.from_is (some 33) rfl rfl ?_
        refine Rgb.from_till (some 6) rfl rfl fun v6 h6 => ?_
        refine Rgb.from_nil fun T hT => ?_
        obtain ⟨gb, rfl, hgb, hZ⟩ := h6
        obtain ⟨c0, c1, c2, c3, c4⟩ := hZ.five
        obtain ⟨f0, f1, f2, f3, f4⟩ := hZ.free5
        go_wp2
        exact hT _ _ rfl (((((Below.refl _ _).setCell hgb _).setCell hgb _).setCell hgb _).setCell hgb _ |>.setCell hgb _) trivial
      refine Rgb.walk_nil [0, 1, 2, 3, 4, 5, 6, 7, 8, 9, 10] (by kernel_rfl) ?_
      intro wx hb
      refine Rgb.from_is (some 27) rfl rfl ?_
      refine Rgb.from_is (some 28) rfl rfl ?_
      refine Rgb.from_is (some 29) rfl rfl ?_
      refine Rgb.from_is (some 30) rfl rfl ?_
      refine Rgb.from_is (some 31) rfl rfl ?_
      refine Rgb.from_is (some 32) rfl rfl ?_
      refine Rgb.from_is (some 26) rfl rfl ?_
      refine Rgb.from_is (some 33) rfl rfl ?_
      refine Rgb.from_is (some 34) rfl rfl ?_
      refine Rgb.from_gone (some 6) rfl rfl fun v6 => ?_
      refine Rgb.from_of (none) rfl rfl fun vx10 hx10 => ?_
      refine Rgb.from_nil ?_
      simp only [List.map, Act.put, List.setIfInBounds_toArray, List.set_cons_zero, List.set_cons_succ]
      replace hB := hB.trans (hb.mono hB.size)
      replace hTl := hTl.below hb
      replace hV := hV.below hb
      replace hK := hK.below hb
      clear hb
      go_wp2
      generalize wx = w3 at *
      refine Rgb.wp_region (l := [_, _, _, _, _, _]) (tail := [_]) (Rgb.grows _ 7) [some 36, some 37, some 38, some 39, some 40, some 41, none] 42 (by kernel_rfl) (by kernel_rfl) (by kernel_rfl) rfl (Rgb.grows_fair _ _) (Rgb.keep_drew _) (trivial) ?_
      refine' Rgb.op_is _ [] rfl rfl (by kernel_rfl) ?_ ?_
      rotate_left
      · intro wx hb
        refine Rgb.from_nil fun T hT => ?_
        go_wp2
        refine hT _ _ rfl (by first | exact Rgb.Keep.refl _ | exact below_of_dr hw2 | exact hw2 | exact (Below.refl _ _).alloc (Nat.le_refl _) _) ?_
        simp only [Rgb.last, List.getElem?_toArray, List.getElem?_cons_succ, List.getElem?_cons_zero, Option.getD_some]
        rfl
      refine' Rgb.op_is _ [0] rfl rfl (by kernel_rfl) ?_ ?_
      rotate_left
      · intro wx hb
        refine Rgb.from_is (some 36) rfl rfl ?_
        refine Rgb.from_nil fun T hT => ?_
        go_wp2
        refine hT _ _ rfl (by first | exact Rgb.Keep.refl _ | exact below_of_dr hw2 | exact hw2 | exact (Below.refl _ _).alloc (Nat.le_refl _) _) ?_
        simp only [Rgb.last, List.getElem?_toArray, List.getElem?_cons_succ, List.getElem?_cons_zero, Option.getD_some]
        rfl
      refine' Rgb.op_is _ [1] rfl rfl (by kernel_rfl) ?_ ?_
      rotate_left
      · intro wx hb
        refine Rgb.from_is (some 37) rfl rfl ?_
        refine Rgb.from_nil fun T hT => ?_
        go_wp2
        refine hT _ _ rfl (by first | exact Rgb.Keep.refl _ | exact below_of_dr hw2 | exact hw2 | exact (Below.refl _ _).alloc (Nat.le_refl _) _) ?_
        simp only [Rgb.last, List.getElem?_toArray, List.getElem?_cons_succ, List.getElem?_cons_zero, Option.getD_some]
        rfl
      refine Rgb.op_is (.map (some gm)) [2] rfl rfl (by kernel_rfl) ?_ ?_
      · intro wx hb
        refine Rgb.from_is (some 38) rfl rfl ?_
        refine Rgb.from_nil fun T hT => ?_
        have c0 := (hTl.row.below hb).cell (k := 1) rfl
        go_wp2
        exact hT _ _ rfl (by first | exact Rgb.Keep.refl _ | exact below_of_dr hw2 | exact hw2 | exact (Below.refl _ _).alloc (Nat.le_refl _) _) (by first | rfl | exact congrArg _ (by decide))
      refine Rgb.op_is (pval v.rd v.fr v.kd) [] rfl rfl (by kernel_rfl) ?_ ?_
      · intro wx hb
        refine Rgb.from_nil fun T hT => ?_
        have c0 := (hK.below hb).cell (k := 0) rfl
        have c1 := (hK.below hb).cell (k := 1) rfl
        have c2 := (hK.below hb).cell (k := 2) rfl
        go_wp2
        exact hT _ _ rfl (by first | exact Rgb.Keep.refl _ | exact below_of_dr hw2 | exact hw2 | exact (Below.refl _ _).alloc (Nat.le_refl _) _) (by first | rfl | exact congrArg _ (by decide))
      refine Rgb.op_is (vval v) [] rfl rfl (by kernel_rfl) ?_ ?_
      · intro wx hb
        refine Rgb.from_nil fun T hT => ?_
        obtain ⟨c0, c1, c2, c3, c4⟩ := (hV.below hb).five
        go_wp2
        exact hT _ _ rfl (by first | exact Rgb.Keep.refl _ | exact below_of_dr hw2 | exact hw2 | exact (Below.refl _ _).alloc (Nat.le_refl _) _) (by first | rfl | exact congrArg _ (by decide))
      refine Rgb.walk_nil [0, 1, 2, 3, 4, 5] (by kernel_rfl) ?_
      intro wx hb
      refine Rgb.from_is (some 36) rfl rfl ?_
      refine Rgb.from_is (some 37) rfl rfl ?_
      refine Rgb.from_is (some 38) rfl rfl ?_
      refine Rgb.from_is (some 39) rfl rfl ?_
      refine Rgb.from_is (some 40) rfl rfl ?_
      refine Rgb.from_is (some 41) rfl rfl ?_
      refine Rgb.from_nil ?_
      simp only [List.map, Act.put, List.setIfInBounds_toArray, List.set_cons_zero, List.set_cons_succ]
      replace hB := below_next hB hB.size hb
      replace hTl := hTl.below hb
      clear hb hV hK
      have hlen := HR.out.2.2
      go_wp2_with (at_mapUpdate; refine wpList_store_tab (M := tM) _ rfl _ _ _ 68 rfl 30 Try.underlying68 rfl hTl.map (by unfold maxLen; omega) (u := v) hv rfl rfl ?_; intro w4 hM4 hg4)
      go_ret
      refine ⟨by rw [hP.out]; rfl, ⟨hTl.row.but hg4 hTl.lt.2.2, ?_, putL_srt hTl.srt, putL_mays hTl.mays, hTl.n⟩, but_then (but_below hB _) hg4⟩
      rw [filter_no hTl.map.ok hv HF.out] at hM4
      rw [putL, hP.out, if_pos rfl]
      exact hM4.perm (ins_perm v L).symm
end Go.Proofs.Ytnngnekfgijejaa
