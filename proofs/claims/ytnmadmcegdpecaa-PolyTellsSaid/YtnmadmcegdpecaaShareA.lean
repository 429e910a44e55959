/-
  How far a place, and another one, are from the others of a row: the iterator's rounds.
-/
import Derived.Test.YtnmadmcegdpecaaShare
import Derived.Test.YtnmadmcegdpecaaYield
import Derived.Test.YtnmadmcegdpecaaLag
namespace Go.Proofs.Ytnmadmcegdpecaa
open Go.RowKit Go.Shelf

attribute [local go_sem] Oper.semAt_some

/-- what comes for the others: how far number i is, how far the other place is. -/
def oths (l : List Int) (i : Nat) (z at_ q : Int) : List (Int × Int) := (but l i).map fun x => (mSub z x q, mSub at_ x q)
theorem oths_nil (i : Nat) (z at_ q : Int) : oths [] i z at_ q = [] := by simp [oths, but]
theorem oths_ne {l : List Int} {x : Int} {k i : Nat} (hx : l[k]? = some x) (h : k ≠ i) (z at_ q : Int) : oths (l.take (k + 1)) i z at_ q = oths (l.take k) i z at_ q ++ [(mSub z x q, mSub at_ x q)] := by
  have hk := (List.getElem?_eq_some_iff.1 hx).1
  unfold oths
  rw [take_snoc' hx, but_ne (by rw [List.length_take]; omega), List.map_append]; rfl
theorem oths_eq {l : List Int} {x : Int} {k i : Nat} (hx : l[k]? = some x) (h : k = i) (z at_ q : Int) : oths (l.take (k + 1)) i z at_ q = oths (l.take k) i z at_ q := by
  have hk := (List.getElem?_eq_some_iff.1 hx).1
  unfold oths
  rw [take_snoc' hx, but_eq (by rw [List.length_take]; omega)]

set_option maxRecDepth 100000 in
set_option maxHeartbeats 4000000 in
theorem others1_c (A : Option Addr) (l : List Int) (c i : Nat) (z at_ q : Int) (g1 g2 g3 g4 lp n : Nat) (w : World) (J : List (Int × Int) → World → Prop) (hJ : ∀ xs A B, w.heap.size ≤ A.heap.size → J xs A → Below A.heap.size A B → J xs B)
    (hY : ∀ pre x W, w.heap.size ≤ W.heap.size → J pre W → U64 (Prod.fst x) → U64 (Prod.snd x) → YieldAt Fence.wide n Try.prog lp #[.int .u64 (Prod.fst x), .int .u64 (Prod.snd x)] W fun e B => e = .returned (.bool true) ∧ J (pre ++ [x]) B ∧ (Oth A l c i at_ q g1 g2 g3 g4 W → Oth A l c i at_ q g1 g2 g3 g4 B) ∧ W.heap.size ≤ B.heap.size)
    (hO : Oth A l c i at_ q g1 g2 g3 g4 w) (hi : l[i]? = some z) (hl : l.length ≤ 1000000) (hu : U64s l) (hat : U64 at_) (hq : U64 q) (h0 : J [] w) :
    Calls Try.prog 120 #[.func (.yield lp) #[] #[], .pointer (some ⟨g1, 0, none⟩), .pointer (some ⟨g2, 0, none⟩), .pointer (some ⟨g3, 0, none⟩), .pointer (some ⟨g4, 0, none⟩)] w fun e w' => (∃ v, e = .returned v) ∧ J (oths l i z at_ q) w' := by
  have hc1 := hO.r1.cell (k := 0) rfl
  have huz := hu.at_ hi
  have hil := (List.getElem?_eq_some_iff.1 hi).1
  go_enter Try.func120, Try.ntmps120
  go_wp2
  clear hc1
  go_loopw [6, 7, 10] (fun _ _ j wr => ∃ k : Nat, j = .int .i64 k ∧ k ≤ l.length ∧ w.heap.size ≤ wr.heap.size ∧ Oth A l c i at_ q g1 g2 g3 g4 wr ∧ J (oths (l.take k) i z at_ q) wr) (fun _ _ j _ => l.length - (intOf j).toNat)
  case atStart => exact ⟨0, rfl, by omega, Nat.le_refl _, hO, by rw [List.take_zero, oths_nil]; exact h0⟩
  case round =>
    obtain ⟨k, rfl, hk, hsz, hO2, hJx⟩ := hrel
    by_cases hlt : k < l.length
    · obtain ⟨x, hx⟩ := get_of_lt hlt
      obtain ⟨o2, off2, rfl, hcx⟩ := hO2.A.at_map hx
      have hux := hu.at_ hx
      obtain ⟨o3, off3, he3, hcz⟩ := hO2.A.at_map hi
      simp only [Option.some.injEq, Addr.mk.injEq, and_true] at he3
      obtain ⟨rfl, rfl⟩ := he3
      have c1 := hO2.r1.cell (k := 0) rfl
      have c2 := hO2.r2.cell (k := 0) rfl
      have c3 := hO2.r3.cell (k := 0) rfl
      have c4 := hO2.r4.cell (k := 0) rfl
      by_cases hki : k = i
      · have hst := hid (oths_eq hx hki z at_ q)
        subst hki
        have hd : ((k : Int) != (k : Int)) = false := by simp
        clear hx hi
        go_wp2
        go_quiet (fail)
        go_wp2
        go_roundw
        case rel => exact ⟨k + 1, by go_num, by omega, by simpa using hsz, hO2.below (below_of_dr ⟨_, rfl⟩), by rw [hst.out]; exact hJ _ _ _ hsz hJx (below_of_dr ⟨_, rfl⟩)⟩
        case measure => simp [intOf]; omega
      · have hst := hid (oths_ne hx hki z at_ q)
        have hd : ((k : Int) != (i : Int)) = true := by simp; omega
        have hd2 : (k != i) = true := by simp; omega
        clear hx hi
        go_upto_region 3 with (fail)
        refine (wpIn_wide (n := n + 1)).1 ?_
        refine Rgb.wp_regionY (lv := n + 1) (l := [_, _, _, _, _, _, _, _, _, _, _, _, _, _, _, _]) (tail := [_, _, _]) (Rgb.grows _ 19) [some 15, some 16, some 17, some 18, some 19, some 20, some 21, some 22, some 23, some 24, some 25, some 26, some 27, some 28, some 29, some 30, some 31, some 32, some 33] 35 rfl (by kernel_rfl) (by kernel_rfl) (by kernel_rfl) rfl (Rgb.grows_fair _ _) (Rgb.keep_drew _) (trivial) ?_
        intro QQ hQQ
        have HQQ := hid hQQ
        clear hQQ
        refine' Rgb.op_is _ [] rfl rfl (by kernel_rfl) ?_ ?_
        rotate_left
        · intro wx hb
          refine Rgb.from_nil fun T hT => ?_
          go_wp2
          refine hT _ _ rfl (by first | exact Rgb.Keep.refl _ | exact below_of_dr hw2 | exact hw2 | exact (Below.refl _ _).alloc (Nat.le_refl _) _) ?_
          simp only [Rgb.last, List.getElem?_toArray, List.getElem?_cons_succ, List.getElem?_cons_zero, Option.getD_some]
          rfl
        refine Rgb.op_is (.int .i64 i) [] rfl rfl (by kernel_rfl) ?_ ?_
        · intro wx hb
          refine Rgb.from_nil fun T hT => ?_
          have g1 := (hb.cell (lt_of_cell c2)).trans c2
          go_wp2
          exact hT _ _ rfl (by first | exact Rgb.Keep.refl _ | exact below_of_dr hw2 | exact hw2 | exact (Below.refl _ _).alloc (Nat.le_refl _) _) (by first | rfl | exact congrArg _ (by decide))
        refine Rgb.op_is (.bool true) [0, 1] rfl rfl (by kernel_rfl) ?_ ?_
        · intro wx hb
          refine Rgb.from_is (some 15) rfl rfl ?_
          refine Rgb.from_is (some 16) rfl rfl ?_
          refine Rgb.from_nil fun T hT => ?_
          go_wp2
          exact hT _ _ rfl (by first | exact Rgb.Keep.refl _ | exact below_of_dr hw2 | exact hw2 | exact (Below.refl _ _).alloc (Nat.le_refl _) _) (by first | rfl | exact congrArg _ (by decide))
        refine Rgb.op_is (.bool true) [2] rfl rfl (by kernel_rfl) ?_ ?_
        · intro wx hb
          refine Rgb.from_is (some 17) rfl rfl ?_
          refine Rgb.from_nil fun T hT => ?_
          go_wp2
          exact hT _ _ rfl (by first | exact Rgb.Keep.refl _ | exact below_of_dr hw2 | exact hw2 | exact (Below.refl _ _).alloc (Nat.le_refl _) _) (by first | rfl | exact congrArg _ (by decide))
        refine' Rgb.op_is _ [] rfl rfl (by kernel_rfl) ?_ ?_
        rotate_left
        · intro wx hb
          refine Rgb.from_nil fun T hT => ?_
          go_wp2
          refine hT _ _ rfl (by first | exact Rgb.Keep.refl _ | exact below_of_dr hw2 | exact hw2 | exact (Below.refl _ _).alloc (Nat.le_refl _) _) ?_
          simp only [Rgb.last, List.getElem?_toArray, List.getElem?_cons_succ, List.getElem?_cons_zero, Option.getD_some]
          rfl
        refine Rgb.op_is (.slice (some ⟨o2, off2, none⟩) l.length c) [] rfl rfl (by kernel_rfl) ?_ ?_
        · intro wx hb
          refine Rgb.from_nil fun T hT => ?_
          have g1 := (hb.cell (lt_of_cell c1)).trans c1
          go_wp2
          exact hT _ _ rfl (by first | exact Rgb.Keep.refl _ | exact below_of_dr hw2 | exact hw2 | exact (Below.refl _ _).alloc (Nat.le_refl _) _) (by first | rfl | exact congrArg _ (by decide))
        refine Rgb.op_is (.int .i64 i) [] rfl rfl (by kernel_rfl) ?_ ?_
        · intro wx hb
          refine Rgb.from_nil fun T hT => ?_
          have g1 := (hb.cell (lt_of_cell c2)).trans c2
          go_wp2
          exact hT _ _ rfl (by first | exact Rgb.Keep.refl _ | exact below_of_dr hw2 | exact hw2 | exact (Below.refl _ _).alloc (Nat.le_refl _) _) (by first | rfl | exact congrArg _ (by decide))
        refine Rgb.op_is (.pointer (some ⟨o2, off2 + i, none⟩)) [5, 6] rfl rfl (by kernel_rfl) ?_ ?_
        · intro wx hb
          refine Rgb.from_is (some 20) rfl rfl ?_
          refine Rgb.from_is (some 21) rfl rfl ?_
          refine Rgb.from_nil fun T hT => ?_
          go_wp2
          exact hT _ _ rfl (by first | exact Rgb.Keep.refl _ | exact below_of_dr hw2 | exact hw2 | exact (Below.refl _ _).alloc (Nat.le_refl _) _) (by first | rfl | exact congrArg _ (by decide))
        refine Rgb.op_is (.int .u64 z) [7] rfl rfl (by kernel_rfl) ?_ ?_
        · intro wx hb
          refine Rgb.from_is (some 22) rfl rfl ?_
          refine Rgb.from_nil fun T hT => ?_
          have g1 := (hb.cell (lt_of_cell hcz)).trans hcz
          go_wp2
          exact hT _ _ rfl (by first | exact Rgb.Keep.refl _ | exact below_of_dr hw2 | exact hw2 | exact (Below.refl _ _).alloc (Nat.le_refl _) _) (by first | rfl | exact congrArg _ (by decide))
        refine' Rgb.op_is _ [] rfl rfl (by kernel_rfl) ?_ ?_
        rotate_left
        · intro wx hb
          refine Rgb.from_nil fun T hT => ?_
          go_wp2
          refine hT _ _ rfl (by first | exact Rgb.Keep.refl _ | exact below_of_dr hw2 | exact hw2 | exact (Below.refl _ _).alloc (Nat.le_refl _) _) ?_
          simp only [Rgb.last, List.getElem?_toArray, List.getElem?_cons_succ, List.getElem?_cons_zero, Option.getD_some]
          rfl
        refine Rgb.op_is (.int .u64 q) [] rfl rfl (by kernel_rfl) ?_ ?_
        · intro wx hb
          refine Rgb.from_nil fun T hT => ?_
          have g1 := (hb.cell (lt_of_cell c3)).trans c3
          go_wp2
          exact hT _ _ rfl (by first | exact Rgb.Keep.refl _ | exact below_of_dr hw2 | exact hw2 | exact (Below.refl _ _).alloc (Nat.le_refl _) _) (by first | rfl | exact congrArg _ (by decide))
        refine Rgb.op_is (.int .u64 (mSub z x q)) [8, 9, 10] rfl rfl (by kernel_rfl) ?_ ?_
        · intro wx hb
          refine Rgb.from_is (some 23) rfl rfl ?_
          refine Rgb.from_is (some 24) rfl rfl ?_
          refine Rgb.from_is (some 25) rfl rfl ?_
          refine Rgb.from_nil fun T hT => ?_
          go_wp2_with (go_at_call 81; refine (sub_c _ _ _ huz hux hq _).mono ?_; rintro e w5 ⟨rfl, hw5⟩)
          exact hT _ _ rfl (below_of_dr hw5) rfl
        refine Rgb.op_is (.int .u64 at_) [] rfl rfl (by kernel_rfl) ?_ ?_
        · intro wx hb
          refine Rgb.from_nil fun T hT => ?_
          have g1 := (hb.cell (lt_of_cell c4)).trans c4
          go_wp2
          exact hT _ _ rfl (by first | exact Rgb.Keep.refl _ | exact below_of_dr hw2 | exact hw2 | exact (Below.refl _ _).alloc (Nat.le_refl _) _) (by first | rfl | exact congrArg _ (by decide))
        refine' Rgb.op_is _ [] rfl rfl (by kernel_rfl) ?_ ?_
        rotate_left
        · intro wx hb
          refine Rgb.from_nil fun T hT => ?_
          go_wp2
          refine hT _ _ rfl (by first | exact Rgb.Keep.refl _ | exact below_of_dr hw2 | exact hw2 | exact (Below.refl _ _).alloc (Nat.le_refl _) _) ?_
          simp only [Rgb.last, List.getElem?_toArray, List.getElem?_cons_succ, List.getElem?_cons_zero, Option.getD_some]
          rfl
        refine Rgb.op_is (.int .u64 q) [] rfl rfl (by kernel_rfl) ?_ ?_
        · intro wx hb
          refine Rgb.from_nil fun T hT => ?_
          have g1 := (hb.cell (lt_of_cell c3)).trans c3
          go_wp2
          exact hT _ _ rfl (by first | exact Rgb.Keep.refl _ | exact below_of_dr hw2 | exact hw2 | exact (Below.refl _ _).alloc (Nat.le_refl _) _) (by first | rfl | exact congrArg _ (by decide))
        refine Rgb.op_is (.int .u64 (mSub at_ x q)) [12, 13, 14] rfl rfl (by kernel_rfl) ?_ ?_
        · intro wx hb
          refine Rgb.from_is (some 27) rfl rfl ?_
          refine Rgb.from_is (some 28) rfl rfl ?_
          refine Rgb.from_is (some 29) rfl rfl ?_
          refine Rgb.from_nil fun T hT => ?_
          go_wp2_with (go_at_call 81; refine (sub_c _ _ _ hat hux hq _).mono ?_; rintro e w5 ⟨rfl, hw5⟩)
          exact hT _ _ rfl (below_of_dr hw5) rfl
        refine Rgb.walk_nil [0, 1, 2, 3, 4, 5, 6, 7, 8, 9, 10, 11, 12, 13, 14, 15] (by kernel_rfl) ?_
        intro wx hb
        refine Rgb.from_is (some 15) rfl rfl ?_
        refine Rgb.from_is (some 16) rfl rfl ?_
        refine Rgb.from_is (some 17) rfl rfl ?_
        refine Rgb.from_is (some 18) rfl rfl ?_
        refine Rgb.from_is (some 19) rfl rfl ?_
        refine Rgb.from_is (some 20) rfl rfl ?_
        refine Rgb.from_is (some 21) rfl rfl ?_
        refine Rgb.from_is (some 22) rfl rfl ?_
        refine Rgb.from_is (some 23) rfl rfl ?_
        refine Rgb.from_is (some 24) rfl rfl ?_
        refine Rgb.from_is (some 25) rfl rfl ?_
        refine Rgb.from_is (some 26) rfl rfl ?_
        refine Rgb.from_is (some 27) rfl rfl ?_
        refine Rgb.from_is (some 28) rfl rfl ?_
        refine Rgb.from_is (some 29) rfl rfl ?_
        refine Rgb.from_is (some 30) rfl rfl ?_
        refine Rgb.from_nil ?_
        refine HQQ.out _ _ ?_
        simp only [List.map, Act.put, List.setIfInBounds_toArray, List.set_cons_zero, List.set_cons_succ]
        clear HQQ
        have hO3 := hO2.below hb
        have hs3 := hb.size
        have hJ3 := hJ _ _ _ hsz hJx hb
        obtain ⟨fn, tmps, assign, body, hy, hR⟩ := hY _ (mSub z x q, mSub at_ x q) wx (by omega) hJ3 (mSub_u64 _ _ _) (mSub_u64 _ _ _)
        dsimp only at hy
        clear hJx c1 c2 c3 c4 hcx hcz
        gi_wp2
        refine hR.mono ?_
        rintro e B ⟨rfl, hJB, hKB, hszB⟩
        gi_wp2
        go_wp2
        go_roundw
        case rel => exact ⟨k + 1, by go_num, by omega, by omega, hKB hO3, by rw [hst.out]; exact hJB⟩
        case measure => simp [intOf]; omega
    · obtain rfl : k = l.length := by omega
      rw [List.take_length] at hJx
      go_wp2
      go_end0
      exact ⟨⟨_, rfl⟩, hJx⟩

end Go.Proofs.Ytnmadmcegdpecaa
