/-
  The reference's rows and columns of polynomials of two.
-/
import Derived.Test.YtnmadmcegdpecaaBivB
import Derived.Test.YtnmadmcegdpecaaMany
namespace Go.Proofs.Ytnmadmcegdpecaa
open Go.RowKit

/-- the j-th numbers of all lists. -/
def colJ (f : List (List Int)) (j : Nat) : List Int := f.map fun l => l.getD j 0
theorem colJ_at {f : List (List Int)} {k : Nat} {l : List Int} (h : f[k]? = some l) (j : Nat) : (colJ f j)[k]? = some (l.getD j 0) := by simp [colJ, h]
theorem colJ_len (f : List (List Int)) (j : Nat) : (colJ f j).length = f.length := by simp [colJ]
theorem getD_in (l : List Int) (i : Nat) : l.getD i 0 = 0 ∨ l.getD i 0 ∈ l := by
  rw [List.getD_eq_getElem?_getD]
  cases h : l[i]? with
  | none => exact .inl rfl
  | some z => exact .inr (List.mem_of_getElem? h)
theorem colJ_u64 {f : List (List Int)} (h : Words f) (j : Nat) : U64s (colJ f j) := by
  intro z hz
  obtain ⟨l, hl, rfl⟩ := List.mem_map.1 hz
  rcases getD_in l j with h0 | h0
  · rw [h0]; exact ⟨by decide, by decide⟩
  · exact h l hl _ h0
/-- the row at a place. -/
def mRow (f : List (List Int)) (x q : Int) : List Int := (List.range (wide f)).map fun j => mEval (colJ f j) x q
/-- the row so far: k lists, and m numbers of the next one. -/
def rowAt (f : List (List Int)) (x q : Int) (n k m : Nat) : List Int := (List.range n).map fun j => if j < m then mEval ((colJ f j).take (k + 1)) x q else mEval ((colJ f j).take k) x q
theorem rowAt_len (f : List (List Int)) (x q : Int) (n k m : Nat) : (rowAt f x q n k m).length = n := by simp [rowAt]
theorem rowAt_zero (f : List (List Int)) (x q : Int) (n : Nat) : rowAt f x q n 0 0 = List.replicate n 0 := by
  apply List.ext_getElem?
  intro j
  simp only [rowAt, List.getElem?_map, List.getElem?_replicate]
  rcases Nat.lt_or_ge j n with h | h
  · rw [List.getElem?_range h, if_pos h]; simp [mEval_nil]
  · rw [List.getElem?_eq_none (by simpa using h), if_neg (by omega)]; rfl
theorem rowAt_at (f : List (List Int)) (x q : Int) {n k m : Nat} (h : m < n) : (rowAt f x q n k m)[m]? = some (mEval ((colJ f m).take k) x q) := by
  simp only [rowAt, List.getElem?_map, List.getElem?_range h, Option.map_some]
  rw [if_neg (by omega)]
theorem rowAt_set {f : List (List Int)} {x q : Int} {n k m : Nat} {l : List Int} {z : Int} (h : m < n) (hk : f[k]? = some l) (hz : l[m]? = some z) :
    (rowAt f x q n k m).set m (mAdd (mEval ((colJ f m).take k) x q) (mMul z (mPow x k q) q) q) = rowAt f x q n k (m + 1) := by
  have hc := colJ_at hk m
  rw [List.getD_eq_getElem?_getD, hz] at hc
  have hs := mEval_take hc x q
  simp only [Option.getD_some] at hs
  apply List.ext_getElem?
  intro j
  rw [List.getElem?_set]
  split
  · rename_i hj
    subst hj
    rw [if_pos (by rw [rowAt_len]; exact h)]
    simp only [rowAt, List.getElem?_map, List.getElem?_range h, Option.map_some]
    rw [if_pos (by omega), hs]
  · rename_i hj
    simp only [rowAt, List.getElem?_map]
    rcases Nat.lt_or_ge j n with h1 | h1
    · rw [List.getElem?_range h1]
      simp only [Option.map_some]
      by_cases hjm : j < m
      · rw [if_pos hjm, if_pos (by omega)]
      · rw [if_neg hjm, if_neg (by omega)]
    · rw [List.getElem?_eq_none (by simpa using h1)]; rfl
theorem rowAt_next {f : List (List Int)} {x q : Int} {n k : Nat} {l : List Int} (hk : f[k]? = some l) : rowAt f x q n k l.length = rowAt f x q n (k + 1) 0 := by
  unfold rowAt
  apply List.map_congr_left
  intro j _
  rw [if_neg (Nat.not_lt_zero j)]
  split
  · rfl
  · rename_i h
    have hc := colJ_at hk j
    have h0 : l.getD j 0 = 0 := by rw [List.getD_eq_getElem?_getD, List.getElem?_eq_none (by omega)]; rfl
    rw [h0] at hc
    have hs := mEval_take hc x q
    rw [hs, mMul_zero_l]
    exact (red_eval _ _ _).add_zero.symm
theorem rowAt_all (f : List (List Int)) (x q : Int) : rowAt f x q (wide f) f.length 0 = mRow f x q := by
  unfold rowAt mRow
  apply List.map_congr_left
  intro j _
  rw [if_neg (Nat.not_lt_zero j), List.take_of_length_le (by rw [colJ_len]; exact Nat.le_refl _)]
theorem mRow_u64 (f : List (List Int)) (x q : Int) : U64s (mRow f x q) := by
  intro z hz
  obtain ⟨j, _, rfl⟩ := List.mem_map.1 hz
  exact mEval_u64 _ _ _

set_option maxRecDepth 100000 in
set_option maxHeartbeats 1000000 in
theorem rrow06_c (A : Option Addr) (f : List (List Int)) (c : Nat) (x q : Int) (w : World) (hA : Grid w A f) (hl : f.length ≤ 9223372036854775807) (hwd : wide f ≤ 17592186044415) (hu : Words f) (hx : U64 x) (hq : U64 q) :
    Calls Try.prog 24 #[.slice A f.length c, .int .u64 x, .int .u64 q] w (NewNums (mRow f x q) w) := by
  have hall := rowAt_all f x q
  have hle : ∀ l ∈ f, l.length ≤ wide f := fun l h => le_wide h
  obtain ⟨n, hn⟩ : ∃ n, wide f = n := ⟨_, rfl⟩
  have hrw := rwide_c A f c w hA hl
  rw [hn] at hall hle hwd hrw
  have HN := hid (⟨hall, hle⟩ : _ ∧ _)
  have HRW := hid hrw
  clear hall hle hn hrw
  go_enter Try.func24, Try.ntmps24
  go_wp2_with (first | (go_at_call 75; refine HRW.out.mono ?_; rintro e w2 ⟨rfl, rfl⟩) | (at_make; refine wpList_make_row elt_u64 _ rfl _ _ rfl .i64 .i64 _ _ n rfl rfl rfl rfl (by omega) (by omega) ?_; intro w1 hr1 hs1 hb1))
  go_loopw [8, 9] (fun i _ wr => ∃ k : Nat, i = .int .i64 k ∧ k ≤ f.length ∧ Row1 wr w.heap.size 23 ((rowAt f x q n k 0).map (.int .u64)) ∧ Below w.heap.size w wr) (fun i _ _ => f.length - (intOf i).toNat)
  case atStart => exact ⟨0, rfl, by omega, by rw [rowAt_zero, List.map_replicate]; exact hr1, hb1⟩
  case round =>
    obtain ⟨k, rfl, hk, hr, hb⟩ := hrel
    clear hr1 hb1
    by_cases hlt : k < f.length
    · obtain ⟨l, hxl⟩ := get_of_lt hlt
      have hul := hu.at_ hxl
      have hll := HN.out.2 l (List.mem_of_getElem? hxl)
      obtain ⟨o1, off, A', c', rfl, hc0, hcs0, hln⟩ := hA.at_ hxl
      have HX := hid hxl
      clear hxl
      go_wp2
      generalize wr = wo at *
      go_loopw [9] (fun j w4 => ∃ m : Nat, j = .int .i64 m ∧ m ≤ l.length ∧ Row1 w4 w.heap.size 23 ((rowAt f x q n k m).map (.int .u64)) ∧ Below w.heap.size w w4) (fun j _ => l.length - (intOf j).toNat)
      case atStart => exact ⟨0, rfl, by omega, hr, hb⟩
      case round =>
        obtain ⟨m, rfl, hm, hr4, hb4⟩ := hrel
        have hc := (hb4.cell (lt_of_cell hc0)).trans hc0
        have hcs := hcs0.below hb4
        by_cases hlt2 : m < l.length
        · obtain ⟨z, hz⟩ := get_of_lt hlt2
          obtain ⟨o2, off2, rfl, hcz⟩ := hcs.at_map hz
          have huz := hul.at_ hz
          have hmn : m < n := by omega
          have hset := rowAt_set (x := x) (q := q) hmn HX.out hz
          have hat := rowAt_at f x q (k := k) hmn
          have hSu : U64 (mEval ((colJ f m).take k) x q) := mEval_u64 _ _ _
          obtain ⟨S, hS⟩ : ∃ S, mEval ((colJ f m).take k) x q = S := ⟨_, rfl⟩
          rw [hS] at hset hat hSu
          have hcS := hr4.cell (k := m) (u := .int .u64 S) (by rw [List.getElem?_map, hat]; rfl)
          have HST := hid hset
          clear hset hat hS hz
          have hg4 := hr4.lt
          go_wp2
          refine Rg.wp_region (l := [_, _, _, _, _, _, _, _, _, _, _, _, _, _, _, _, _, _, _, _, _]) (tail := [_, _]) (Rg.grows _ 23) [some 28, some 29, some 30, some 31, some 32, some 33, some 34, some 35, some 36, some 37, some 38, some 39, some 40, some 41, some 42, some 43, some 44, some 45, some 46, some 47, some 48, some 49, none] 51 (by kernel_rfl) (by kernel_rfl) (by kernel_rfl) rfl (Rg.grows_fair _ _) (Rg.keep_drew _) (trivial) ?_
          refine' Rg.op_is _ [] rfl rfl (by kernel_rfl) ?_ ?_
          rotate_left
          · intro wx hb
            refine Rg.from_nil fun T hT => ?_
            go_wp2
            refine hT _ _ rfl (by first | exact Rg.Keep.refl _ | exact below_of_dr hw2 | exact hw2 | exact (Below.refl _ _).alloc (Nat.le_refl _) _) ?_
            simp only [Rg.last, List.getElem?_toArray, List.getElem?_cons_succ, List.getElem?_cons_zero, Option.getD_some]
            rfl
          refine' Rg.op_is _ [] rfl rfl (by kernel_rfl) ?_ ?_
          rotate_left
          · intro wx hb
            refine Rg.from_nil fun T hT => ?_
            go_wp2
            refine hT _ _ rfl (by first | exact Rg.Keep.refl _ | exact below_of_dr hw2 | exact hw2 | exact (Below.refl _ _).alloc (Nat.le_refl _) _) ?_
            simp only [Rg.last, List.getElem?_toArray, List.getElem?_cons_succ, List.getElem?_cons_zero, Option.getD_some]
            rfl
          refine' Rg.op_is _ [] rfl rfl (by kernel_rfl) ?_ ?_
          rotate_left
          · intro wx hb
            refine Rg.from_nil fun T hT => ?_
            go_wp2
            refine hT _ _ rfl (by first | exact Rg.Keep.refl _ | exact below_of_dr hw2 | exact hw2 | exact (Below.refl _ _).alloc (Nat.le_refl _) _) ?_
            simp only [Rg.last, List.getElem?_toArray, List.getElem?_cons_succ, List.getElem?_cons_zero, Option.getD_some]
            rfl
          refine' Rg.op_is _ [] rfl rfl (by kernel_rfl) ?_ ?_
          rotate_left
          · intro wx hb
            refine Rg.from_nil fun T hT => ?_
            go_wp2
            refine hT _ _ rfl (by first | exact Rg.Keep.refl _ | exact below_of_dr hw2 | exact hw2 | exact (Below.refl _ _).alloc (Nat.le_refl _) _) ?_
            simp only [Rg.last, List.getElem?_toArray, List.getElem?_cons_succ, List.getElem?_cons_zero, Option.getD_some]
            rfl
          refine' Rg.op_is _ [2, 3] rfl rfl (by kernel_rfl) ?_ ?_
          rotate_left
          · intro wx hb
            refine Rg.from_is (some 30) rfl rfl ?_
            refine Rg.from_is (some 31) rfl rfl ?_
            refine Rg.from_nil fun T hT => ?_
            go_wp2
            refine hT _ _ rfl (by first | exact Rg.Keep.refl _ | exact below_of_dr hw2 | exact hw2 | exact (Below.refl _ _).alloc (Nat.le_refl _) _) ?_
            simp only [Rg.last, List.getElem?_toArray, List.getElem?_cons_succ, List.getElem?_cons_zero, Option.getD_some]
            rfl
          refine Rg.op_is (.int .u64 S) [4] rfl rfl (by kernel_rfl) ?_ ?_
          · intro wx hb
            refine Rg.from_is (some 32) rfl rfl ?_
            refine Rg.from_nil fun T hT => ?_
            have g1 := (hb.cell (lt_of_cell hcS)).trans hcS
            go_wp2
            exact hT _ _ rfl (by first | exact Rg.Keep.refl _ | exact below_of_dr hw2 | exact hw2 | exact (Below.refl _ _).alloc (Nat.le_refl _) _) (by first | rfl | exact congrArg _ (by decide))
          refine' Rg.op_is _ [] rfl rfl (by kernel_rfl) ?_ ?_
          rotate_left
          · intro wx hb
            refine Rg.from_nil fun T hT => ?_
            go_wp2
            refine hT _ _ rfl (by first | exact Rg.Keep.refl _ | exact below_of_dr hw2 | exact hw2 | exact (Below.refl _ _).alloc (Nat.le_refl _) _) ?_
            simp only [Rg.last, List.getElem?_toArray, List.getElem?_cons_succ, List.getElem?_cons_zero, Option.getD_some]
            rfl
          refine' Rg.op_is _ [] rfl rfl (by kernel_rfl) ?_ ?_
          rotate_left
          · intro wx hb
            refine Rg.from_nil fun T hT => ?_
            go_wp2
            refine hT _ _ rfl (by first | exact Rg.Keep.refl _ | exact below_of_dr hw2 | exact hw2 | exact (Below.refl _ _).alloc (Nat.le_refl _) _) ?_
            simp only [Rg.last, List.getElem?_toArray, List.getElem?_cons_succ, List.getElem?_cons_zero, Option.getD_some]
            rfl
          refine' Rg.op_is _ [6, 7] rfl rfl (by kernel_rfl) ?_ ?_
          rotate_left
          · intro wx hb
            refine Rg.from_is (some 34) rfl rfl ?_
            refine Rg.from_is (some 35) rfl rfl ?_
            refine Rg.from_nil fun T hT => ?_
            go_wp2
            refine hT _ _ rfl (by first | exact Rg.Keep.refl _ | exact below_of_dr hw2 | exact hw2 | exact (Below.refl _ _).alloc (Nat.le_refl _) _) ?_
            simp only [Rg.last, List.getElem?_toArray, List.getElem?_cons_succ, List.getElem?_cons_zero, Option.getD_some]
            rfl
          refine Rg.op_is (.slice (some ⟨o2, off2, none⟩) l.length c') [8] rfl rfl (by kernel_rfl) ?_ ?_
          · intro wx hb
            refine Rg.from_is (some 36) rfl rfl ?_
            refine Rg.from_nil fun T hT => ?_
            have g1 := (hb.cell (lt_of_cell hc)).trans hc
            go_wp2
            exact hT _ _ rfl (by first | exact Rg.Keep.refl _ | exact below_of_dr hw2 | exact hw2 | exact (Below.refl _ _).alloc (Nat.le_refl _) _) (by first | rfl | exact congrArg _ (by decide))
          refine' Rg.op_is _ [] rfl rfl (by kernel_rfl) ?_ ?_
          rotate_left
          · intro wx hb
            refine Rg.from_nil fun T hT => ?_
            go_wp2
            refine hT _ _ rfl (by first | exact Rg.Keep.refl _ | exact below_of_dr hw2 | exact hw2 | exact (Below.refl _ _).alloc (Nat.le_refl _) _) ?_
            simp only [Rg.last, List.getElem?_toArray, List.getElem?_cons_succ, List.getElem?_cons_zero, Option.getD_some]
            rfl
          refine' Rg.op_is _ [9, 10] rfl rfl (by kernel_rfl) ?_ ?_
          rotate_left
          · intro wx hb
            refine Rg.from_is (some 37) rfl rfl ?_
            refine Rg.from_is (some 38) rfl rfl ?_
            refine Rg.from_nil fun T hT => ?_
            go_wp2
            refine hT _ _ rfl (by first | exact Rg.Keep.refl _ | exact below_of_dr hw2 | exact hw2 | exact (Below.refl _ _).alloc (Nat.le_refl _) _) ?_
            simp only [Rg.last, List.getElem?_toArray, List.getElem?_cons_succ, List.getElem?_cons_zero, Option.getD_some]
            rfl
          refine Rg.op_is (.int .u64 z) [11] rfl rfl (by kernel_rfl) ?_ ?_
          · intro wx hb
            refine Rg.from_is (some 39) rfl rfl ?_
            refine Rg.from_nil fun T hT => ?_
            have g1 := (hb.cell (lt_of_cell hcz)).trans hcz
            go_wp2
            exact hT _ _ rfl (by first | exact Rg.Keep.refl _ | exact below_of_dr hw2 | exact hw2 | exact (Below.refl _ _).alloc (Nat.le_refl _) _) (by first | rfl | exact congrArg _ (by decide))
          refine' Rg.op_is _ [] rfl rfl (by kernel_rfl) ?_ ?_
          rotate_left
          · intro wx hb
            refine Rg.from_nil fun T hT => ?_
            go_wp2
            refine hT _ _ rfl (by first | exact Rg.Keep.refl _ | exact below_of_dr hw2 | exact hw2 | exact (Below.refl _ _).alloc (Nat.le_refl _) _) ?_
            simp only [Rg.last, List.getElem?_toArray, List.getElem?_cons_succ, List.getElem?_cons_zero, Option.getD_some]
            rfl
          refine' Rg.op_is _ [] rfl rfl (by kernel_rfl) ?_ ?_
          rotate_left
          · intro wx hb
            refine Rg.from_nil fun T hT => ?_
            go_wp2
            refine hT _ _ rfl (by first | exact Rg.Keep.refl _ | exact below_of_dr hw2 | exact hw2 | exact (Below.refl _ _).alloc (Nat.le_refl _) _) ?_
            simp only [Rg.last, List.getElem?_toArray, List.getElem?_cons_succ, List.getElem?_cons_zero, Option.getD_some]
            rfl
          refine' Rg.op_is _ [] rfl rfl (by kernel_rfl) ?_ ?_
          rotate_left
          · intro wx hb
            refine Rg.from_nil fun T hT => ?_
            go_wp2
            refine hT _ _ rfl (by first | exact Rg.Keep.refl _ | exact below_of_dr hw2 | exact hw2 | exact (Below.refl _ _).alloc (Nat.le_refl _) _) ?_
            simp only [Rg.last, List.getElem?_toArray, List.getElem?_cons_succ, List.getElem?_cons_zero, Option.getD_some]
            rfl
          refine Rg.op_is (.int .u64 (mPow x k q)) [13, 14, 15] rfl rfl (by kernel_rfl) ?_ ?_
          · intro wx hb
            refine Rg.from_is (some 41) rfl rfl ?_
            refine Rg.from_is (some 42) rfl rfl ?_
            refine Rg.from_is (some 43) rfl rfl ?_
            refine Rg.from_nil fun T hT => ?_
            go_wp2_with (go_at_call 79; refine (power_c x q k (by omega) _ hx hq).mono ?_; rintro e w5 ⟨rfl, hw5⟩)
            exact hT _ _ rfl (below_of_dr hw5) rfl
          refine' Rg.op_is _ [] rfl rfl (by kernel_rfl) ?_ ?_
          rotate_left
          · intro wx hb
            refine Rg.from_nil fun T hT => ?_
            go_wp2
            refine hT _ _ rfl (by first | exact Rg.Keep.refl _ | exact below_of_dr hw2 | exact hw2 | exact (Below.refl _ _).alloc (Nat.le_refl _) _) ?_
            simp only [Rg.last, List.getElem?_toArray, List.getElem?_cons_succ, List.getElem?_cons_zero, Option.getD_some]
            rfl
          refine Rg.op_is (.int .u64 (mMul z (mPow x k q) q)) [12, 16, 17] rfl rfl (by kernel_rfl) ?_ ?_
          · intro wx hb
            refine Rg.from_is (some 40) rfl rfl ?_
            refine Rg.from_is (some 44) rfl rfl ?_
            refine Rg.from_is (some 45) rfl rfl ?_
            refine Rg.from_nil fun T hT => ?_
            go_wp2_with (go_at_call 78; refine (rmul_c _ _ _ huz (mPow_u64 _ _ _) hq _).mono ?_; rintro e w5 ⟨rfl, hw5⟩)
            exact hT _ _ rfl (below_of_dr hw5) rfl
          refine' Rg.op_is _ [] rfl rfl (by kernel_rfl) ?_ ?_
          rotate_left
          · intro wx hb
            refine Rg.from_nil fun T hT => ?_
            go_wp2
            refine hT _ _ rfl (by first | exact Rg.Keep.refl _ | exact below_of_dr hw2 | exact hw2 | exact (Below.refl _ _).alloc (Nat.le_refl _) _) ?_
            simp only [Rg.last, List.getElem?_toArray, List.getElem?_cons_succ, List.getElem?_cons_zero, Option.getD_some]
            rfl
          refine Rg.op_is (.int .u64 (mAdd S (mMul z (mPow x k q) q) q)) [5, 18, 19] rfl rfl (by kernel_rfl) ?_ ?_
          · intro wx hb
            refine Rg.from_is (some 33) rfl rfl ?_
            refine Rg.from_is (some 46) rfl rfl ?_
            refine Rg.from_is (some 47) rfl rfl ?_
            refine Rg.from_nil fun T hT => ?_
            go_wp2_with (go_at_call 80; refine (radd_c _ _ _ hSu (mMul_u64 _ _ _) hq _).mono ?_; rintro e w5 ⟨rfl, hw5⟩)
            exact hT _ _ rfl (below_of_dr hw5) rfl
          refine Rg.walk_nil [0, 1, 2, 3, 4, 5, 6, 7, 8, 9, 10, 11, 12, 13, 14, 15, 16, 17, 18, 19, 20] (by kernel_rfl) ?_
          intro wx hb
          refine Rg.from_is (some 28) rfl rfl ?_
          refine Rg.from_is (some 29) rfl rfl ?_
          refine Rg.from_is (some 30) rfl rfl ?_
          refine Rg.from_is (some 31) rfl rfl ?_
          refine Rg.from_is (some 32) rfl rfl ?_
          refine Rg.from_is (some 33) rfl rfl ?_
          refine Rg.from_is (some 34) rfl rfl ?_
          refine Rg.from_is (some 35) rfl rfl ?_
          refine Rg.from_is (some 36) rfl rfl ?_
          refine Rg.from_is (some 37) rfl rfl ?_
          refine Rg.from_is (some 38) rfl rfl ?_
          refine Rg.from_is (some 39) rfl rfl ?_
          refine Rg.from_is (some 40) rfl rfl ?_
          refine Rg.from_is (some 41) rfl rfl ?_
          refine Rg.from_is (some 42) rfl rfl ?_
          refine Rg.from_is (some 43) rfl rfl ?_
          refine Rg.from_is (some 44) rfl rfl ?_
          refine Rg.from_is (some 45) rfl rfl ?_
          refine Rg.from_is (some 46) rfl rfl ?_
          refine Rg.from_is (some 47) rfl rfl ?_
          refine Rg.from_is (some 48) rfl rfl ?_
          refine Rg.from_nil ?_
          simp only [List.map, Act.put, List.setIfInBounds_toArray, List.set_cons_zero, List.set_cons_succ]
          have hr5 := hr4.below hb
          have hcS5 := (hb.cell (lt_of_cell hcS)).trans hcS
          have hf5 := hr5.frozen m
          have hr6 := hr5.set m (.int .u64 (mAdd S (mMul z (mPow x k q) q) q))
          rw [← List.map_set, HST.out] at hr6
          have hb6 := (below_next hb4 hb4.size hb).setCell (p := ⟨w.heap.size, m, none⟩) (Nat.le_refl _) (.int .u64 (mAdd S (mMul z (mPow x k q) q) q))
          clear hb hr5 hr4 hb4 hc hcs hcz hcS
          go_wp2
          go_roundw
          case rel => exact ⟨m + 1, by go_num, by omega, hr6, hb6⟩
          case measure => simp [intOf]; omega
        · obtain rfl : m = l.length := by omega
          rw [rowAt_next HX.out] at hr4
          go_wp2
          go_roundw
          case rel => exact ⟨k + 1, by go_num, by omega, hr4, hb4⟩
          case measure => simp [intOf]; omega
    · obtain rfl : k = f.length := by omega
      go_wp2
      go_ret
      refine ⟨_, rfl, ?_, hb⟩
      have hlen : ((mRow f x q).map (Value.int .u64)).length = n := by rw [← HN.out.1, List.length_map, rowAt_len]
      rw [HN.out.1] at hr
      have := hr.own (Nat.le_refl _) (by rw [hlen]; omega)
      rw [hlen] at this
      exact this

end Go.Proofs.Ytnmadmcegdpecaa
