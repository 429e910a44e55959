/-
  Products of polynomials: the program's and the reference's.
-/
import Derived.Test.YtnmadmcegdpecaaPolB
import Derived.Test.YtnmadmcegdpecaaRegionB
namespace Go.Proofs.Ytnmadmcegdpecaa
open Go.RowKit

attribute [local go_sem] Oper.semAt_some

/-- number n of a product, of the first i numbers of the first. -/
def tAt (a b : List Int) (q : Int) (n : Nat) : Nat → Int
  | 0 => 0
  | i + 1 => if i < a.length ∧ i ≤ n ∧ n - i < b.length then mAdd (tAt a b q n i) (mMul (a.getD i 0) (b.getD (n - i) 0) q) q else tAt a b q n i
theorem tAt_u64 (a b : List Int) (q : Int) (n : Nat) : ∀ i, U64 (tAt a b q n i)
  | 0 => ⟨by unfold tAt; omega, by unfold tAt; omega⟩
  | i + 1 => by
    unfold tAt; split
    · exact mAdd_u64 _ _ _
    · exact tAt_u64 a b q n i
theorem tAt_step {a b : List Int} {q : Int} {n i : Nat} {x y : Int} (h1 : i ≤ n) (h2 : a[i]? = some x) (h3 : b[n - i]? = some y) : tAt a b q n (i + 1) = mAdd (tAt a b q n i) (mMul x y q) q := by
  have e1 := (List.getElem?_eq_some_iff.1 h2).1
  have e2 := (List.getElem?_eq_some_iff.1 h3).1
  rw [tAt, if_pos ⟨e1, h1, e2⟩, List.getD_eq_getElem?_getD, List.getD_eq_getElem?_getD, h2, h3]; rfl
theorem tAt_same {a b : List Int} {q : Int} {n i : Nat} (h : ¬ (i < a.length ∧ i ≤ n ∧ n - i < b.length)) : tAt a b q n (i + 1) = tAt a b q n i := by rw [tAt, if_neg h]
theorem tAt_end {a b : List Int} {q : Int} {n i : Nat} (h : a.length ≤ i ∨ n < i) : ∀ d, tAt a b q n (i + d) = tAt a b q n i
  | 0 => rfl
  | d + 1 => by
    rw [← Nat.add_assoc, tAt_same (by omega), tAt_end h d]
theorem tAt_both (a b : List Int) (q : Int) (n : Nat) : tAt a b q n a.length = tAt a b q n (n + 1) := by
  rcases Nat.le_total a.length (n + 1) with h | h
  · obtain ⟨d, hd⟩ := Nat.exists_eq_add_of_le h
    rw [hd, tAt_end (.inl (Nat.le_refl _))]
  · obtain ⟨d, hd⟩ := Nat.exists_eq_add_of_le h
    rw [hd, tAt_end (.inr (by omega))]

def timesL (a b : List Int) (q : Int) : List Int := (List.range (a.length + b.length - 1)).map fun n => tAt a b q n (n + 1)
def pTimes (a b : List Int) (q : Int) : List Int := if okm q = true ∧ 0 < a.length ∧ 0 < b.length then timesL a b q else []
/-- the product while it is made. -/
def tRow (a b : List Int) (q : Int) (i k : Nat) : List Int := (List.range (a.length + b.length - 1)).map fun n => if i ≤ n ∧ n - i < k then tAt a b q n (i + 1) else tAt a b q n i
theorem tRow_zero (a b : List Int) (q : Int) : tRow a b q 0 0 = List.replicate (a.length + b.length - 1) 0 := by
  unfold tRow
  rw [List.eq_replicate_iff]
  refine ⟨by simp, fun x hx => ?_⟩
  obtain ⟨n, _, rfl⟩ := List.mem_map.1 hx
  rw [if_neg (by omega)]; rfl
theorem tRow_next {a b : List Int} {q : Int} {i : Nat} (_ : i < a.length) : tRow a b q i b.length = tRow a b q (i + 1) 0 := by
  unfold tRow
  apply List.map_congr_left
  intro n _
  rw [if_neg (by omega : ¬ (i + 1 ≤ n ∧ n - (i + 1) < 0))]
  split
  · rfl
  · rename_i hn
    exact (tAt_same (by omega)).symm
theorem tRow_all (a b : List Int) (q : Int) : tRow a b q a.length 0 = timesL a b q := by
  unfold tRow timesL
  apply List.map_congr_left
  intro n _
  rw [if_neg (by omega), tAt_both]
theorem tRow_at {a b : List Int} {q : Int} {i k : Nat} (h : i + k < a.length + b.length - 1) : (tRow a b q i k)[i + k]? = some (tAt a b q (i + k) i) := by
  unfold tRow
  rw [List.getElem?_map, List.getElem?_range h, Option.map_some, if_neg (by omega)]
theorem tRow_set {a b : List Int} {q : Int} {i k : Nat} {x y : Int} (h : i + k < a.length + b.length - 1) (h2 : a[i]? = some x) (h3 : b[k]? = some y) : (tRow a b q i k).set (i + k) (mAdd (tAt a b q (i + k) i) (mMul x y q) q) = tRow a b q i (k + 1) := by
  apply List.ext_getElem?
  intro j
  rw [List.getElem?_set]
  split
  · rename_i hj
    subst hj
    rw [if_pos (by simp [tRow]; omega)]
    unfold tRow
    rw [List.getElem?_map, List.getElem?_range h, Option.map_some, if_pos (by omega), tAt_step (by omega) h2 (by rw [Nat.add_sub_cancel_left]; exact h3)]
  · rename_i hj
    unfold tRow
    rw [List.getElem?_map, List.getElem?_map]
    rcases Nat.lt_or_ge j (a.length + b.length - 1) with h1 | h1
    · rw [List.getElem?_range h1, Option.map_some, Option.map_some]
      congr 1
      by_cases hc : i ≤ j ∧ j - i < k
      · rw [if_pos hc, if_pos (by omega)]
      · rw [if_neg hc, if_neg (by omega)]
    · rw [List.getElem?_eq_none (by simpa using h1)]; rfl

set_option maxRecDepth 100000 in
set_option maxHeartbeats 2000000 in
theorem ptimes_c (A B : Option Addr) (a b : List Int) (c d : Nat) (q : Int) (w : World) (hA : Cells w A (a.map (.int .u64))) (hB : Cells w B (b.map (.int .u64))) (hl : a.length ≤ 1000000) (hl' : b.length ≤ 1000000) (hu : U64s a) (hu' : U64s b) (hq : U64 q) :
    Calls Try.prog 63 #[.slice A a.length c, .slice B b.length d, .int .u64 q] w (NewNums (pTimes a b q) w) := by
  cases h : okm q with
  | false =>
    have hps : pTimes a b q = [] := by unfold pTimes; rw [if_neg (by simp [h])]
    go_enter Try.func63, Try.ntmps63
    go_wp2_with (go_at_call 101; refine (pmay_c _ hq _).mono ?_; rintro e w' ⟨rfl, rfl⟩; rw [h])
    go_ret
    rw [hps]
    exact ⟨_, rfl, Own.nil _ _ _, Below.refl _ _⟩
  | true =>
    by_cases ha : 0 < a.length
    · by_cases hb : 0 < b.length
      · have hps : Hid (pTimes a b q = timesL a b q) := hid (by unfold pTimes; rw [if_pos ⟨h, ha, hb⟩])
        have ha2 : ((a.length : Int) == 0) = false := beq_eq_false_iff_ne.2 (by omega)
        have hb2 : ((b.length : Int) == 0) = false := beq_eq_false_iff_ne.2 (by omega)
        have hla : (tRow a b q a.length 0).length = a.length + b.length - 1 := by simp [tRow]
        have HLA := hid (⟨hla, tRow_all a b q⟩ : _ ∧ _)
        clear hla
        go_enter Try.func63, Try.ntmps63
        go_wp2_with (first | (go_at_call 101; refine (pmay_c _ hq _).mono ?_; rintro e w' ⟨rfl, rfl⟩; rw [h]) | (at_make; refine wpList_make_row elt_u64 _ rfl _ _ rfl .i64 .i64 _ _ (a.length + b.length - 1) rfl rfl (by go_num) (by go_num) (by omega) (by omega) ?_; intro w1 hr1 hs1 hb1))
        go_loopw [8, 9, 10, 11, 34] (fun _ _ _ _ i wr => ∃ j : Nat, i = .int .i64 j ∧ j ≤ a.length ∧ Row1 wr w.heap.size 23 ((tRow a b q j 0).map (.int .u64)) ∧ Below w.heap.size w wr) (fun _ _ _ _ i _ => a.length - (intOf i).toNat)
        case atStart => exact ⟨0, rfl, by omega, by rw [tRow_zero, List.map_replicate]; exact hr1, hb1⟩
        case round =>
          obtain ⟨i, rfl, hi, hr, hbw⟩ := hrel
          by_cases hlt : i < a.length
          · obtain ⟨x, hx⟩ := get_of_lt hlt
            obtain ⟨o1, off1, rfl, hcx⟩ := (hA.keep fun p hp => hbw.cell hp).at_map hx
            have hux := hu.at_ hx
            have HX := hid hx
            clear hx
            go_wp2
            generalize wr = wo at *
            go_loopw [10, 11, 41] (fun _ _ k wr => ∃ j : Nat, k = .int .i64 j ∧ j ≤ b.length ∧ Row1 wr w.heap.size 23 ((tRow a b q i j).map (.int .u64)) ∧ Below w.heap.size w wr) (fun _ _ k _ => b.length - (intOf k).toNat)
            case atStart => exact ⟨0, rfl, by omega, hr, hbw⟩
            case round =>
              obtain ⟨k, rfl, hk, hr2, hbw2⟩ := hrel
              rename_i wr
              clear hr hbw
              by_cases hltk : k < b.length
              · obtain ⟨y, hy⟩ := get_of_lt hltk
                obtain ⟨o2, off2, rfl, hcy⟩ := (hB.keep fun p hp => hbw2.cell hp).at_map hy
                have huy := hu'.at_ hy
                have hin : i + k < a.length + b.length - 1 := by omega
                have hT := tRow_at (q := q) hin
                have hcT := hr2.cell (k := i + k) (u := .int .u64 (tAt a b q (i + k) i)) (by rw [List.getElem?_map, hT]; rfl)
                have huT := tAt_u64 a b q (i + k) i
                have hset := tRow_set (q := q) hin HX.out hy
                have HSET := hid hset
                have hlen : (tRow a b q i k).length = a.length + b.length - 1 := by simp [tRow]
                clear hy hT hset hlen
                go_wp2
                refine Rgb.wp_region (l := [_, _, _, _, _, _, _, _, _, _, _, _, _, _, _, _]) (tail := [_, _]) (Rgb.grows _ 18) [some 46, some 47, some 48, some 49, some 50, some 51, some 52, some 53, some 54, some 55, some 56, some 57, some 58, some 59, some 60, some 61, some 62, none] 66 (by kernel_rfl) (by kernel_rfl) (by kernel_rfl) rfl (Rgb.grows_fair _ _) (Rgb.keep_drew _) (trivial) ?_
                refine' Rgb.op_is _ [] rfl rfl (by kernel_rfl) ?_ ?_
                rotate_left
                · intro wx hb
                  refine Rgb.from_nil fun T hT => ?_
                  go_wp2
                  refine hT _ _ rfl (by first | exact Rgb.Keep.refl _ | exact below_of_dr hw2 | exact hw2 | exact (Below.refl _ _).alloc (Nat.le_refl _) _) ?_
                  simp only [Rgb.last, List.getElem?_toArray, List.getElem?_cons_succ, List.getElem?_cons_zero, Option.getD_some]
                  rfl
                refine' Rgb.op_is _ [] rfl rfl (by kernel_rfl) ?_ ?_
                rotate_left
                · intro wx hb
                  refine Rgb.from_nil fun T hT => ?_
                  go_wp2
                  refine hT _ _ rfl (by first | exact Rgb.Keep.refl _ | exact below_of_dr hw2 | exact hw2 | exact (Below.refl _ _).alloc (Nat.le_refl _) _) ?_
                  simp only [Rgb.last, List.getElem?_toArray, List.getElem?_cons_succ, List.getElem?_cons_zero, Option.getD_some]
                  rfl
                refine' Rgb.op_is _ [] rfl rfl (by kernel_rfl) ?_ ?_
                rotate_left
                · intro wx hb
                  refine Rgb.from_nil fun T hT => ?_
                  go_wp2
                  refine hT _ _ rfl (by first | exact Rgb.Keep.refl _ | exact below_of_dr hw2 | exact hw2 | exact (Below.refl _ _).alloc (Nat.le_refl _) _) ?_
                  simp only [Rgb.last, List.getElem?_toArray, List.getElem?_cons_succ, List.getElem?_cons_zero, Option.getD_some]
                  rfl
                refine Rgb.op_is (.int .i64 ((i + k : Nat) : Int)) [1, 2] rfl rfl (by kernel_rfl) ?_ ?_
                · intro wx hb
                  refine Rgb.from_is (some 47) rfl rfl ?_
                  refine Rgb.from_is (some 48) rfl rfl ?_
                  refine Rgb.from_nil fun T hT => ?_
                  go_wp2
                  exact hT _ _ rfl (by first | exact Rgb.Keep.refl _ | exact below_of_dr hw2 | exact hw2 | exact (Below.refl _ _).alloc (Nat.le_refl _) _) (by first | rfl | exact congrArg _ (by decide))
                refine' Rgb.op_is _ [] rfl rfl (by kernel_rfl) ?_ ?_
                rotate_left
                · intro wx hb
                  refine Rgb.from_nil fun T hT => ?_
                  go_wp2
                  refine hT _ _ rfl (by first | exact Rgb.Keep.refl _ | exact below_of_dr hw2 | exact hw2 | exact (Below.refl _ _).alloc (Nat.le_refl _) _) ?_
                  simp only [Rgb.last, List.getElem?_toArray, List.getElem?_cons_succ, List.getElem?_cons_zero, Option.getD_some]
                  rfl
                refine' Rgb.op_is _ [] rfl rfl (by kernel_rfl) ?_ ?_
                rotate_left
                · intro wx hb
                  refine Rgb.from_nil fun T hT => ?_
                  go_wp2
                  refine hT _ _ rfl (by first | exact Rgb.Keep.refl _ | exact below_of_dr hw2 | exact hw2 | exact (Below.refl _ _).alloc (Nat.le_refl _) _) ?_
                  simp only [Rgb.last, List.getElem?_toArray, List.getElem?_cons_succ, List.getElem?_cons_zero, Option.getD_some]
                  rfl
                refine' Rgb.op_is _ [] rfl rfl (by kernel_rfl) ?_ ?_
                rotate_left
                · intro wx hb
                  refine Rgb.from_nil fun T hT => ?_
                  go_wp2
                  refine hT _ _ rfl (by first | exact Rgb.Keep.refl _ | exact below_of_dr hw2 | exact hw2 | exact (Below.refl _ _).alloc (Nat.le_refl _) _) ?_
                  simp only [Rgb.last, List.getElem?_toArray, List.getElem?_cons_succ, List.getElem?_cons_zero, Option.getD_some]
                  rfl
                refine Rgb.op_is (.int .i64 ((i + k : Nat) : Int)) [5, 6] rfl rfl (by kernel_rfl) ?_ ?_
                · intro wx hb
                  refine Rgb.from_is (some 51) rfl rfl ?_
                  refine Rgb.from_is (some 52) rfl rfl ?_
                  refine Rgb.from_nil fun T hT => ?_
                  go_wp2
                  exact hT _ _ rfl (by first | exact Rgb.Keep.refl _ | exact below_of_dr hw2 | exact hw2 | exact (Below.refl _ _).alloc (Nat.le_refl _) _) (by first | rfl | exact congrArg _ (by decide))
                refine' Rgb.op_is _ [4, 7] rfl rfl (by kernel_rfl) ?_ ?_
                rotate_left
                · intro wx hb
                  refine Rgb.from_is (some 50) rfl rfl ?_
                  refine Rgb.from_is (some 53) rfl rfl ?_
                  refine Rgb.from_nil fun T hT => ?_
                  go_wp2
                  refine hT _ _ rfl (by first | exact Rgb.Keep.refl _ | exact below_of_dr hw2 | exact hw2 | exact (Below.refl _ _).alloc (Nat.le_refl _) _) ?_
                  simp only [Rgb.last, List.getElem?_toArray, List.getElem?_cons_succ, List.getElem?_cons_zero, Option.getD_some]
                  rfl
                refine Rgb.op_is (.int .u64 (tAt a b q (i + k) i)) [8] rfl rfl (by kernel_rfl) ?_ ?_
                · intro wx hb
                  refine Rgb.from_is (some 54) rfl rfl ?_
                  refine Rgb.from_nil fun T hT => ?_
                  have hc9 := (hb.cell (lt_of_cell hcT)).trans hcT
                  go_wp2
                  exact hT _ _ rfl (by first | exact Rgb.Keep.refl _ | exact below_of_dr hw2 | exact hw2 | exact (Below.refl _ _).alloc (Nat.le_refl _) _) (by first | rfl | exact congrArg _ (by decide))
                refine' Rgb.op_is _ [] rfl rfl (by kernel_rfl) ?_ ?_
                rotate_left
                · intro wx hb
                  refine Rgb.from_nil fun T hT => ?_
                  go_wp2
                  refine hT _ _ rfl (by first | exact Rgb.Keep.refl _ | exact below_of_dr hw2 | exact hw2 | exact (Below.refl _ _).alloc (Nat.le_refl _) _) ?_
                  simp only [Rgb.last, List.getElem?_toArray, List.getElem?_cons_succ, List.getElem?_cons_zero, Option.getD_some]
                  rfl
                refine' Rgb.op_is _ [] rfl rfl (by kernel_rfl) ?_ ?_
                rotate_left
                · intro wx hb
                  refine Rgb.from_nil fun T hT => ?_
                  go_wp2
                  refine hT _ _ rfl (by first | exact Rgb.Keep.refl _ | exact below_of_dr hw2 | exact hw2 | exact (Below.refl _ _).alloc (Nat.le_refl _) _) ?_
                  simp only [Rgb.last, List.getElem?_toArray, List.getElem?_cons_succ, List.getElem?_cons_zero, Option.getD_some]
                  rfl
                refine' Rgb.op_is _ [] rfl rfl (by kernel_rfl) ?_ ?_
                rotate_left
                · intro wx hb
                  refine Rgb.from_nil fun T hT => ?_
                  go_wp2
                  refine hT _ _ rfl (by first | exact Rgb.Keep.refl _ | exact below_of_dr hw2 | exact hw2 | exact (Below.refl _ _).alloc (Nat.le_refl _) _) ?_
                  simp only [Rgb.last, List.getElem?_toArray, List.getElem?_cons_succ, List.getElem?_cons_zero, Option.getD_some]
                  rfl
                refine Rgb.op_is (.int .u64 (mMul x y q)) [10, 11, 12] rfl rfl (by kernel_rfl) ?_ ?_
                · intro wx hb
                  refine Rgb.from_is (some 56) rfl rfl ?_
                  refine Rgb.from_is (some 57) rfl rfl ?_
                  refine Rgb.from_is (some 58) rfl rfl ?_
                  refine Rgb.from_nil fun T hT => ?_
                  go_wp2_with (go_at_call 33; refine (mul_c _ _ _ hux huy hq _).mono ?_; rintro e w5 ⟨rfl, hw5⟩)
                  exact hT _ _ rfl (below_of_dr hw5) rfl
                refine' Rgb.op_is _ [] rfl rfl (by kernel_rfl) ?_ ?_
                rotate_left
                · intro wx hb
                  refine Rgb.from_nil fun T hT => ?_
                  go_wp2
                  refine hT _ _ rfl (by first | exact Rgb.Keep.refl _ | exact below_of_dr hw2 | exact hw2 | exact (Below.refl _ _).alloc (Nat.le_refl _) _) ?_
                  simp only [Rgb.last, List.getElem?_toArray, List.getElem?_cons_succ, List.getElem?_cons_zero, Option.getD_some]
                  rfl
                refine Rgb.op_is (.int .u64 (mAdd (tAt a b q (i + k) i) (mMul x y q) q)) [9, 13, 14] rfl rfl (by kernel_rfl) ?_ ?_
                · intro wx hb
                  refine Rgb.from_is (some 55) rfl rfl ?_
                  refine Rgb.from_is (some 59) rfl rfl ?_
                  refine Rgb.from_is (some 60) rfl rfl ?_
                  refine Rgb.from_nil fun T hT => ?_
                  go_wp2_with (go_at_call 32; refine (add_c _ _ _ huT (mMul_u64 _ _ _) hq _).mono ?_; rintro e w5 ⟨rfl, hw5⟩)
                  exact hT _ _ rfl (below_of_dr hw5) rfl
                refine Rgb.walk_nil [0, 1, 2, 3, 4, 5, 6, 7, 8, 9, 10, 11, 12, 13, 14, 15] (by kernel_rfl) ?_
                intro wx hb
                refine Rgb.from_is (some 46) rfl rfl ?_
                refine Rgb.from_is (some 47) rfl rfl ?_
                refine Rgb.from_is (some 48) rfl rfl ?_
                refine Rgb.from_is (some 49) rfl rfl ?_
                refine Rgb.from_is (some 50) rfl rfl ?_
                refine Rgb.from_is (some 51) rfl rfl ?_
                refine Rgb.from_is (some 52) rfl rfl ?_
                refine Rgb.from_is (some 53) rfl rfl ?_
                refine Rgb.from_is (some 54) rfl rfl ?_
                refine Rgb.from_is (some 55) rfl rfl ?_
                refine Rgb.from_is (some 56) rfl rfl ?_
                refine Rgb.from_is (some 57) rfl rfl ?_
                refine Rgb.from_is (some 58) rfl rfl ?_
                refine Rgb.from_is (some 59) rfl rfl ?_
                refine Rgb.from_is (some 60) rfl rfl ?_
                refine Rgb.from_is (some 61) rfl rfl ?_
                refine Rgb.from_nil ?_
                simp only [List.map, Act.put, List.setIfInBounds_toArray, List.set_cons_zero, List.set_cons_succ]
                have hr5 := hr2.below hb
                have hc5 := (hb.cell (lt_of_cell hcT)).trans hcT
                have hf5 := hr5.frozen (i + k)
                have hr6 := hr5.set (i + k) (.int .u64 (mAdd (tAt a b q (i + k) i) (mMul x y q) q))
                rw [← List.map_set, HSET.out] at hr6
                have hb6 := (below_next hbw2 hbw2.size hb).setCell (p := ⟨w.heap.size, i + k, none⟩) (Nat.le_refl _) (.int .u64 (mAdd (tAt a b q (i + k) i) (mMul x y q) q))
                clear hb hr5 hr2 hbw2 hcT hcy
                go_wp2
                go_roundw
                case rel => exact ⟨k + 1, by go_num, by omega, hr6, hb6⟩
                case measure => simp [intOf]; omega
              · obtain rfl : k = b.length := by omega
                rw [tRow_next hlt] at hr2
                go_wp2
                go_roundw
                case rel => exact ⟨i + 1, by go_num, by omega, hr2, hbw2⟩
                case measure => simp [intOf]; omega
          · obtain rfl : i = a.length := by omega
            go_wp2
            go_ret
            have h9 := hr.own (Nat.le_refl _) (by rw [List.length_map, HLA.out.1]; omega)
            rw [List.length_map, HLA.out.1, HLA.out.2] at h9
            rw [hps.out]
            exact ⟨_, rfl, h9, hbw⟩
      · have hb0 : ((b.length : Int) == 0) = true := beq_iff_eq.2 (by omega)
        have hps : pTimes a b q = [] := by unfold pTimes; rw [if_neg (by omega)]
        have ha2 : ((a.length : Int) == 0) = false := beq_eq_false_iff_ne.2 (by omega)
        rw [hps]
        go_enter Try.func63, Try.ntmps63
        go_wp2_with (go_at_call 101; refine (pmay_c _ hq _).mono ?_; rintro e w' ⟨rfl, rfl⟩; rw [h])
        go_ret
        exact ⟨_, rfl, Own.nil _ _ _, Below.refl _ _⟩
    · have ha0 : ((a.length : Int) == 0) = true := beq_iff_eq.2 (by omega)
      have hps : pTimes a b q = [] := by unfold pTimes; rw [if_neg (by omega)]
      rw [hps]
      go_enter Try.func63, Try.ntmps63
      go_wp2_with (go_at_call 101; refine (pmay_c _ hq _).mono ?_; rintro e w' ⟨rfl, rfl⟩; rw [h])
      go_ret
      exact ⟨_, rfl, Own.nil _ _ _, Below.refl _ _⟩

end Go.Proofs.Ytnmadmcegdpecaa
