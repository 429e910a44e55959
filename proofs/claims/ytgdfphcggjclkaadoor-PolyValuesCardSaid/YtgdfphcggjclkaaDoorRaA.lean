/-
  A row of its own; a row less so many times another: the program's.
-/
import Derived.Test.YtgdfphcggjclkaaDoorPrA
import Derived.Test.YtgdfphcggjclkaaDoorRaP
import Derived.Test.YtgdfphcggjclkaaDoorTab
import Derived.Test.YtgdfphcggjclkaaDoorWaysD
import Derived.Laws.CopyOwn
namespace Go.Proofs.YtgdfphcggjclkaaDoor
open Go Go.RowKit Go.Maps Go.Shelf Go.Proofs

abbrev u64v (l : List Int) : List Value := l.map (Value.int .u64)
/-- numbers that are uint64s. -/
def U64s (l : List Int) : Prop := ∀ z ∈ l, U64 z
theorem U64s.nth {l : List Int} (h : U64s l) (j : Nat) : U64 (nth l j) := by
  by_cases hj : j < l.length
  · rw [nth_lt hj]; exact h _ (List.getElem_mem hj)
  · rw [nth_ge (by omega)]; exact ⟨by omega, by omega⟩
theorem u64v_at {l : List Int} {j : Nat} (h : j < l.length) : (u64v l)[j]? = some (.int .u64 (nth l j)) := by
  rw [List.getElem?_map, List.getElem?_eq_getElem h, nth_lt h]; rfl
theorem tabL_set {n : Nat} {f g : Nat → Int} {k : Nat} (hf : ∀ j, j ≠ k → f j = g j) : (u64v (tabL n f)).set k (.int .u64 (g k)) = u64v (tabL n g) := by
  apply List.ext_getElem?
  intro j
  rw [List.getElem?_set]
  by_cases hj : k = j
  · subst hj
    rw [if_pos rfl]
    by_cases hk : k < n
    · rw [if_pos (by simp [tabL, hk]), u64v_at (by rw [tabL_len]; exact hk), tabL_at hk]
    · rw [if_neg (by simp [tabL]; omega), List.getElem?_eq_none (by simp [tabL]; omega)]
  · rw [if_neg hj]
    by_cases hk : j < n
    · rw [u64v_at (by rw [tabL_len]; exact hk), u64v_at (by rw [tabL_len]; exact hk), tabL_at hk, tabL_at hk, hf j (Ne.symm hj)]
    · rw [List.getElem?_eq_none (by simp [tabL]; omega), List.getElem?_eq_none (by simp [tabL]; omega)]
theorem tabL_nth (l : List Int) : tabL l.length (nth l) = l := by
  apply nth_ext
  · exact tabL_len ..
  · intro j hj
    rw [tabL_len] at hj
    exact tabL_at hj
theorem tabL_congr {n : Nat} {f g : Nat → Int} (h : ∀ j, j < n → f j = g j) : tabL n f = tabL n g := by
  unfold tabL
  exact List.map_congr_left fun j hj => h j (List.mem_range.1 hj)
theorem sub_mul {q : Int} (h : okm q = true) (a x t : Int) : mSub a (mMul x t q) q = (a - x * t) % q := by
  rw [mSub_ok h, mMul_ok h, Int.sub_emod, Int.emod_emod, ← Int.sub_emod]
theorem grown_set (w : World) (b k : Nat) (u : Value) : w.grownBy (w.setCell ⟨b, k, none⟩ u) (some b) :=
  ⟨rfl, rfl, rfl, by simp [World.setCell], fun i _ hi => Below.heap_setCell w ⟨b, k, none⟩ u i (fun e => hi (by rw [e]))⟩
theorem grown_below' {w w' : World} {r : Option Nat} (hb : Below w.heap.size w w') : w.grownBy w' r := ⟨hb.os, hb.tape, hb.output, hb.size, fun i hi _ => hb.block i hi⟩
/-- a row, so far less. -/
def lessK (q : Int) (row other : List Int) (t : Int) (k : Nat) : List Int := tabL row.length fun j => if j < k then (nth row j - nth other j * t) % q else nth row j
theorem lessK_zero (q : Int) (row other : List Int) (t : Int) : lessK q row other t 0 = row := by
  unfold lessK
  rw [tabL_congr (g := nth row) fun j _ => if_neg (by omega), tabL_nth]
theorem lessK_len (q : Int) (row other : List Int) (t : Int) (k : Nat) : (lessK q row other t k).length = row.length := tabL_len ..
theorem lessK_all (q : Int) (row other : List Int) (t : Int) : lessK q row other t other.length = lessL q row other t := rfl
theorem lessK_at {q : Int} {row other : List Int} {t : Int} {k : Nat} (h : k < row.length) : nth (lessK q row other t k) k = nth row k := by
  unfold lessK
  rw [tabL_at h, if_neg (by omega)]
theorem lessK_set {q : Int} {row other : List Int} {t : Int} {k : Nat} : (u64v (lessK q row other t k)).set k (.int .u64 ((nth row k - nth other k * t) % q)) = u64v (lessK q row other t (k + 1)) := by
  unfold lessK
  have := tabL_set (n := row.length) (f := fun j => if j < k then (nth row j - nth other j * t) % q else nth row j) (g := fun j => if j < k + 1 then (nth row j - nth other j * t) % q else nth row j) (k := k) fun j hj => by
    by_cases h1 : j < k
    · simp only [if_pos h1, if_pos (show j < k + 1 by omega)]
    · simp only [if_neg h1, if_neg (show ¬ j < k + 1 by omega)]
  simp only [if_pos (Nat.lt_succ_self k)] at this
  exact this
abbrev spV (q : Int) (W gm : Nat) : List Value := [.int .u64 q, .int .i64 W, .map (some gm)]
set_option maxRecDepth 100000 in
set_option maxHeartbeats 2000000 in
theorem less_c (gs b c gm W : Nat) (q : Int) (row other : List Int) (t : Int) (w : World) (hg : Row1 w gs 84 (spV q W gm)) (hr : Row1 w b 23 (u64v row)) (ho : Row1 w c 23 (u64v other)) (hne : c ≠ b)
    (hq : okm q = true) (hru : U64s row) (hou : U64s other) (ht : U64 t) (hle : other.length ≤ row.length) (hl : row.length ≤ 1000000000) :
    Calls Tryd.prog 92 #[.pointer (some ⟨gs, 0, none⟩), .slice (some ⟨b, 0, none⟩) row.length row.length, .slice (some ⟨c, 0, none⟩) other.length other.length, .int .u64 t] w fun e w' => e = .returned (.tuple #[]) ∧ Row1 w' b 23 (u64v (lessL q row other t)) ∧ w.grownBy w' (some b) := by
  have hq1 := okm_pos hq
  have hq2 := okm_le hq
  have HQ := hid hq
  have hneg : gs ≠ b := by
    intro e
    subst e
    unfold Row1 at hg hr
    rw [hg] at hr
    simp at hr
  have HG := hid hg
  have HR := hid hr
  have HO := hid ho
  have HU := hid (⟨hru, hou⟩ : _ ∧ _)
  clear hg hr ho hru hou hq
  go_enter Tryd.func92, Tryd.ntmps92
  go_wp2
  go_loopw [12] (fun i wr => ∃ k : Nat, i = .int .i64 (k : Int) ∧ k ≤ other.length ∧ Hid (Row1 wr b 23 (u64v (lessK q row other t k)) ∧ w.grownBy wr (some b))) (fun i _ => other.length - (intOf i).toNat)
  case atStart => exact ⟨0, rfl, by omega, hid ⟨by rw [lessK_zero]; exact HR.out, grown_below' (Below.refl _ _)⟩⟩
  case round =>
    obtain ⟨k, rfl, hk, HI⟩ := hrel
    by_cases hlt : k < other.length
    · have HGr := hid (HG.out.keep (HI.out.2.block gs HG.out.lt (fun e => hneg (Option.some.inj e))))
      have HOr := hid (HO.out.keep (HI.out.2.block c HO.out.lt (fun e => hne (Option.some.inj e))))
      have co := HOr.out.cell (u64v_at hlt)
      have hx := HU.out.1.nth k
      have hy := HU.out.2.nth k
      obtain ⟨x1, x2⟩ := hx
      obtain ⟨y1, y2⟩ := hy
      have hkr : k < row.length := by omega
      have HX := hid (show (u64v (lessK q row other t k))[k]? = some (.int .u64 (nth row k)) by rw [u64v_at (by rw [lessK_len]; exact hkr), lessK_at hkr])
      have HS := hid (lessK_set (q := q) (row := row) (other := other) (t := t) (k := k))
      have HSM := hid (sub_mul HQ.out (nth row k) (nth other k) t)
      generalize nth row k = x at *
      generalize nth other k = y at *
      go_wp2_with (fail)
      refine Rgd.wp_region (l := [_, _, _, _, _, _, _, _, _, _, _, _, _, _, _, _, _, _, _]) (tail := [_]) (Rgd.keep wr [] [(0, 0), (0, 0), (0, 0), (0, 0), (0, 0), (0, 0), (0, 0), (0, 0), (0, 0), (0, 0), (0, 0), (0, 0), (0, 0), (0, 0), (0, 0), (0, 0), (0, 0), (0, 0), (0, 0)]) [some 17, some 18, some 19, some 20, some 21, some 22, some 23, some 24, some 25, some 26, some 27, some 28, some 29, some 30, some 31, some 32, some 33, some 34, some 35, none] 37 rfl [[], [], [], [], [2, 3], [2, 3, 4], [], [], [], [8], [8, 9], [8, 9, 10], [6, 7, 8, 9, 10, 11], [], [13], [13, 14], [13, 14, 15], [2, 3, 4, 5, 6, 7, 8, 9, 10, 11, 12, 13, 14, 15, 16], [0, 1, 2, 3, 4, 5, 6, 7, 8, 9, 10, 11, 12, 13, 14, 15, 16, 17]] (by kernel_rfl) (by kernel_rfl) (by kernel_rfl) (by kernel_rfl) (by kernel_rfl) rfl (Rgd.keep_fair) (Rgd.keep_start _) ?_
      refine' Rgd.op_is _ [] 0 0 rfl rfl rfl (by kernel_rfl) ?_ ?_
      rotate_left
      · intro p wx hp1 hp2 hb
        obtain rfl : p = 0 := by omega
        refine Rgd.from_nil fun T hT => ?_
        go_wp2
        refine hT _ _ rfl (by first | exact Rgd.Keep.refl _ | exact below_of_dr hw2 | exact hw2 | exact (Below.refl _ _).alloc (Nat.le_refl _) _) ?_
        simp only [Rgd.last, List.getElem?_toArray, List.getElem?_cons_succ, List.getElem?_cons_zero, Option.getD_some]
        rfl
      refine' Rgd.op_is _ [] 0 0 rfl rfl rfl (by kernel_rfl) ?_ ?_
      rotate_left
      · intro p wx hp1 hp2 hb
        obtain rfl : p = 0 := by omega
        refine Rgd.from_nil fun T hT => ?_
        go_wp2
        refine hT _ _ rfl (by first | exact Rgd.Keep.refl _ | exact below_of_dr hw2 | exact hw2 | exact (Below.refl _ _).alloc (Nat.le_refl _) _) ?_
        simp only [Rgd.last, List.getElem?_toArray, List.getElem?_cons_succ, List.getElem?_cons_zero, Option.getD_some]
        rfl
      refine' Rgd.op_is _ [] 0 0 rfl rfl rfl (by kernel_rfl) ?_ ?_
      rotate_left
      · intro p wx hp1 hp2 hb
        obtain rfl : p = 0 := by omega
        refine Rgd.from_nil fun T hT => ?_
        go_wp2
        refine hT _ _ rfl (by first | exact Rgd.Keep.refl _ | exact below_of_dr hw2 | exact hw2 | exact (Below.refl _ _).alloc (Nat.le_refl _) _) ?_
        simp only [Rgd.last, List.getElem?_toArray, List.getElem?_cons_succ, List.getElem?_cons_zero, Option.getD_some]
        rfl
      refine' Rgd.op_is _ [] 0 0 rfl rfl rfl (by kernel_rfl) ?_ ?_
      rotate_left
      · intro p wx hp1 hp2 hb
        obtain rfl : p = 0 := by omega
        refine Rgd.from_nil fun T hT => ?_
        go_wp2
        refine hT _ _ rfl (by first | exact Rgd.Keep.refl _ | exact below_of_dr hw2 | exact hw2 | exact (Below.refl _ _).alloc (Nat.le_refl _) _) ?_
        simp only [Rgd.last, List.getElem?_toArray, List.getElem?_cons_succ, List.getElem?_cons_zero, Option.getD_some]
        rfl
      refine' Rgd.op_is _ [2, 3] 0 0 rfl rfl rfl (by kernel_rfl) ?_ ?_
      rotate_left
      · intro p wx hp1 hp2 hb
        obtain rfl : p = 0 := by omega
        refine Rgd.from_is (some 19) rfl rfl ?_
        refine Rgd.from_is (some 20) rfl rfl ?_
        refine Rgd.from_nil fun T hT => ?_
        go_wp2
        refine hT _ _ rfl (by first | exact Rgd.Keep.refl _ | exact below_of_dr hw2 | exact hw2 | exact (Below.refl _ _).alloc (Nat.le_refl _) _) ?_
        simp only [Rgd.last, List.getElem?_toArray, List.getElem?_cons_succ, List.getElem?_cons_zero, Option.getD_some]
        rfl
      refine Rgd.op_is (.int .u64 x) [4] 0 0 rfl rfl rfl (by kernel_rfl) ?_ ?_
      · intro p wx hp1 hp2 hb
        obtain rfl : p = 0 := by omega
        refine Rgd.from_is (some 21) rfl rfl ?_
        refine Rgd.from_nil fun T hT => ?_
        have q3 := (HI.out.1.below hb).cell HX.out
        go_wp2
        exact hT _ _ rfl (by first | exact Rgd.Keep.refl _ | exact below_of_dr hw2 | exact hw2 | exact (Below.refl _ _).alloc (Nat.le_refl _) _) (by first | rfl | exact congrArg _ (by decide))
      refine' Rgd.op_is _ [] 0 0 rfl rfl rfl (by kernel_rfl) ?_ ?_
      rotate_left
      · intro p wx hp1 hp2 hb
        obtain rfl : p = 0 := by omega
        refine Rgd.from_nil fun T hT => ?_
        go_wp2
        refine hT _ _ rfl (by first | exact Rgd.Keep.refl _ | exact below_of_dr hw2 | exact hw2 | exact (Below.refl _ _).alloc (Nat.le_refl _) _) ?_
        simp only [Rgd.last, List.getElem?_toArray, List.getElem?_cons_succ, List.getElem?_cons_zero, Option.getD_some]
        rfl
      refine' Rgd.op_is _ [] 0 0 rfl rfl rfl (by kernel_rfl) ?_ ?_
      rotate_left
      · intro p wx hp1 hp2 hb
        obtain rfl : p = 0 := by omega
        refine Rgd.from_nil fun T hT => ?_
        go_wp2
        refine hT _ _ rfl (by first | exact Rgd.Keep.refl _ | exact below_of_dr hw2 | exact hw2 | exact (Below.refl _ _).alloc (Nat.le_refl _) _) ?_
        simp only [Rgd.last, List.getElem?_toArray, List.getElem?_cons_succ, List.getElem?_cons_zero, Option.getD_some]
        rfl
      refine' Rgd.op_is _ [] 0 0 rfl rfl rfl (by kernel_rfl) ?_ ?_
      rotate_left
      · intro p wx hp1 hp2 hb
        obtain rfl : p = 0 := by omega
        refine Rgd.from_nil fun T hT => ?_
        go_wp2
        refine hT _ _ rfl (by first | exact Rgd.Keep.refl _ | exact below_of_dr hw2 | exact hw2 | exact (Below.refl _ _).alloc (Nat.le_refl _) _) ?_
        simp only [Rgd.last, List.getElem?_toArray, List.getElem?_cons_succ, List.getElem?_cons_zero, Option.getD_some]
        rfl
      refine' Rgd.op_is _ [8] 0 0 rfl rfl rfl (by kernel_rfl) ?_ ?_
      rotate_left
      · intro p wx hp1 hp2 hb
        obtain rfl : p = 0 := by omega
        refine Rgd.from_is (some 25) rfl rfl ?_
        refine Rgd.from_nil fun T hT => ?_
        go_wp2
        refine hT _ _ rfl (by first | exact Rgd.Keep.refl _ | exact below_of_dr hw2 | exact hw2 | exact (Below.refl _ _).alloc (Nat.le_refl _) _) ?_
        simp only [Rgd.last, List.getElem?_toArray, List.getElem?_cons_succ, List.getElem?_cons_zero, Option.getD_some]
        rfl
      refine' Rgd.op_is _ [9] 0 0 rfl rfl rfl (by kernel_rfl) ?_ ?_
      rotate_left
      · intro p wx hp1 hp2 hb
        obtain rfl : p = 0 := by omega
        refine Rgd.from_is (some 26) rfl rfl ?_
        refine Rgd.from_nil fun T hT => ?_
        go_wp2
        refine hT _ _ rfl (by first | exact Rgd.Keep.refl _ | exact below_of_dr hw2 | exact hw2 | exact (Below.refl _ _).alloc (Nat.le_refl _) _) ?_
        simp only [Rgd.last, List.getElem?_toArray, List.getElem?_cons_succ, List.getElem?_cons_zero, Option.getD_some]
        rfl
      refine Rgd.op_is (.int .u64 q) [10] 0 0 rfl rfl rfl (by kernel_rfl) ?_ ?_
      · intro p wx hp1 hp2 hb
        obtain rfl : p = 0 := by omega
        refine Rgd.from_is (some 27) rfl rfl ?_
        refine Rgd.from_nil fun T hT => ?_
        have q3 := (HGr.out.below hb).cell (k := 0) rfl
        go_wp2
        exact hT _ _ rfl (by first | exact Rgd.Keep.refl _ | exact below_of_dr hw2 | exact hw2 | exact (Below.refl _ _).alloc (Nat.le_refl _) _) (by first | rfl | exact congrArg _ (by decide))
      refine Rgd.op_is (.int .u64 (mMul y t q)) [6, 7, 11] 0 0 rfl rfl rfl (by kernel_rfl) ?_ ?_
      · intro p wx hp1 hp2 hb
        obtain rfl : p = 0 := by omega
        refine Rgd.from_is (some 23) rfl rfl ?_
        refine Rgd.from_is (some 24) rfl rfl ?_
        refine Rgd.from_is (some 28) rfl rfl ?_
        refine Rgd.from_nil fun T hT => ?_
        go_wp2_with (fail)
        refine (mul_c y t q ⟨y1, y2⟩ ht ⟨by omega, by omega⟩ _).mono ?_
        rintro e wy ⟨rfl, hk⟩
        go_wp2
        exact hT _ _ rfl (below_of_dr hk) (by simp [Rgd.last])
      refine' Rgd.op_is _ [] 0 0 rfl rfl rfl (by kernel_rfl) ?_ ?_
      rotate_left
      · intro p wx hp1 hp2 hb
        obtain rfl : p = 0 := by omega
        refine Rgd.from_nil fun T hT => ?_
        go_wp2
        refine hT _ _ rfl (by first | exact Rgd.Keep.refl _ | exact below_of_dr hw2 | exact hw2 | exact (Below.refl _ _).alloc (Nat.le_refl _) _) ?_
        simp only [Rgd.last, List.getElem?_toArray, List.getElem?_cons_succ, List.getElem?_cons_zero, Option.getD_some]
        rfl
      refine' Rgd.op_is _ [13] 0 0 rfl rfl rfl (by kernel_rfl) ?_ ?_
      rotate_left
      · intro p wx hp1 hp2 hb
        obtain rfl : p = 0 := by omega
        refine Rgd.from_is (some 30) rfl rfl ?_
        refine Rgd.from_nil fun T hT => ?_
        go_wp2
        refine hT _ _ rfl (by first | exact Rgd.Keep.refl _ | exact below_of_dr hw2 | exact hw2 | exact (Below.refl _ _).alloc (Nat.le_refl _) _) ?_
        simp only [Rgd.last, List.getElem?_toArray, List.getElem?_cons_succ, List.getElem?_cons_zero, Option.getD_some]
        rfl
      refine' Rgd.op_is _ [14] 0 0 rfl rfl rfl (by kernel_rfl) ?_ ?_
      rotate_left
      · intro p wx hp1 hp2 hb
        obtain rfl : p = 0 := by omega
        refine Rgd.from_is (some 31) rfl rfl ?_
        refine Rgd.from_nil fun T hT => ?_
        go_wp2
        refine hT _ _ rfl (by first | exact Rgd.Keep.refl _ | exact below_of_dr hw2 | exact hw2 | exact (Below.refl _ _).alloc (Nat.le_refl _) _) ?_
        simp only [Rgd.last, List.getElem?_toArray, List.getElem?_cons_succ, List.getElem?_cons_zero, Option.getD_some]
        rfl
      refine Rgd.op_is (.int .u64 q) [15] 0 0 rfl rfl rfl (by kernel_rfl) ?_ ?_
      · intro p wx hp1 hp2 hb
        obtain rfl : p = 0 := by omega
        refine Rgd.from_is (some 32) rfl rfl ?_
        refine Rgd.from_nil fun T hT => ?_
        have q3 := (HGr.out.below hb).cell (k := 0) rfl
        go_wp2
        exact hT _ _ rfl (by first | exact Rgd.Keep.refl _ | exact below_of_dr hw2 | exact hw2 | exact (Below.refl _ _).alloc (Nat.le_refl _) _) (by first | rfl | exact congrArg _ (by decide))
      refine Rgd.op_is (.int .u64 ((x - y * t) % q)) [5, 12, 16] 0 0 rfl rfl rfl (by kernel_rfl) ?_ ?_
      · intro p wx hp1 hp2 hb
        obtain rfl : p = 0 := by omega
        refine Rgd.from_is (some 22) rfl rfl ?_
        refine Rgd.from_is (some 29) rfl rfl ?_
        refine Rgd.from_is (some 33) rfl rfl ?_
        refine Rgd.from_nil fun T hT => ?_
        go_wp2_with (fail)
        refine (sub_c x (mMul y t q) q ⟨x1, x2⟩ (mMul_u64 y t q) ⟨by omega, by omega⟩ _).mono ?_
        rintro e wy ⟨rfl, hk⟩
        rw [HSM.out]
        go_wp2
        exact hT _ _ rfl (below_of_dr hk) (by simp [Rgd.last])
      refine' Rgd.op_is _ [0, 1] 0 0 rfl rfl rfl (by kernel_rfl) ?_ ?_
      rotate_left
      · intro p wx hp1 hp2 hb
        obtain rfl : p = 0 := by omega
        refine Rgd.from_is (some 17) rfl rfl ?_
        refine Rgd.from_is (some 18) rfl rfl ?_
        refine Rgd.from_nil fun T hT => ?_
        go_wp2
        refine hT _ _ rfl (by first | exact Rgd.Keep.refl _ | exact below_of_dr hw2 | exact hw2 | exact (Below.refl _ _).alloc (Nat.le_refl _) _) ?_
        simp only [Rgd.last, List.getElem?_toArray, List.getElem?_cons_succ, List.getElem?_cons_zero, Option.getD_some]
        rfl
      refine Rgd.walk_nil [0, 1, 2, 3, 4, 5, 6, 7, 8, 9, 10, 11, 12, 13, 14, 15, 16, 17, 18] (by kernel_rfl) ?_
      intro wx hb
      refine Rgd.from_is (some 17) rfl rfl ?_
      refine Rgd.from_is (some 18) rfl rfl ?_
      refine Rgd.from_is (some 19) rfl rfl ?_
      refine Rgd.from_is (some 20) rfl rfl ?_
      refine Rgd.from_is (some 21) rfl rfl ?_
      refine Rgd.from_is (some 22) rfl rfl ?_
      refine Rgd.from_is (some 23) rfl rfl ?_
      refine Rgd.from_is (some 24) rfl rfl ?_
      refine Rgd.from_is (some 25) rfl rfl ?_
      refine Rgd.from_is (some 26) rfl rfl ?_
      refine Rgd.from_is (some 27) rfl rfl ?_
      refine Rgd.from_is (some 28) rfl rfl ?_
      refine Rgd.from_is (some 29) rfl rfl ?_
      refine Rgd.from_is (some 30) rfl rfl ?_
      refine Rgd.from_is (some 31) rfl rfl ?_
      refine Rgd.from_is (some 32) rfl rfl ?_
      refine Rgd.from_is (some 33) rfl rfl ?_
      refine Rgd.from_is (some 34) rfl rfl ?_
      refine Rgd.from_is (some 35) rfl rfl ?_
      refine Rgd.from_nil ?_
      simp only [List.map, Act.put, List.setIfInBounds_toArray, List.set_cons_zero, List.set_cons_succ]
      have hb : Below wr.heap.size wr wx := hb
      have hrx := HI.out.1.below hb
      have hfz := hrx.frozen k
      have hcx := hrx.cell HX.out
      have HN := hid (hrx.set k (.int .u64 ((x - y * t) % q)))
      rw [HS.out] at HN
      have HGN := hid (but_then (but_then HI.out.2 (grown_below' hb)) (grown_set wx b k (.int .u64 ((x - y * t) % q))))
      clear hrx
      go_wp2
      go_roundw
      case rel => exact ⟨k + 1, by go_num, by omega, hid ⟨HN.out, HGN.out⟩⟩
      case measure => simp [intOf]; omega
    · obtain rfl : k = other.length := by omega
      go_wp2
      go_end0
      exact ⟨rfl, by rw [← lessK_all]; exact HI.out.1, HI.out.2⟩
theorem elt_u64 : Elt Tryd.prog 22 23 (.int .u64 0) 8 := Elt.of Tryd.underlying22 (by kernel_rfl) rfl
theorem splice_row (N : Nat) (row : List Int) (h : row.length ≤ N) : splice (List.replicate N (Value.int .u64 0)) 0 (u64v row) = u64v (tabL N (nth row)) := by
  unfold splice
  apply List.ext_getElem?
  intro j
  rw [List.take_zero, List.nil_append, Nat.zero_add, List.length_map]
  by_cases h1 : j < row.length
  · rw [List.getElem?_append_left (by simpa using h1), u64v_at h1, u64v_at (by rw [tabL_len]; omega), tabL_at (by omega)]
  · rw [List.getElem?_append_right (by simpa using h1), List.length_map, List.getElem?_drop, List.getElem?_replicate]
    by_cases h2 : j < N
    · rw [if_pos (by omega), u64v_at (by rw [tabL_len]; exact h2), tabL_at h2, nth_ge (by omega)]
    · rw [if_neg (by omega), List.getElem?_eq_none (by simp [tabL]; omega)]
/-- a row, so far reduced. -/
def redK (N : Nat) (q : Int) (row : List Int) (k : Nat) : List Int := tabL N fun j => if j < k then nth row j % q else nth row j
theorem redK_zero (N : Nat) (q : Int) (row : List Int) : redK N q row 0 = tabL N (nth row) := tabL_congr fun j _ => if_neg (by omega)
theorem redK_all (W : Nat) (q : Int) (row : List Int) : redK (max W row.length) q row (max W row.length) = redL W q row := tabL_congr fun j hj => if_pos hj
theorem redK_at {N : Nat} {q : Int} {row : List Int} {k : Nat} (h : k < N) : nth (redK N q row k) k = nth row k := by
  unfold redK
  rw [tabL_at h, if_neg (by omega)]
theorem redK_set {N : Nat} {q : Int} {row : List Int} {k : Nat} : (u64v (redK N q row k)).set k (.int .u64 (nth row k % q)) = u64v (redK N q row (k + 1)) := by
  unfold redK
  have := tabL_set (n := N) (f := fun j => if j < k then nth row j % q else nth row j) (g := fun j => if j < k + 1 then nth row j % q else nth row j) (k := k) fun j hj => by
    by_cases h1 : j < k
    · simp only [if_pos h1, if_pos (show j < k + 1 by omega)]
    · simp only [if_neg h1, if_neg (show ¬ j < k + 1 by omega)]
  simp only [if_pos (Nat.lt_succ_self k)] at this
  exact this
theorem below_set {w0 w : World} {b k : Nat} {u : Value} (h : Below w0.heap.size w0 w) (hb : w0.heap.size ≤ b) : Below w0.heap.size w0 (w.setCell ⟨b, k, none⟩ u) :=
  h.grown (grown_set w b k u) h.size fun j e => by cases e; exact hb
theorem copy_pos {w w1 : World} {A : Option Addr} {xs : List Value} {g : Nat} (hA : Cells w A xs) (hb : Below w.heap.size w w1) (h0 : 0 < xs.length) : (some (⟨g, 0, none⟩ : Addr)) = some ⟨g, 0, none⟩ ∧ ∃ ad : Addr, A = some ad ∧ ∀ j v, xs[j]? = some v → w1.cell? (ad.add j) = some v := by
  refine ⟨rfl, ?_⟩
  rcases hA.below hb with h | ⟨b, off, rfl, h⟩
  · rw [h] at h0; simp at h0
  · refine ⟨_, rfl, fun j v hv => ?_⟩
    have hadd : (⟨b, off, none⟩ : Addr).add j = ⟨b, off + j, none⟩ := by unfold Addr.add; split <;> simp_all
    rw [hadd]
    exact h j v hv
theorem u64_one (l : List Int) : ∀ v ∈ u64v l, v.oneCell' = true := by
  intro v hv
  obtain ⟨z, _, rfl⟩ := List.mem_map.1 hv
  rfl
set_option maxRecDepth 100000 in
set_option maxHeartbeats 2000000 in
theorem own_c (gs gm W : Nat) (q : Int) (A : Option Addr) (row : List Int) (c : Nat) (w : World) (hg : Row1 w gs 84 (spV q W gm)) (hA : Cells w A (u64v row)) (hq : okm q = true) (hru : U64s row) (hl : row.length ≤ 100000000) (hW : W ≤ 100000000) :
    Calls Tryd.prog 91 #[.pointer (some ⟨gs, 0, none⟩), .slice A row.length c] w fun e w' => ∃ b, e = .returned (.slice (some ⟨b, 0, none⟩) (max W row.length) (max W row.length)) ∧ w.heap.size ≤ b ∧ Row1 w' b 23 (u64v (redL W q row)) ∧ Below w.heap.size w w' := by
  have hq1 := okm_pos hq
  have hq2 := okm_le hq
  have hq0 : (q == 0) = false := by simp; omega
  have HG := hid hg
  have HA := hid hA
  have HU := hid hru
  have c1 := hg.cell (k := 1) rfl
  have HRA := hid (redK_all W q row)
  obtain ⟨N, hN⟩ : ∃ N, max W row.length = N := ⟨_, rfl⟩
  have hN2 : max (W : Int) (row.length : Int) = (N : Int) := by omega
  have hNr : row.length ≤ N := by omega
  have hNl : N ≤ 100000000 := by omega
  rw [hN] at HRA ⊢
  clear hg hA hru hN
  go_enter Tryd.func91, Tryd.ntmps91
  go_wp2_with (first
    | (at_make; refine wpList_make_row elt_u64 _ rfl _ _ rfl .i64 .i64 (N : Int) (N : Int) N rfl rfl rfl rfl (by omega) (by omega) ?_; intro w1 hr1 hs1 hb1)
    | (refine wpList_copy_splice (by rfl) (.tmp 15) (.tmp 16) 22 22 (by rfl) 23 Tryd.underlying22 (by kernel_rfl) _ _ N N row.length c rfl rfl w.heap.size 0 (List.replicate N (Value.int .u64 0)) 23 hr1 (u64v row) (by show (u64v row).length = min row.length N; rw [List.length_map]; omega) (copy_pos HA.out hb1) (by rw [List.length_map, List.length_replicate]; omega) (u64_one row) w.heap.size w hb1 (Nat.le_refl _) ?_; intro w2 hr2 hb2))
  have HB2 := hid hb2
  clear hr1 hs1 hb1 hb2
  go_wp2
  go_loopw [20] (fun i wr => ∃ k : Nat, i = .int .i64 (k : Int) ∧ k ≤ N ∧ Hid (Row1 wr w.heap.size 23 (u64v (redK N q row k)) ∧ Below w.heap.size w wr)) (fun i _ => N - (intOf i).toNat)
  case atStart => exact ⟨0, rfl, by omega, hid ⟨by rw [redK_zero, ← splice_row N row hNr]; exact hr2.out, HB2.out⟩⟩
  case round =>
    obtain ⟨k, rfl, hk, HI⟩ := hrel
    by_cases hlt : k < N
    · have HGr := hid (HG.out.below HI.out.2)
      obtain ⟨x1, x2⟩ := HU.out.nth k
      have HX := hid (show (u64v (redK N q row k))[k]? = some (.int .u64 (nth row k)) by rw [u64v_at (by unfold redK; rw [tabL_len]; exact hlt), redK_at hlt])
      have HS := hid (redK_set (N := N) (q := q) (row := row) (k := k))
      generalize nth row k = x at *
      go_wp2_with (fail)
      refine Rgd.wp_region (l := [_, _, _, _, _, _, _, _, _, _]) (tail := [_]) (Rgd.keep wr [] [(0, 0), (0, 0), (0, 0), (0, 0), (0, 0), (0, 0), (0, 0), (0, 0), (0, 0), (0, 0)]) [some 23, some 24, some 25, some 26, some 27, some 28, some 29, some 30, some 31, some 32, none] 35 rfl [[], [], [0, 1], [0, 1, 2], [], [4], [4, 5], [4, 5, 6], [0, 1, 2, 3, 4, 5, 6, 7], [0, 1, 2, 3, 4, 5, 6, 7, 8]] (by kernel_rfl) (by kernel_rfl) (by kernel_rfl) (by kernel_rfl) (by kernel_rfl) rfl (Rgd.keep_fair) (Rgd.keep_start _) ?_
      refine' Rgd.op_is _ [] 0 0 rfl rfl rfl (by kernel_rfl) ?_ ?_
      rotate_left
      · intro p wx hp1 hp2 hb
        obtain rfl : p = 0 := by omega
        refine Rgd.from_nil fun T hT => ?_
        go_wp2
        refine hT _ _ rfl (by first | exact Rgd.Keep.refl _ | exact below_of_dr hw2 | exact hw2 | exact (Below.refl _ _).alloc (Nat.le_refl _) _) ?_
        simp only [Rgd.last, List.getElem?_toArray, List.getElem?_cons_succ, List.getElem?_cons_zero, Option.getD_some]
        rfl
      refine' Rgd.op_is _ [] 0 0 rfl rfl rfl (by kernel_rfl) ?_ ?_
      rotate_left
      · intro p wx hp1 hp2 hb
        obtain rfl : p = 0 := by omega
        refine Rgd.from_nil fun T hT => ?_
        go_wp2
        refine hT _ _ rfl (by first | exact Rgd.Keep.refl _ | exact below_of_dr hw2 | exact hw2 | exact (Below.refl _ _).alloc (Nat.le_refl _) _) ?_
        simp only [Rgd.last, List.getElem?_toArray, List.getElem?_cons_succ, List.getElem?_cons_zero, Option.getD_some]
        rfl
      refine' Rgd.op_is _ [0, 1] 0 0 rfl rfl rfl (by kernel_rfl) ?_ ?_
      rotate_left
      · intro p wx hp1 hp2 hb
        obtain rfl : p = 0 := by omega
        refine Rgd.from_is (some 23) rfl rfl ?_
        refine Rgd.from_is (some 24) rfl rfl ?_
        refine Rgd.from_nil fun T hT => ?_
        go_wp2
        refine hT _ _ rfl (by first | exact Rgd.Keep.refl _ | exact below_of_dr hw2 | exact hw2 | exact (Below.refl _ _).alloc (Nat.le_refl _) _) ?_
        simp only [Rgd.last, List.getElem?_toArray, List.getElem?_cons_succ, List.getElem?_cons_zero, Option.getD_some]
        rfl
      refine Rgd.op_is (.int .u64 x) [2] 0 0 rfl rfl rfl (by kernel_rfl) ?_ ?_
      · intro p wx hp1 hp2 hb
        obtain rfl : p = 0 := by omega
        refine Rgd.from_is (some 25) rfl rfl ?_
        refine Rgd.from_nil fun T hT => ?_
        have q3 := (HI.out.1.below hb).cell HX.out
        go_wp2
        exact hT _ _ rfl (by first | exact Rgd.Keep.refl _ | exact below_of_dr hw2 | exact hw2 | exact (Below.refl _ _).alloc (Nat.le_refl _) _) (by first | rfl | exact congrArg _ (by decide))
      refine' Rgd.op_is _ [] 0 0 rfl rfl rfl (by kernel_rfl) ?_ ?_
      rotate_left
      · intro p wx hp1 hp2 hb
        obtain rfl : p = 0 := by omega
        refine Rgd.from_nil fun T hT => ?_
        go_wp2
        refine hT _ _ rfl (by first | exact Rgd.Keep.refl _ | exact below_of_dr hw2 | exact hw2 | exact (Below.refl _ _).alloc (Nat.le_refl _) _) ?_
        simp only [Rgd.last, List.getElem?_toArray, List.getElem?_cons_succ, List.getElem?_cons_zero, Option.getD_some]
        rfl
      refine' Rgd.op_is _ [4] 0 0 rfl rfl rfl (by kernel_rfl) ?_ ?_
      rotate_left
      · intro p wx hp1 hp2 hb
        obtain rfl : p = 0 := by omega
        refine Rgd.from_is (some 27) rfl rfl ?_
        refine Rgd.from_nil fun T hT => ?_
        go_wp2
        refine hT _ _ rfl (by first | exact Rgd.Keep.refl _ | exact below_of_dr hw2 | exact hw2 | exact (Below.refl _ _).alloc (Nat.le_refl _) _) ?_
        simp only [Rgd.last, List.getElem?_toArray, List.getElem?_cons_succ, List.getElem?_cons_zero, Option.getD_some]
        rfl
      refine' Rgd.op_is _ [5] 0 0 rfl rfl rfl (by kernel_rfl) ?_ ?_
      rotate_left
      · intro p wx hp1 hp2 hb
        obtain rfl : p = 0 := by omega
        refine Rgd.from_is (some 28) rfl rfl ?_
        refine Rgd.from_nil fun T hT => ?_
        go_wp2
        refine hT _ _ rfl (by first | exact Rgd.Keep.refl _ | exact below_of_dr hw2 | exact hw2 | exact (Below.refl _ _).alloc (Nat.le_refl _) _) ?_
        simp only [Rgd.last, List.getElem?_toArray, List.getElem?_cons_succ, List.getElem?_cons_zero, Option.getD_some]
        rfl
      refine Rgd.op_is (.int .u64 q) [6] 0 0 rfl rfl rfl (by kernel_rfl) ?_ ?_
      · intro p wx hp1 hp2 hb
        obtain rfl : p = 0 := by omega
        refine Rgd.from_is (some 29) rfl rfl ?_
        refine Rgd.from_nil fun T hT => ?_
        have q3 := (HGr.out.below hb).cell (k := 0) rfl
        go_wp2
        exact hT _ _ rfl (by first | exact Rgd.Keep.refl _ | exact below_of_dr hw2 | exact hw2 | exact (Below.refl _ _).alloc (Nat.le_refl _) _) (by first | rfl | exact congrArg _ (by decide))
      refine Rgd.op_is (.int .u64 (x % q)) [3, 7] 0 0 rfl rfl rfl (by kernel_rfl) ?_ ?_
      · intro p wx hp1 hp2 hb
        obtain rfl : p = 0 := by omega
        refine Rgd.from_is (some 26) rfl rfl ?_
        refine Rgd.from_is (some 30) rfl rfl ?_
        refine Rgd.from_nil fun T hT => ?_
        go_wp2
        exact hT _ _ rfl (by first | exact Rgd.Keep.refl _ | exact below_of_dr hw2 | exact hw2 | exact (Below.refl _ _).alloc (Nat.le_refl _) _) (by first | rfl | exact congrArg _ (by decide))
      refine' Rgd.op_is _ [0, 1] 0 0 rfl rfl rfl (by kernel_rfl) ?_ ?_
      rotate_left
      · intro p wx hp1 hp2 hb
        obtain rfl : p = 0 := by omega
        refine Rgd.from_is (some 23) rfl rfl ?_
        refine Rgd.from_is (some 24) rfl rfl ?_
        refine Rgd.from_nil fun T hT => ?_
        go_wp2
        refine hT _ _ rfl (by first | exact Rgd.Keep.refl _ | exact below_of_dr hw2 | exact hw2 | exact (Below.refl _ _).alloc (Nat.le_refl _) _) ?_
        simp only [Rgd.last, List.getElem?_toArray, List.getElem?_cons_succ, List.getElem?_cons_zero, Option.getD_some]
        rfl
      refine Rgd.walk_nil [0, 1, 2, 3, 4, 5, 6, 7, 8, 9] (by kernel_rfl) ?_
      intro wx hb
      refine Rgd.from_is (some 23) rfl rfl ?_
      refine Rgd.from_is (some 24) rfl rfl ?_
      refine Rgd.from_is (some 25) rfl rfl ?_
      refine Rgd.from_is (some 26) rfl rfl ?_
      refine Rgd.from_is (some 27) rfl rfl ?_
      refine Rgd.from_is (some 28) rfl rfl ?_
      refine Rgd.from_is (some 29) rfl rfl ?_
      refine Rgd.from_is (some 30) rfl rfl ?_
      refine Rgd.from_is (some 31) rfl rfl ?_
      refine Rgd.from_is (some 32) rfl rfl ?_
      refine Rgd.from_nil ?_
      simp only [List.map, Act.put, List.setIfInBounds_toArray, List.set_cons_zero, List.set_cons_succ]
      have hb : Below wr.heap.size wr wx := hb
      have hrx := HI.out.1.below hb
      have hfz := hrx.frozen k
      have hcx := hrx.cell HX.out
      have HN := hid (hrx.set k (.int .u64 (x % q)))
      rw [HS.out] at HN
      have HBN := hid (below_set (k := k) (u := .int .u64 (x % q)) (below_next HI.out.2 HI.out.2.size hb) (Nat.le_refl _))
      clear hrx
      go_wp2
      go_roundw
      case rel => exact ⟨k + 1, by go_num, by omega, hid ⟨HN.out, HBN.out⟩⟩
      case measure => simp [intOf]; omega
    · obtain rfl : k = N := by omega
      rw [HRA.out] at HI
      go_wp2
      go_ret
      exact ⟨_, rfl, Nat.le_refl _, HI.out.1, HI.out.2⟩
end Go.Proofs.YtgdfphcggjclkaaDoor
