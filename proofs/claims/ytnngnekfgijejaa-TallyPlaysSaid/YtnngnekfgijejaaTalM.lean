/-
  Which of two votes stands ahead: the program's comparison.
-/
import Derived.Test.YtnngnekfgijejaaTalE
import Derived.Test.YtnngnekfgijejaaTalS
import Derived.Test.YtnngnekfgijejaaWays
import Derived.Shelf.Abstract
namespace Go.Proofs.Ytnngnekfgijejaa
open Go.RowKit Go.Maps Go.Shelf Go.Proofs Go.Sort Go.Lib

/-- memory has grown, and nothing else has come to pass. -/
def Grew (w w' : World) : Prop := ∃ q os, w' = grow (w.drewN q) os
theorem Grew.refl (w : World) : Grew w w := ⟨0, #[], by rw [grow_empty]; rfl⟩
theorem Grew.alloc (w : World) (o : Obj) : Grew w (w.alloc o) := ⟨0, #[o], alloc_eq_grow w o⟩
theorem Grew.draw (w : World) (n : Nat) : Grew w (w.drewN n) := ⟨n, #[], by rw [grow_empty]⟩
theorem grow_drewN (w : World) (os : Array Obj) (n : Nat) : (grow w os).drewN n = grow (w.drewN n) os := rfl
theorem Grew.trans {a b c : World} (h : Grew a b) (k : Grew b c) : Grew a c := by
  obtain ⟨q, os, rfl⟩ := h
  obtain ⟨q2, os2, rfl⟩ := k
  exact ⟨q + q2, os ++ os2, by rw [grow_drewN, grow_grow, World.drewN_drewN]⟩
theorem Grew.below {w w' : World} (h : Grew w w') : Below w.heap.size w w' := by
  obtain ⟨q, os, rfl⟩ := h
  refine ⟨rfl, rfl, rfl, by simp [grow], fun k hk => ?_⟩
  show (w.heap ++ os)[k]? = w.heap[k]?
  rw [Array.getElem?_append_left hk]

/-- regions that only make memory, and say just how. -/
def grewWay (w0 : World) (n : Nat) : Rgb.Way := ⟨Grew, Grew, Grew w0, fun _ => True, n⟩
theorem grewWay_fair (w0 : World) (n : Nat) : (grewWay w0 n).Fair := ⟨fun _ _ h k => h.trans k, fun _ _ h k => h.trans k, fun _ _ _ _ => trivial⟩
theorem grew_drew (w : World) : Grew w w.drew := ⟨1, #[], by rw [grow_empty]; rfl⟩

def cmpI (a b : Int) : Int := if a < b then -1 else if a > b then 1 else 0

theorem isNaN_int (a : Int) (w : World) : Calls Try.prog 53 #[.int .i64 a] w fun e w' => e = .returned (.bool false) ∧ w = w' := by
  have h : (a != a) = false := by simp
  go_enter Try.func53, Try.ntmps53
  go_wp2
  go_ret
  exact ⟨rfl, rfl⟩
theorem isNaN_u8 (a : Int) (w : World) : Calls Try.prog 54 #[.int .u8 a] w fun e w' => e = .returned (.bool false) ∧ w = w' := by
  have h : (a != a) = false := by simp
  go_enter Try.func54, Try.ntmps54
  go_wp2
  go_ret
  exact ⟨rfl, rfl⟩
theorem cmp_int (a b : Int) (w : World) : Calls Try.prog 34 #[.int .i64 a, .int .i64 b] w fun e w' => e = .returned (.int .i64 (cmpI a b)) ∧ w = w' := by
  cases h1 : decide (a < b) <;> cases h2 : decide (a > b)
  all_goals
    have HC := hid (show cmpI a b = _ by simp only [cmpI, decide_eq_true_eq, decide_eq_false_iff_not] at h1 h2 ⊢; simp only [h1, h2, if_true, if_false]; rfl)
    go_enter Try.func34, Try.ntmps34
    go_wp2_with (go_at_call 53; refine (isNaN_int _ _).mono ?_; rintro e w' ⟨rfl, rfl⟩)
    go_ret
    exact ⟨ret_int HC.out.symm, rfl⟩
theorem cmp_u8 (a b : Int) (w : World) : Calls Try.prog 35 #[.int .u8 a, .int .u8 b] w fun e w' => e = .returned (.int .i64 (cmpI a b)) ∧ w = w' := by
  cases h1 : decide (a < b) <;> cases h2 : decide (a > b)
  all_goals
    have HC := hid (show cmpI a b = _ by simp only [cmpI, decide_eq_true_eq, decide_eq_false_iff_not] at h1 h2 ⊢; simp only [h1, h2, if_true, if_false]; rfl)
    go_enter Try.func35, Try.ntmps35
    go_wp2_with (go_at_call 54; refine (isNaN_u8 _ _).mono ?_; rintro e w' ⟨rfl, rfl⟩)
    go_ret
    exact ⟨ret_int HC.out.symm, rfl⟩

/-- the first that is not 0. -/
def firstNZ : List Int → Int
  | [] => 0
  | x :: l => if x = 0 then firstNZ l else x
theorem firstNZ_drop {l : List Int} {k : Nat} {x : Int} (h : l[k]? = some x) (hx : x = 0) : firstNZ (l.drop k) = firstNZ (l.drop (k + 1)) := by
  obtain ⟨hk, e⟩ := List.getElem?_eq_some_iff.1 h
  rw [List.drop_eq_getElem_cons hk, e, firstNZ, if_pos hx]
theorem firstNZ_hit {l : List Int} {k : Nat} {x : Int} (h : l[k]? = some x) (hx : x ≠ 0) : firstNZ (l.drop k) = x := by
  obtain ⟨hk, e⟩ := List.getElem?_eq_some_iff.1 h
  rw [List.drop_eq_getElem_cons hk, e, firstNZ, if_neg hx]
theorem or_c (g : Nat) (l : List Int) (w : World) (hr : Row1 w g 3 (l.map (.int .i64))) (hl : l.length ≤ 100) : Calls Try.prog 33 #[.slice (some ⟨g, 0, none⟩) l.length l.length] w fun e w' => e = .returned (.int .i64 (firstNZ l)) ∧ w = w' := by
  go_enter Try.func33, Try.ntmps33
  go_wp2
  go_loop [8] (fun i => ∃ k : Nat, i = .int .i64 k ∧ k ≤ l.length ∧ firstNZ (l.drop k) = firstNZ l) (fun i => l.length - (intOf i).toNat)
  case atStart => exact ⟨0, rfl, by omega, rfl⟩
  case round =>
    obtain ⟨k, rfl, hk, he⟩ := hrel
    have HE := hid he
    clear he
    by_cases hlt : k < l.length
    · obtain ⟨x, hx⟩ := get_of_lt hlt
      have hc := hr.cell (k := k) (u := .int .i64 x) (by simp [hx])
      have HX := hid hx
      clear hx
      cases h0 : (x != 0) with
      | true =>
        have hx0 : x ≠ 0 := by simpa using h0
        have HF := hid ((firstNZ_hit HX.out hx0).symm.trans HE.out)
        go_wp2
        go_ret
        exact ⟨ret_int HF.out, rfl⟩
      | false =>
        have hx0 : x = 0 := by simpa using h0
        have HF := hid ((firstNZ_drop HX.out hx0).symm.trans HE.out)
        clear hx0
        go_wp2
        go_round
        case rel => exact ⟨k + 1, by go_num, by omega, HF.out⟩
        case measure => simp [intOf]; omega
    · obtain rfl : k = l.length := by omega
      have HF := hid (show (0 : Int) = firstNZ l by rw [← HE.out, List.drop_length]; rfl)
      go_wp2
      go_ret
      exact ⟨ret_int HF.out, rfl⟩

/-- Votes$1. -/
def cfV (a b : Vt) : Int := firstNZ [cmpI a.rd b.rd, cmpI a.fr b.fr, cmpI a.kd b.kd]
set_option maxRecDepth 100000 in
set_option maxHeartbeats 1000000 in
theorem cmpV_c (a b : Vt) (w : World) : Calls Try.prog 32 #[vval a, vval b] w fun e w' => e = .returned (.int .i64 (cfV a b)) ∧ Grew w w' := by
  have hA := (row1_new w (vcl a) 30).alloc (.cells (vcl b).toArray 30)
  have hB : Row1 ((w.alloc (.cells (vcl a).toArray 30)).alloc (.cells (vcl b).toArray 30)) (w.heap.size + 1) 30 (vcl b) := by
    have := row1_new (w.alloc (.cells (vcl a).toArray 30)) (vcl b) 30
    rwa [World.size_alloc] at this
  have hG : Grew w ((w.alloc (.cells (vcl a).toArray 30)).alloc (.cells (vcl b).toArray 30)) := (Grew.alloc _ _).trans (Grew.alloc _ _)
  obtain ⟨r, hr⟩ : ∃ r, cfV a b = r := ⟨_, rfl⟩
  rw [hr]
  simp only [List.toArray] at hA hB hG
  go_enter Try.func32, Try.ntmps32
  go_wp2
  generalize (w.alloc (.cells #[.int .i64 a.fr, .int .i64 a.rd, .int .u8 a.kd, .int .i64 a.va, .string a.tx] 30)).alloc (.cells #[.int .i64 b.fr, .int .i64 b.rd, .int .u8 b.kd, .int .i64 b.va, .string b.tx] 30) = w1 at *
  obtain ⟨c1, hc1⟩ : ∃ c, cmpI a.rd b.rd = c := ⟨_, rfl⟩
  obtain ⟨c2, hc2⟩ : ∃ c, cmpI a.fr b.fr = c := ⟨_, rfl⟩
  obtain ⟨c3, hc3⟩ : ∃ c, cmpI a.kd b.kd = c := ⟨_, rfl⟩
  unfold cfV at hr
  rw [hc1, hc2, hc3] at hr
  have HCF := hid hr
  clear hr
  have H1 := hid hc1
  have H2 := hid hc2
  have H3 := hid hc3
  clear hc1 hc2 hc3
  refine Rgb.wp_region (l := [_, _, _, _, _, _, _, _, _, _, _, _, _, _, _, _, _]) (tail := [_]) (grewWay _ 18) [some 5, some 6, some 7, some 8, some 9, some 10, some 11, some 12, some 13, some 14, some 15, some 16, some 17, some 18, some 19, some 20, some 21, some 4] 22 (by kernel_rfl) (by kernel_rfl) (by kernel_rfl) rfl (grewWay_fair _ _) (grew_drew _) (trivial) ?_
  refine' Rgb.op_is _ [] rfl rfl (by kernel_rfl) ?_ ?_
  rotate_left
  · intro wx hb
    refine Rgb.from_nil fun T hT => ?_
    go_wp2
    refine hT _ _ rfl (by first | exact Grew.refl _ | exact Grew.draw _ _) ?_
    simp only [Rgb.last, List.getElem?_toArray, List.getElem?_cons_succ, List.getElem?_cons_zero, Option.getD_some]
    rfl
  refine Rgb.op_is (.int .i64 a.rd) [0] rfl rfl (by kernel_rfl) ?_ ?_
  · intro wx hb
    refine Rgb.from_is (some 5) rfl rfl ?_
    refine Rgb.from_nil fun T hT => ?_
    obtain ⟨d0, d1, d2, d3, d4⟩ := (hA.below hb.below).five
    go_wp2
    exact hT _ _ rfl (by first | exact Grew.refl _ | exact Grew.draw _ _) (by first | rfl | exact congrArg _ (by decide))
  refine' Rgb.op_is _ [] rfl rfl (by kernel_rfl) ?_ ?_
  rotate_left
  · intro wx hb
    refine Rgb.from_nil fun T hT => ?_
    go_wp2
    refine hT _ _ rfl (by first | exact Grew.refl _ | exact Grew.draw _ _) ?_
    simp only [Rgb.last, List.getElem?_toArray, List.getElem?_cons_succ, List.getElem?_cons_zero, Option.getD_some]
    rfl
  refine Rgb.op_is (.int .i64 b.rd) [2] rfl rfl (by kernel_rfl) ?_ ?_
  · intro wx hb
    refine Rgb.from_is (some 7) rfl rfl ?_
    refine Rgb.from_nil fun T hT => ?_
    obtain ⟨d0, d1, d2, d3, d4⟩ := (hB.below hb.below).five
    go_wp2
    exact hT _ _ rfl (by first | exact Grew.refl _ | exact Grew.draw _ _) (by first | rfl | exact congrArg _ (by decide))
  refine Rgb.op_is (.int .i64 c1) [1, 3] rfl rfl (by kernel_rfl) ?_ ?_
  · intro wx hb
    refine Rgb.from_is (some 6) rfl rfl ?_
    refine Rgb.from_is (some 8) rfl rfl ?_
    refine Rgb.from_nil fun T hT => ?_
    go_wp2_with (go_at_call 34; refine (cmp_int _ _ _).mono ?_; rintro e w5 ⟨rfl, rfl⟩; rw [H1.out])
    exact hT _ _ rfl (Grew.refl _) rfl
  refine' Rgb.op_is _ [] rfl rfl (by kernel_rfl) ?_ ?_
  rotate_left
  · intro wx hb
    refine Rgb.from_nil fun T hT => ?_
    go_wp2
    refine hT _ _ rfl (by first | exact Grew.refl _ | exact Grew.draw _ _) ?_
    simp only [Rgb.last, List.getElem?_toArray, List.getElem?_cons_succ, List.getElem?_cons_zero, Option.getD_some]
    rfl
  refine Rgb.op_is (.int .i64 a.fr) [5] rfl rfl (by kernel_rfl) ?_ ?_
  · intro wx hb
    refine Rgb.from_is (some 10) rfl rfl ?_
    refine Rgb.from_nil fun T hT => ?_
    obtain ⟨d0, d1, d2, d3, d4⟩ := (hA.below hb.below).five
    go_wp2
    exact hT _ _ rfl (by first | exact Grew.refl _ | exact Grew.draw _ _) (by first | rfl | exact congrArg _ (by decide))
  refine' Rgb.op_is _ [] rfl rfl (by kernel_rfl) ?_ ?_
  rotate_left
  · intro wx hb
    refine Rgb.from_nil fun T hT => ?_
    go_wp2
    refine hT _ _ rfl (by first | exact Grew.refl _ | exact Grew.draw _ _) ?_
    simp only [Rgb.last, List.getElem?_toArray, List.getElem?_cons_succ, List.getElem?_cons_zero, Option.getD_some]
    rfl
  refine Rgb.op_is (.int .i64 b.fr) [7] rfl rfl (by kernel_rfl) ?_ ?_
  · intro wx hb
    refine Rgb.from_is (some 12) rfl rfl ?_
    refine Rgb.from_nil fun T hT => ?_
    obtain ⟨d0, d1, d2, d3, d4⟩ := (hB.below hb.below).five
    go_wp2
    exact hT _ _ rfl (by first | exact Grew.refl _ | exact Grew.draw _ _) (by first | rfl | exact congrArg _ (by decide))
  refine Rgb.op_is (.int .i64 c2) [6, 8] rfl rfl (by kernel_rfl) ?_ ?_
  · intro wx hb
    refine Rgb.from_is (some 11) rfl rfl ?_
    refine Rgb.from_is (some 13) rfl rfl ?_
    refine Rgb.from_nil fun T hT => ?_
    go_wp2_with (go_at_call 34; refine (cmp_int _ _ _).mono ?_; rintro e w5 ⟨rfl, rfl⟩; rw [H2.out])
    exact hT _ _ rfl (Grew.refl _) rfl
  refine' Rgb.op_is _ [] rfl rfl (by kernel_rfl) ?_ ?_
  rotate_left
  · intro wx hb
    refine Rgb.from_nil fun T hT => ?_
    go_wp2
    refine hT _ _ rfl (by first | exact Grew.refl _ | exact Grew.draw _ _) ?_
    simp only [Rgb.last, List.getElem?_toArray, List.getElem?_cons_succ, List.getElem?_cons_zero, Option.getD_some]
    rfl
  refine Rgb.op_is (.int .u8 a.kd) [10] rfl rfl (by kernel_rfl) ?_ ?_
  · intro wx hb
    refine Rgb.from_is (some 15) rfl rfl ?_
    refine Rgb.from_nil fun T hT => ?_
    obtain ⟨d0, d1, d2, d3, d4⟩ := (hA.below hb.below).five
    go_wp2
    exact hT _ _ rfl (by first | exact Grew.refl _ | exact Grew.draw _ _) (by first | rfl | exact congrArg _ (by decide))
  refine' Rgb.op_is _ [] rfl rfl (by kernel_rfl) ?_ ?_
  rotate_left
  · intro wx hb
    refine Rgb.from_nil fun T hT => ?_
    go_wp2
    refine hT _ _ rfl (by first | exact Grew.refl _ | exact Grew.draw _ _) ?_
    simp only [Rgb.last, List.getElem?_toArray, List.getElem?_cons_succ, List.getElem?_cons_zero, Option.getD_some]
    rfl
  refine Rgb.op_is (.int .u8 b.kd) [12] rfl rfl (by kernel_rfl) ?_ ?_
  · intro wx hb
    refine Rgb.from_is (some 17) rfl rfl ?_
    refine Rgb.from_nil fun T hT => ?_
    obtain ⟨d0, d1, d2, d3, d4⟩ := (hB.below hb.below).five
    go_wp2
    exact hT _ _ rfl (by first | exact Grew.refl _ | exact Grew.draw _ _) (by first | rfl | exact congrArg _ (by decide))
  refine Rgb.op_is (.int .i64 c3) [11, 13] rfl rfl (by kernel_rfl) ?_ ?_
  · intro wx hb
    refine Rgb.from_is (some 16) rfl rfl ?_
    refine Rgb.from_is (some 18) rfl rfl ?_
    refine Rgb.from_nil fun T hT => ?_
    go_wp2_with (go_at_call 35; refine (cmp_u8 _ _ _).mono ?_; rintro e w5 ⟨rfl, rfl⟩; rw [H3.out])
    exact hT _ _ rfl (Grew.refl _) rfl
  refine Rgb.op_of (fun W v => ∃ g, v = .slice (some ⟨g, 0, none⟩) 3 3 ∧ Row1 W g 3 ([c1, c2, c3].map (.int .i64))) [4, 9, 14] rfl ?_ ?_ rfl (by kernel_rfl) ?_ ?_
  · exact fun w1 w2 v hk ⟨g, h1, h2⟩ => ⟨g, h1, h2.below hk.below⟩
  · exact fun w1 w2 v hk ⟨g, h1, h2⟩ => ⟨g, h1, h2.below hk.below⟩
  · intro wx hb
    refine Rgb.from_is (some 9) rfl rfl ?_
    refine Rgb.from_is (some 14) rfl rfl ?_
    refine Rgb.from_is (some 19) rfl rfl ?_
    refine Rgb.from_nil fun T hT => ?_
    go_wp2
    exact hT _ _ rfl (Grew.alloc _ _) ⟨_, rfl, row1_new _ ([c1, c2, c3].map (.int .i64)) _⟩
  refine Rgb.op_is (.int .i64 r) [15] rfl rfl (by kernel_rfl) ?_ ?_
  · intro wx hb
    refine Rgb.from_of (some 20) rfl rfl fun v20 h20 => ?_
    refine Rgb.from_nil fun T hT => ?_
    obtain ⟨g, rfl, hg⟩ := h20
    go_wp2_with (go_at_call 33; refine (or_c g [c1, c2, c3] _ hg (by simp)).mono ?_; rintro e w5 ⟨rfl, rfl⟩; rw [HCF.out])
    exact hT _ _ rfl (Grew.refl _) rfl
  refine Rgb.walk_nil [0, 1, 2, 3, 4, 5, 6, 7, 8, 9, 10, 11, 12, 13, 14, 15, 16] (by kernel_rfl) ?_
  intro wx hb
  refine Rgb.from_is (some 5) rfl rfl ?_
  refine Rgb.from_is (some 6) rfl rfl ?_
  refine Rgb.from_is (some 7) rfl rfl ?_
  refine Rgb.from_is (some 8) rfl rfl ?_
  refine Rgb.from_is (some 9) rfl rfl ?_
  refine Rgb.from_is (some 10) rfl rfl ?_
  refine Rgb.from_is (some 11) rfl rfl ?_
  refine Rgb.from_is (some 12) rfl rfl ?_
  refine Rgb.from_is (some 13) rfl rfl ?_
  refine Rgb.from_is (some 14) rfl rfl ?_
  refine Rgb.from_is (some 15) rfl rfl ?_
  refine Rgb.from_is (some 16) rfl rfl ?_
  refine Rgb.from_is (some 17) rfl rfl ?_
  refine Rgb.from_is (some 18) rfl rfl ?_
  refine Rgb.from_is (some 19) rfl rfl ?_
  refine Rgb.from_of (some 20) rfl rfl fun v20 h20 => ?_
  refine Rgb.from_is (some 21) rfl rfl ?_
  refine Rgb.from_nil ?_
  simp only [List.map, Act.put, List.setIfInBounds_toArray, List.set_cons_zero, List.set_cons_succ]
  go_wp2
  go_ret
  exact ⟨rfl, hG.trans hb⟩

theorem cmpI_neg (a b : Int) : (cmpI a b < 0) ↔ a < b := by unfold cmpI; split <;> (try split) <;> omega
theorem cmpI_zero (a b : Int) : (cmpI a b = 0) ↔ a = b := by unfold cmpI; split <;> (try split) <;> omega
theorem cfV_lt (a b : Vt) : ltOf cfV a b = ahead a b := by
  unfold ltOf cfV firstNZ firstNZ firstNZ firstNZ
  rw [Bool.eq_iff_iff, decide_eq_true_eq, ahead_iff]
  have h1 := cmpI_neg a.rd b.rd; have h2 := cmpI_zero a.rd b.rd
  have h3 := cmpI_neg a.fr b.fr; have h4 := cmpI_zero a.fr b.fr
  have h5 := cmpI_neg a.kd b.kd; have h6 := cmpI_zero a.kd b.kd
  split
  · split
    · split <;> omega
    · omega
  · omega
theorem cfV_swo : SWO (ltOf cfV) where
  irrefl x := by rw [cfV_lt]; exact ahead_irr x
  trans x y z h1 h2 := by rw [cfV_lt] at *; exact ahead_trans h1 h2
  ntrans x y z h1 h2 := by rw [cfV_lt] at *; rw [ahead_not] at *; omega
end Go.Proofs.Ytnngnekfgijejaa
