/-
  RobustAlong: what the program does.
-/
import Derived.Test.YtcojnjhffmhbiaaDoorRobQ1
import Derived.Test.YtcojnjhffmhbiaaDoorRobQ2
import Derived.Test.YtcojnjhffmhbiaaDoorRobQ3
import Derived.Test.YtcojnjhffmhbiaaDoorRobQ4
import Derived.Test.YtcojnjhffmhbiaaDoorRobQ5
import Derived.Test.YtcojnjhffmhbiaaDoorRobQ6
import Derived.Test.YtcojnjhffmhbiaaDoorRobQ7
import Derived.Test.YtcojnjhffmhbiaaDoorRobQ8
import Derived.Test.YtcojnjhffmhbiaaDoorRobQ9
import Derived.Test.YtcojnjhffmhbiaaDoorRobQ10
import Derived.Test.YtcojnjhffmhbiaaDoorRobQ11
import Derived.Test.YtcojnjhffmhbiaaDoorRoX
import Derived.Test.YtcojnjhffmhbiaaDoorRoI
import Derived.Deep.Cut
import Derived.Deep.DeepCutAuto
namespace Go.Proofs.YtcojnjhffmhbiaaDoor
open Go Go.RowKit Go.Maps Go.Shelf Go.Proofs

attribute [local go_sem] Oper.semAt_some

theorem along_succ (X Y M : List Int) (k q : Int) (n : Nat) : alongL X Y M k q (n + 1) = alongL X Y M k q n ++ [mMul k (mAdd (Y.getD n 0) (mEval M (X.getD n 0) q) q) q] := by
  unfold alongL
  rw [List.range_succ, List.map_append]; rfl
theorem along_u64 (X Y M : List Int) (k q : Int) (n : Nat) : U64s (alongL X Y M k q n) := fun z hz => by
  obtain ⟨i, _, rfl⟩ := List.mem_map.1 hz
  exact mMul_u64 ..
/-- what the statement holds, where the numbers are made. -/
def AlongRel (X Y M : List Int) (K q : Int) (w0 wr : World) (v : Value) (n : Nat) : Prop := Own wr w0.heap.size 24 v ((alongL X Y M K q n).map (.int .u64)) ∧ Below w0.heap.size w0 wr
theorem cells_nat {w : World} {A : Option Addr} {W : List Nat} (h : Cells w A (natv W)) : Cells w A ((W.map fun (i : Nat) => (i : Int)).map (.int .i64)) := by
  rw [List.map_map]; exact h
set_option maxRecDepth 100000 in
set_option maxHeartbeats 1600000 in
theorem robustAlong_c (A B : Option Addr) (xs ys : List Int) (ca cb : Nat) (t0 nq : Int) (D : Option Addr) (ms : List Int) (cd : Nat) (k0 : Int) (w : World) (hA : Cells w A (xs.map (.int .u64))) (hB : Cells w B (ys.map (.int .u64))) (hl : xs.length ≤ 9223372036854775807) (hl' : ys.length ≤ 9223372036854775807)
    (hu : U64s xs) (hu' : U64s ys) (ht0 : 0 ≤ t0 ∧ t0 < 256) (hn : U64 nq) (hD : Cells w D (ms.map (.int .u64))) (hlm : ms.length ≤ 9223372036854775807) (hum : U64s ms) (hk0 : U64 k0) (hTab : Tabs w) (hpr : ∀ q : Int, primeV q = true → Go.Psi.Pr q.toNat) :
    Calls Tryd.prog 14 #[.slice A xs.length ca, .slice B ys.length cb, .int .u8 t0, .int .u64 nq, .slice D ms.length cd, .int .u64 k0] w fun e w' => e = .returned (.bool true) ∧ Below w.heap.size w w' := by
  have HA := hid hA
  have HB := hid hB
  have HD := hid hD
  have HT := hid hTab
  have HU := hid hu
  have HU' := hid hu'
  have HUM := hid hum
  obtain ⟨ht1, ht2⟩ := ht0
  have h3 := Int.tmod_eq_emod_of_nonneg (b := 3) ht1
  clear hA hB hD hTab hu hu' hum
  go_enter Tryd.func14, Tryd.ntmps14
  by_cases hc0 : (xs.length : Int) > 60
  case pos =>
    go_wp2_with (fail)
    refine (awake05_c w HT.out).mono ?_
    rintro e w2 ⟨rfl, hb2⟩
    go_wp2
    go_ret
    exact ⟨rfl, hb2⟩
  by_cases hc4 : (ys.length : Int) > 60
  case pos =>
    go_wp2_with (fail)
    refine (awake05_c w HT.out).mono ?_
    rintro e w2 ⟨rfl, hb2⟩
    go_wp2
    go_ret
    exact ⟨rfl, hb2⟩
  by_cases hc9 : (ms.length : Int) > 60
  case pos =>
    go_wp2_with (fail)
    refine (awake05_c w HT.out).mono ?_
    rintro e w2 ⟨rfl, hb2⟩
    go_wp2
    go_ret
    exact ⟨rfl, hb2⟩
  go_wp2_with (fail)
  refine (awake05_c w HT.out).mono ?_
  rintro e w2 ⟨rfl, hb2⟩
  go_wp2_with (fail)
  refine (prime05_c nq hn w2 (HT.out.below hb2)).mono ?_
  rintro e w3 ⟨rfl, hb3⟩
  obtain ⟨hp, hq7⟩ := pickQ_ok hn.lo
  generalize pickQ nq = q at *
  obtain ⟨hok, hq2⟩ := okm_prime hp
  have hqu : U64 q := ⟨by omega, by have := okm_le hok; omega⟩
  replace hb3 := below_next hb2 hb2.size hb3
  clear hb2
  have ht3 : 0 ≤ t0 % 3 ∧ t0 % 3 < 3 := by omega
  obtain ⟨t, htn⟩ : ∃ t : Nat, t0 % 3 = t := ⟨(t0 % 3).toNat, by omega⟩
  rw [htn] at ht3
  have HPR := hid (⟨hp, hpr q hp⟩ : _ ∧ _)
  clear hp hok hpr
  have hkm := Int.tmod_eq_emod_of_nonneg (b := q) hk0.1
  have hq1 : (q == 0) = false := by simp; omega
  obtain ⟨bk, hbk⟩ : ∃ b, (k0 % q == 0) = b := ⟨_, rfl⟩
  have HBK := hid hbk
  go_upto_if 49 with (fail)
  clear hbk
  go_cut [5] from 46 to 49 (fun s wx => ∃ K : Int, s = .int .u64 K ∧ Hid (U64 K ∧ Un K q) ∧ w3 = wx)
  case first =>
    cases bk with
    | true =>
      go_wp2
      go_meet
      case rel => exact ⟨1, rfl, hid ⟨⟨by decide, by decide⟩, Un.one q⟩, rfl⟩
    | false =>
      have HN := hid (show U64 k0 ∧ Un k0 q from ⟨hk0, un_of_pr hq2 HPR.out.2 (by have := HBK.out; simpa using this)⟩)
      go_wp2
      go_meet
      case rel => exact ⟨k0, rfl, HN, rfl⟩
  case rest =>
  obtain ⟨K, rfl, HK, rfl⟩ := hcut
  have hKu := HK.out.1
  go_wp2_with (fail)
  refine (pointsQ_c A B xs ys ca cb q w3 (HA.out.below hb3) (HB.out.below hb3) (by omega) (by omega) HU.out HU'.out hqu (by omega)).mono ?_
  rintro e w4 ⟨v1, v2, X, Y, rfl, hP4, htwo, hb4⟩
  obtain ⟨A1, c1, e1, hX4⟩ := hP4.x.form
  obtain ⟨A2, c2, e2, hY4⟩ := hP4.y.form
  rw [List.length_map] at e1 e2
  subst e1
  subst e2
  have hB4 := below_next hb3 hb3.size hb4
  have HP4 := hid hP4
  have HTW := hid htwo
  have HLN := hid hP4.len
  have hfew := hP4.few
  have hfew' : Y.length ≤ 7 := by have := hP4.len; omega
  clear hP4 hb3 hb4 htwo
  go_wp2_with (fail)
  refine (row05_c D ms cd t q w4 (HD.out.below hB4) (by omega) (by omega) HUM.out (by omega)).mono ?_
  rintro e w5 ⟨vM, rfl, oM, hb5⟩
  have HM9 := hid (show (rowL5 ms t q).length = t + 1 ∧ U64s (rowL5 ms t q) from ⟨rowK5_len _ _ _ _, rowL5_u64 ms t (okm_prime HPR.out.1).1⟩)
  generalize rowL5 ms t q = M at *
  obtain ⟨A6, c6, e6, hM5⟩ := oM.form
  rw [List.length_map] at e6
  subst e6
  have hP5 := HP4.out.below hb5
  have hMl : M.length ≤ 3 := by have := HM9.out.1; omega
  have hX5 := hX4.below hb5
  have hY5 := hY4.below hb5
  have hB5 := below_next hB4 hB4.size hb5
  have HP5 := hid hP5
  have hMu := HM9.out.2
  have HF := hid (⟨hX5, hY5, hM5, hB5, hMu⟩ : _ ∧ _ ∧ _ ∧ _ ∧ _)
  clear hX4 hY4 hb5 hB4 oM hP5 hM5 hX5 hY5 hB5 hMu
  go_wp2
  go_loopw [15, 16] (fun v i wr => ∃ n : Nat, i = .int .i64 (n : Int) ∧ n ≤ X.length ∧ Hid (AlongRel X Y M K q w5 wr v n)) (fun _ i _ => X.length - (intOf i).toNat)
  case atStart => exact ⟨0, rfl, by omega, hid ⟨Own.nil _ _ _, Below.refl _ _⟩⟩
  case round =>
    obtain ⟨n, rfl, hnX, HI⟩ := hrel
    by_cases hlt : n < X.length
    · have hlt' : (n : Int) < (X.length : Int) := by omega
      have hlt2 : (n : Int) < (Y.length : Int) := by have := HLN.out; omega
      obtain ⟨x, hx⟩ := get_of_lt hlt
      obtain ⟨y, hy⟩ := get_of_lt (l := Y) (k := n) (by omega)
      have hux := HP5.out.ux x (List.mem_of_getElem? hx)
      have huy := HP5.out.uy y (List.mem_of_getElem? hy)
      obtain ⟨hO, hbl⟩ := HI.out
      obtain ⟨bx, ox, rfl, cx0⟩ := HF.out.1.at_map hx
      obtain ⟨by_, oy, rfl, cy0⟩ := HF.out.2.1.at_map hy
      have cx := (hbl.cell (lt_of_cell cx0)).trans cx0
      have cy := (hbl.cell (lt_of_cell cy0)).trans cy0
      have hcM := HF.out.2.2.1.below hbl
      have HMU := hid HF.out.2.2.2.2
      have HS := hid (show (alongL X Y M K q (n + 1)).map (Value.int .u64) = (alongL X Y M K q n).map (.int .u64) ++ [.int .u64 (mMul K (mAdd y (mEval M x q) q) q)] by
        rw [along_succ, List.map_append, List.getD_eq_getElem?_getD, List.getD_eq_getElem?_getD, hx, hy]; rfl)
      have hln : ((alongL X Y M K q n).map (Value.int .u64)).length ≤ 7 := by rw [List.length_map, along_len]; omega
      have HO := hid hO
      have HBL := hid hbl
      have HCM := hid hcM
      clear hx hy cx0 cy0 hO hcM HI hbl
      go_wp2
      refine Rg.wp_region (l := [_, _, _, _, _, _, _, _, _, _, _, _, _, _, _, _, _, _]) (tail := [_, _]) (Rg.grows _ 20) [some 67, some 68, some 69, some 70, some 71, some 72, some 73, some 74, some 75, some 76, some 77, some 78, some 79, some 80, some 81, some 82, some 83, some 84, some 85, some 15] 126 (by kernel_rfl) (by kernel_rfl) (by kernel_rfl) rfl (Rg.grows_fair _ _) (Rg.keep_drew _) (trivial) ?_
      refine' Rg.op_is _ [] rfl rfl (by kernel_rfl) ?_ ?_
      rotate_left
      · intro wx hb
        refine Rg.from_nil fun T hT => ?_
        go_wp2
        refine hT _ _ rfl (by first | exact Rg.Keep.refl _ | exact below_of_dr hw2 | exact hw2 | exact (Below.refl _ _).alloc (Nat.le_refl _) _) ?_
        simp only [Rg.last, List.getElem?_toArray, List.getElem?_cons_succ, List.getElem?_cons_zero, Option.getD_some]
        rfl
      refine' Rg.op_is _ [] rfl rfl (by kernel_rfl) ?_ ?_
      rotate_left
      · intro wx hb
        refine Rg.from_nil fun T hT => ?_
        go_wp2
        refine hT _ _ rfl (by first | exact Rg.Keep.refl _ | exact below_of_dr hw2 | exact hw2 | exact (Below.refl _ _).alloc (Nat.le_refl _) _) ?_
        simp only [Rg.last, List.getElem?_toArray, List.getElem?_cons_succ, List.getElem?_cons_zero, Option.getD_some]
        rfl
      refine' Rg.op_is _ [] rfl rfl (by kernel_rfl) ?_ ?_
      rotate_left
      · intro wx hb
        refine Rg.from_nil fun T hT => ?_
        go_wp2
        refine hT _ _ rfl (by first | exact Rg.Keep.refl _ | exact below_of_dr hw2 | exact hw2 | exact (Below.refl _ _).alloc (Nat.le_refl _) _) ?_
        simp only [Rg.last, List.getElem?_toArray, List.getElem?_cons_succ, List.getElem?_cons_zero, Option.getD_some]
        rfl
      refine' Rg.op_is _ [] rfl rfl (by kernel_rfl) ?_ ?_
      rotate_left
      · intro wx hb
        refine Rg.from_nil fun T hT => ?_
        go_wp2
        refine hT _ _ rfl (by first | exact Rg.Keep.refl _ | exact below_of_dr hw2 | exact hw2 | exact (Below.refl _ _).alloc (Nat.le_refl _) _) ?_
        simp only [Rg.last, List.getElem?_toArray, List.getElem?_cons_succ, List.getElem?_cons_zero, Option.getD_some]
        rfl
      refine Rg.op_is (.pointer (some ⟨by_, oy + n, none⟩)) [2, 3] rfl rfl (by kernel_rfl) ?_ ?_
      · intro wx hb
        refine Rg.from_is (some 69) rfl rfl ?_
        refine Rg.from_is (some 70) rfl rfl ?_
        refine Rg.from_nil fun T hT => ?_
        go_wp2
        exact hT _ _ rfl (by first | exact Rg.Keep.refl _ | exact below_of_dr hw2 | exact hw2 | exact (Below.refl _ _).alloc (Nat.le_refl _) _) (by first | rfl | exact congrArg _ (by decide))
      refine Rg.op_is (.int .u64 y) [4] rfl rfl (by kernel_rfl) ?_ ?_
      · intro wx hb
        refine Rg.from_is (some 71) rfl rfl ?_
        refine Rg.from_nil fun T hT => ?_
        have g1 := (hb.cell (lt_of_cell cy)).trans cy
        go_wp2
        exact hT _ _ rfl (by first | exact Rg.Keep.refl _ | exact below_of_dr hw2 | exact hw2 | exact (Below.refl _ _).alloc (Nat.le_refl _) _) (by first | rfl | exact congrArg _ (by decide))
      refine' Rg.op_is _ [] rfl rfl (by kernel_rfl) ?_ ?_
      rotate_left
      · intro wx hb
        refine Rg.from_nil fun T hT => ?_
        go_wp2
        refine hT _ _ rfl (by first | exact Rg.Keep.refl _ | exact below_of_dr hw2 | exact hw2 | exact (Below.refl _ _).alloc (Nat.le_refl _) _) ?_
        simp only [Rg.last, List.getElem?_toArray, List.getElem?_cons_succ, List.getElem?_cons_zero, Option.getD_some]
        rfl
      refine' Rg.op_is _ [] rfl rfl (by kernel_rfl) ?_ ?_
      rotate_left
      · intro wx hb
        refine Rg.from_nil fun T hT => ?_
        go_wp2
        refine hT _ _ rfl (by first | exact Rg.Keep.refl _ | exact below_of_dr hw2 | exact hw2 | exact (Below.refl _ _).alloc (Nat.le_refl _) _) ?_
        simp only [Rg.last, List.getElem?_toArray, List.getElem?_cons_succ, List.getElem?_cons_zero, Option.getD_some]
        rfl
      refine' Rg.op_is _ [] rfl rfl (by kernel_rfl) ?_ ?_
      rotate_left
      · intro wx hb
        refine Rg.from_nil fun T hT => ?_
        go_wp2
        refine hT _ _ rfl (by first | exact Rg.Keep.refl _ | exact below_of_dr hw2 | exact hw2 | exact (Below.refl _ _).alloc (Nat.le_refl _) _) ?_
        simp only [Rg.last, List.getElem?_toArray, List.getElem?_cons_succ, List.getElem?_cons_zero, Option.getD_some]
        rfl
      refine Rg.op_is (.pointer (some ⟨bx, ox + n, none⟩)) [7, 8] rfl rfl (by kernel_rfl) ?_ ?_
      · intro wx hb
        refine Rg.from_is (some 74) rfl rfl ?_
        refine Rg.from_is (some 75) rfl rfl ?_
        refine Rg.from_nil fun T hT => ?_
        go_wp2
        exact hT _ _ rfl (by first | exact Rg.Keep.refl _ | exact below_of_dr hw2 | exact hw2 | exact (Below.refl _ _).alloc (Nat.le_refl _) _) (by first | rfl | exact congrArg _ (by decide))
      refine Rg.op_is (.int .u64 x) [9] rfl rfl (by kernel_rfl) ?_ ?_
      · intro wx hb
        refine Rg.from_is (some 76) rfl rfl ?_
        refine Rg.from_nil fun T hT => ?_
        have g1 := (hb.cell (lt_of_cell cx)).trans cx
        go_wp2
        exact hT _ _ rfl (by first | exact Rg.Keep.refl _ | exact below_of_dr hw2 | exact hw2 | exact (Below.refl _ _).alloc (Nat.le_refl _) _) (by first | rfl | exact congrArg _ (by decide))
      refine' Rg.op_is _ [] rfl rfl (by kernel_rfl) ?_ ?_
      rotate_left
      · intro wx hb
        refine Rg.from_nil fun T hT => ?_
        go_wp2
        refine hT _ _ rfl (by first | exact Rg.Keep.refl _ | exact below_of_dr hw2 | exact hw2 | exact (Below.refl _ _).alloc (Nat.le_refl _) _) ?_
        simp only [Rg.last, List.getElem?_toArray, List.getElem?_cons_succ, List.getElem?_cons_zero, Option.getD_some]
        rfl
      refine Rg.op_is (.int .u64 (mEval M x q)) [6, 10, 11] rfl rfl (by kernel_rfl) ?_ ?_
      · intro wx hb
        refine Rg.from_is (some 73) rfl rfl ?_
        refine Rg.from_is (some 77) rfl rfl ?_
        refine Rg.from_is (some 78) rfl rfl ?_
        refine Rg.from_nil fun T hT => ?_
        go_wp2_with (go_at_call 50; refine (eval_c _ _ _ _ _ _ (HCM.out.below hb) (by omega) HMU.out hux hqu).mono ?_; rintro e w9 ⟨rfl, hw9⟩)
        exact hT _ _ rfl (below_of_dr hw9) rfl
      refine' Rg.op_is _ [] rfl rfl (by kernel_rfl) ?_ ?_
      rotate_left
      · intro wx hb
        refine Rg.from_nil fun T hT => ?_
        go_wp2
        refine hT _ _ rfl (by first | exact Rg.Keep.refl _ | exact below_of_dr hw2 | exact hw2 | exact (Below.refl _ _).alloc (Nat.le_refl _) _) ?_
        simp only [Rg.last, List.getElem?_toArray, List.getElem?_cons_succ, List.getElem?_cons_zero, Option.getD_some]
        rfl
      refine Rg.op_is (.int .u64 (mAdd y (mEval M x q) q)) [5, 12, 13] rfl rfl (by kernel_rfl) ?_ ?_
      · intro wx hb
        refine Rg.from_is (some 72) rfl rfl ?_
        refine Rg.from_is (some 79) rfl rfl ?_
        refine Rg.from_is (some 80) rfl rfl ?_
        refine Rg.from_nil fun T hT => ?_
        go_wp2_with (go_at_call 30; refine (add_c _ _ _ huy (mEval_u64 _ _ _) hqu _).mono ?_; rintro e w9 ⟨rfl, hw9⟩)
        exact hT _ _ rfl (below_of_dr hw9) rfl
      refine' Rg.op_is _ [] rfl rfl (by kernel_rfl) ?_ ?_
      rotate_left
      · intro wx hb
        refine Rg.from_nil fun T hT => ?_
        go_wp2
        refine hT _ _ rfl (by first | exact Rg.Keep.refl _ | exact below_of_dr hw2 | exact hw2 | exact (Below.refl _ _).alloc (Nat.le_refl _) _) ?_
        simp only [Rg.last, List.getElem?_toArray, List.getElem?_cons_succ, List.getElem?_cons_zero, Option.getD_some]
        rfl
      refine Rg.op_is (.int .u64 (mMul K (mAdd y (mEval M x q) q) q)) [1, 14, 15] rfl rfl (by kernel_rfl) ?_ ?_
      · intro wx hb
        refine Rg.from_is (some 68) rfl rfl ?_
        refine Rg.from_is (some 81) rfl rfl ?_
        refine Rg.from_is (some 82) rfl rfl ?_
        refine Rg.from_nil fun T hT => ?_
        go_wp2_with (go_at_call 29; refine (mul_c _ _ _ hKu (mAdd_u64 _ _ _) hqu _).mono ?_; rintro e w9 ⟨rfl, hw9⟩)
        exact hT _ _ rfl (below_of_dr hw9) rfl
      refine Rg.op_of (fun w' u => ∃ g, u = Value.slice (some ⟨g, 0, none⟩) 1 1 ∧ Row1 w' g 24 [.int .u64 (mMul K (mAdd y (mEval M x q) q) q)]) [16] rfl ?_ ?_ rfl (by kernel_rfl) ?_ ?_
      · exact fun w1 w2 v hk ⟨g, e, h⟩ => ⟨g, e, h.below hk⟩
      · exact fun w1 w2 v hk ⟨g, e, h⟩ => ⟨g, e, h.below hk⟩
      · intro wx hb
        refine Rg.from_is (some 83) rfl rfl ?_
        refine Rg.from_nil fun T hT => ?_
        go_wp2
        exact hT _ _ rfl (below_alloc _ _) ⟨_, rfl, row1_new wx [_] 24⟩
      refine Rg.walk_nil [0, 1, 2, 3, 4, 5, 6, 7, 8, 9, 10, 11, 12, 13, 14, 15, 16, 17] (by kernel_rfl) ?_
      intro wx hb
      refine Rg.from_is (some 67) rfl rfl ?_
      refine Rg.from_is (some 68) rfl rfl ?_
      refine Rg.from_is (some 69) rfl rfl ?_
      refine Rg.from_is (some 70) rfl rfl ?_
      refine Rg.from_is (some 71) rfl rfl ?_
      refine Rg.from_is (some 72) rfl rfl ?_
      refine Rg.from_is (some 73) rfl rfl ?_
      refine Rg.from_is (some 74) rfl rfl ?_
      refine Rg.from_is (some 75) rfl rfl ?_
      refine Rg.from_is (some 76) rfl rfl ?_
      refine Rg.from_is (some 77) rfl rfl ?_
      refine Rg.from_is (some 78) rfl rfl ?_
      refine Rg.from_is (some 79) rfl rfl ?_
      refine Rg.from_is (some 80) rfl rfl ?_
      refine Rg.from_is (some 81) rfl rfl ?_
      refine Rg.from_is (some 82) rfl rfl ?_
      refine Rg.from_is (some 83) rfl rfl ?_
      refine Rg.from_of (some 84) rfl rfl fun v84 h84 => ?_
      refine Rg.from_nil ?_
      simp only [List.map, Act.put, List.setIfInBounds_toArray, List.set_cons_zero, List.set_cons_succ]
      obtain ⟨g30, rfl, hg30⟩ := h84
      have hbw := HBL.out.size
      refine wpList_push_at elt_u64 _ rfl _ _ rfl w5.heap.size (HO.out.below hb) rfl (.int .u64 (mMul K (mAdd y (mEval M x q) q) q)) g30 rfl hg30 rfl (by omega) (by omega) (Nat.le_trans hbw hb.size) ?_
      intro v' w' hown' hgr _
      have HN := hid (show AlongRel X Y M K q w5 w' v' (n + 1) from ⟨by rw [HS.out]; exact hown', (below_next HBL.out hbw hb).grown hgr (Nat.le_trans hbw hb.size) fun g e => (HO.out.block g e).1⟩)
      clear hown' hgr hb hg30 cx cy
      go_wp2
      go_roundw
      case rel => exact ⟨n + 1, by go_num, by omega, HN⟩
      case measure => simp [intOf]; omega
    · obtain rfl : n = X.length := by omega
      have hlt' : ¬ (X.length : Int) < (X.length : Int) := by omega
      obtain ⟨hO, hbl⟩ := HI.out
      obtain ⟨A7, c7, e7, hZ6⟩ := hO.form
      rw [List.length_map, along_len] at e7
      subst e7
      have hX6 := HF.out.1.below hbl
      have hY6 := HF.out.2.1.below hbl
      have hM6 := HF.out.2.2.1.below hbl
      have hB6 := below_next HF.out.2.2.2.1 HF.out.2.2.2.1.size hbl
      have HMU := hid HF.out.2.2.2.2
      have HZ := hid (⟨along_len X Y M K q X.length, along_u64 X Y M K q X.length, fun C W er h => dec_along (by omega) HPR.out.1 (HTW.out.apart hq2 HPR.out.2) hfew HLN.out HK.out.2 HM9.out.1 h⟩ :
        (alongL X Y M K q X.length).length = X.length ∧ U64s (alongL X Y M K q X.length) ∧ ∀ (C : List Int) (W : List Nat) (er : Int), decR X Y t q = (C, W, er) → decR X (alongL X Y M K q X.length) t q = (if er = 0 then pScale (pSum C M q) K q else [], W, er))
      generalize alongL X Y M K q X.length = Z at *
      have HW := hid (⟨hX6, hY6, hM6, hZ6, hB6⟩ : _ ∧ _ ∧ _ ∧ _ ∧ _)
      clear hX6 hY6 hM6 hZ6 hB6 hbl hO HI
      generalize wr = w6 at *
      go_wp2_with (fail)
      refine (dec_c A1 A2 X Y c1 c2 t q w6 HW.out.1 HW.out.2.1 (by omega) (by omega) HP5.out.ux HP5.out.uy ⟨by omega, by omega⟩ hqu (HT.out.below HW.out.2.2.2.2)).mono ?_
      have HD0 := hid (show decR X Y t q = decR X Y t q from rfl)
      generalize hdr : decR X Y t q = r at *
      have HDR := hid hdr
      clear hdr HD0
      obtain ⟨C, W, er⟩ := r
      rintro e w7 ⟨v3, v4, rfl, oC, oW, hb7⟩
      dsimp only at oC oW ⊢
      have hdz := HZ.out.2.2 C W er rfl
      have hcases := dec_cases (by omega) HPR.out.1 (HTW.out.apart hq2 HPR.out.2) hfew HLN.out HDR.out
      obtain ⟨A3, c3, e3, hC7⟩ := oC.form
      obtain ⟨A4, c4, e4, hW7⟩ := oW.form
      rw [List.length_map] at e3 e4
      subst e3
      subst e4
      have hX7 := HW.out.1.below hb7
      have hM7 := HW.out.2.2.1.below hb7
      have hZ7 := HW.out.2.2.2.1.below hb7
      have hB7 := below_next HW.out.2.2.2.2 HW.out.2.2.2.2.size hb7
      have hD2 := dec_c A1 A7 X Z c1 c7 t q w7 hX7 hZ7 (by omega) (by have := HZ.out.1; omega) HP5.out.ux HZ.out.2.1 ⟨by omega, by omega⟩ hqu (HT.out.below hB7)
      rw [hdz, HZ.out.1] at hD2
      have HD2 := hid hD2
      have HW7 := hid (⟨hC7, hW7, hM7, hB7⟩ : _ ∧ _ ∧ _ ∧ _)
      clear hC7 hW7 hX7 hM7 hZ7 hB7 hD2 hdz hb7 oC oW HW
      go_wp2_with (fail)
      refine HD2.out.mono ?_
      rintro e w8 ⟨v5, v6, rfl, oD, oV, hb8⟩
      dsimp only at oD oV ⊢
      obtain ⟨A5, c5, e5, hD8⟩ := oD.form
      obtain ⟨A8, c8, e8, hV8⟩ := oV.form
      rw [List.length_map] at e5 e8
      subst e5
      subst e8
      have hWl := oV.len_le
      rw [List.length_map] at hWl
      have hC8 := HW7.out.1.below hb8
      have hW8 := HW7.out.2.1.below hb8
      have hM8 := HW7.out.2.2.1.below hb8
      have hB8 := below_next HW7.out.2.2.2 HW7.out.2.2.2.size hb8
      have hI := ints5_c A4 A8 (W.map fun (i : Nat) => (i : Int)) (W.map fun (i : Nat) => (i : Int)) c4 c8 w8 (cells_nat hW8) (cells_nat hV8) (by rw [List.length_map]; exact hWl) (by rw [List.length_map]; exact hWl)
      rw [List.length_map, decide_eq_true rfl] at hI
      have HI2 := hid hI
      have HW8 := hid (⟨hC8, hM8, hD8, hB8⟩ : _ ∧ _ ∧ _ ∧ _)
      clear hI hC8 hW8 hM8 hD8 hB8 hV8 hb8 oD oV HD2 HW7 hWl
      have hee : (er != er) = false := by simp
      rcases hcases with ⟨rfl, rfl, rfl, _⟩ | ⟨rfl, hWe, hCt, hCr, hfit, _⟩
      · go_wp2_with (fail)
        refine HI2.out.mono ?_
        rintro e w9 ⟨rfl, hd9⟩
        have HE := hid (below_dr HW8.out.2.2.2 hd9)
        clear hd9
        go_wp2
        go_ret
        exact ⟨rfl, HE.out⟩
      · have HCU := hid (red_u64 (okm_prime HPR.out.1).1 hCr)
        have hC1 : C.length ≤ 1000 := by omega
        clear hWe hCt hCr hfit
        rw [if_pos rfl] at HW8 ⊢
        go_wp2_with (fail)
        refine HI2.out.mono ?_
        rintro e w9 ⟨rfl, hd9⟩
        have hC9 := HW8.out.1.dr hd9
        have hM9 := HW8.out.2.1.dr hd9
        have hD9 := HW8.out.2.2.1.dr hd9
        have hB9 := below_dr HW8.out.2.2.2 hd9
        have hsum := psum_c A3 A6 C M c3 c6 q w9 hC9 hM9 (by omega) (by omega) HCU.out HMU.out hqu
        have HSUM := hid hsum
        have HW9 := hid (⟨hD9, hB9⟩ : _ ∧ _)
        clear hd9 hC9 hM9 hD9 hB9 hsum HW8
        go_wp2_with (fail)
        refine HSUM.out.mono ?_
        rintro e w10 ⟨v9, rfl, o9, hb10⟩
        have HSL := hid (show (pSum C M q).length ≤ 1000000 ∧ U64s (pSum C M q) from ⟨by rw [sum_len (okm_prime HPR.out.1).1]; omega, pSum_u64 _ _ _⟩)
        have HSC := hid (show (pScale (pSum C M q) K q).length = (pSum C M q).length from scale_len (okm_prime HPR.out.1).1 _ _)
        obtain ⟨A9, c9, e9, h10⟩ := o9.form
        rw [List.length_map] at e9
        subst e9
        have hD10 := HW9.out.1.below hb10
        have hB10 := below_next HW9.out.2 HW9.out.2.size hb10
        have hsc := pscale_c A9 (pSum C M q) c9 K q w10 h10 (by have := HSL.out.1; omega) HSL.out.2 hKu hqu
        have HSCL := hid hsc
        have HW10 := hid (⟨hD10, hB10⟩ : _ ∧ _)
        clear hsc hD10 hB10 h10 o9 hb10 HW9 HSUM
        go_wp2_with (fail)
        refine HSCL.out.mono ?_
        rintro e w11 ⟨v11, rfl, o11, hb11⟩
        obtain ⟨A11, c11, e11, h11⟩ := o11.form
        rw [List.length_map] at e11
        subst e11
        have hD11 := HW10.out.1.below hb11
        have hB11 := below_next HW10.out.2 HW10.out.2.size hb11
        have hnn := numbersR_c A5 A11 (pScale (pSum C M q) K q) (pScale (pSum C M q) K q) c5 c11 w11 hD11 h11 (by have := HSC.out; have := HSL.out.1; omega) (by have := HSC.out; have := HSL.out.1; omega)
        rw [decide_eq_true rfl] at hnn
        have HNN := hid hnn
        have HB11 := hid hB11
        clear hnn hD11 h11 hB11 hb11 o11 HSCL HW10
        generalize pScale (pSum C M q) K q = R at *
        go_wp2_with (fail)
        refine HNN.out.mono ?_
        rintro e w12 ⟨rfl, hd12⟩
        have HE := hid (below_dr HB11.out hd12)
        clear hd12
        go_wp2
        go_ret
        exact ⟨rfl, HE.out⟩
end Go.Proofs.YtcojnjhffmhbiaaDoor
