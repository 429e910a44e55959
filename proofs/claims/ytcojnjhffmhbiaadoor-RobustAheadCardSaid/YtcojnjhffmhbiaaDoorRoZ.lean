/-
  RobustAhead: what the program does.
-/
import Derived.Test.YtcojnjhffmhbiaaDoorRobQ1
import Derived.Test.YtcojnjhffmhbiaaDoorRobQ2
import Derived.Test.YtcojnjhffmhbiaaDoorRobQ3
import Derived.Test.YtcojnjhffmhbiaaDoorRobQ4
import Derived.Test.YtcojnjhffmhbiaaDoorRobQ5
import Derived.Test.YtcojnjhffmhbiaaDoorRobQ6
import Derived.Test.YtcojnjhffmhbiaaDoorRobQ7
import Derived.Test.YtcojnjhffmhbiaaDoorRobQ8
import Derived.Test.YtcojnjhffmhbiaaDoorRobQ9
import Derived.Test.YtcojnjhffmhbiaaDoorRobQ10
import Derived.Test.YtcojnjhffmhbiaaDoorRobQ11
import Derived.Test.YtcojnjhffmhbiaaDoorRoY
namespace Go.Proofs.YtcojnjhffmhbiaaDoor
open Go Go.RowKit Go.Maps Go.Shelf Go.Proofs

attribute [local go_sem] Oper.semAt_some

/-- points that were picked. -/
def PickRel (w0 wr : World) (v1 v2 : Value) (n : Nat) : Prop := ∃ P R, PtsR wr w0.heap.size v1 v2 P R ∧ P.length = n ∧ Below w0.heap.size w0 wr
def AheadRel (t : Nat) (q : Int) (A : Option Addr) (w0 wx : World) : Prop := ∃ C0 : List Int, C0.length = t + 1 ∧ C0.map (· % q) = C0 ∧ U64s C0 ∧ Cells wx A (C0.map (.int .u64)) ∧ Below w0.heap.size w0 wx
def SameTill (a b : List Nat) (n : Nat) : Prop := ∀ i : Nat, i < n → a[i]? = b[i]?
theorem ahead_step {C c : List Int} {best own : List Nat} {t n b o : Nat} (h : C = c ∧ best = own ∨ ∃ j a b : Nat, j < t + 1 ∧ (∀ i : Nat, i < j → best[i]? = own[i]?) ∧ best[j]? = some a ∧ own[j]? = some b ∧ a < b) (he : SameTill best own n) (hb : best[n]? = some b) (ho : own[n]? = some o) : b ≤ o := by
  rcases h with ⟨_, rfl⟩ | ⟨j, a, b', _, h1, h2, h3, h4⟩
  · rw [hb] at ho
    obtain rfl := Option.some.inj ho
    exact Nat.le_refl _
  · rcases Nat.lt_trichotomy n j with hn | rfl | hn
    · have := h1 n hn
      rw [hb, ho] at this
      obtain rfl := Option.some.inj this
      exact Nat.le_refl _
    · rw [hb] at h2
      rw [ho] at h3
      obtain rfl := Option.some.inj h2
      obtain rfl := Option.some.inj h3
      omega
    · have := he j hn
      rw [h2, h3] at this
      have := Option.some.inj this
      omega
theorem ahead_end {C c : List Int} {best own : List Nat} {t : Nat} (h : C = c ∧ best = own ∨ ∃ j a b : Nat, j < t + 1 ∧ (∀ i : Nat, i < j → best[i]? = own[i]?) ∧ best[j]? = some a ∧ own[j]? = some b ∧ a < b) (he : SameTill best own (2 * t + 1)) : C = c := by
  rcases h with ⟨h, _⟩ | ⟨j, a, b', hj, h1, h2, h3, h4⟩
  · exact h
  · have := he j (by omega)
    rw [h2, h3] at this
    have := Option.some.inj this
    omega
theorem SameTill.step {a b : List Nat} {n x : Nat} (h : SameTill a b n) (h1 : a[n]? = some x) (h2 : b[n]? = some x) : SameTill a b (n + 1) := fun i hi => by
  rcases Nat.lt_or_ge i n with h3 | h3
  · exact h i h3
  · obtain rfl : i = n := by omega
    rw [h1, h2]
set_option maxRecDepth 100000 in
set_option maxHeartbeats 1600000 in
theorem robustAhead_c (A B : Option Addr) (xs ys : List Int) (ca cb : Nat) (t0 nq : Int) (D : Option Addr) (ms : List Int) (cd : Nat) (E : Option Addr) (pk : List Int) (ce : Nat) (w : World) (hA : Cells w A (xs.map (.int .u64))) (hB : Cells w B (ys.map (.int .u64))) (hl : xs.length ≤ 9223372036854775807) (hl' : ys.length ≤ 9223372036854775807)
    (hu : U64s xs) (hu' : U64s ys) (ht0 : 0 ≤ t0 ∧ t0 < 256) (hn : U64 nq) (hD : Cells w D (ms.map (.int .u64))) (hlm : ms.length ≤ 9223372036854775807) (hum : U64s ms) (hE : Cells w E (pk.map (.int .u8))) (hle : pk.length ≤ 9223372036854775807) (hue : ∀ z ∈ pk, 0 ≤ z ∧ z < 256) (hTab : Tabs w) (hpr : ∀ q : Int, primeV q = true → Go.Psi.Pr q.toNat) :
    Calls Tryd.prog 15 #[.slice A xs.length ca, .slice B ys.length cb, .int .u8 t0, .int .u64 nq, .slice D ms.length cd, .slice E pk.length ce] w fun e w' => e = .returned (.bool true) ∧ Below w.heap.size w w' := by
  have HA := hid hA
  have HB := hid hB
  have HD := hid hD
  have HE := hid hE
  have HT := hid hTab
  have HU := hid hu
  have HU' := hid hu'
  have HUM := hid hum
  have HUE := hid hue
  obtain ⟨ht1, ht2⟩ := ht0
  have h3 := Int.tmod_eq_emod_of_nonneg (b := 3) ht1
  clear hA hB hD hE hTab hu hu' hum hue
  go_enter Tryd.func15, Tryd.ntmps15
  by_cases hc0 : (xs.length : Int) > 60
  case pos =>
    go_wp2_with (fail)
    refine (awake05_c w HT.out).mono ?_
    rintro e w2 ⟨rfl, hb2⟩
    go_wp2
    go_ret
    exact ⟨rfl, hb2⟩
  by_cases hc4 : (ys.length : Int) > 60
  case pos =>
    go_wp2_with (fail)
    refine (awake05_c w HT.out).mono ?_
    rintro e w2 ⟨rfl, hb2⟩
    go_wp2
    go_ret
    exact ⟨rfl, hb2⟩
  by_cases hc9 : (ms.length : Int) > 60
  case pos =>
    go_wp2_with (fail)
    refine (awake05_c w HT.out).mono ?_
    rintro e w2 ⟨rfl, hb2⟩
    go_wp2
    go_ret
    exact ⟨rfl, hb2⟩
  by_cases hc10 : (pk.length : Int) > 60
  case pos =>
    go_wp2_with (fail)
    refine (awake05_c w HT.out).mono ?_
    rintro e w2 ⟨rfl, hb2⟩
    go_wp2
    go_ret
    exact ⟨rfl, hb2⟩
  go_wp2_with (fail)
  refine (awake05_c w HT.out).mono ?_
  rintro e w2 ⟨rfl, hb2⟩
  go_wp2_with (fail)
  refine (prime05_c nq hn w2 (HT.out.below hb2)).mono ?_
  rintro e w3 ⟨rfl, hb3⟩
  obtain ⟨hp, hq7⟩ := pickQ_ok hn.lo
  generalize pickQ nq = q at *
  obtain ⟨hok, hq2⟩ := okm_prime hp
  have hqu : U64 q := ⟨by omega, by have := okm_le hok; omega⟩
  replace hb3 := below_next hb2 hb2.size hb3
  clear hb2
  have ht3 : 0 ≤ t0 % 3 ∧ t0 % 3 < 3 := by omega
  obtain ⟨t, htn⟩ : ∃ t : Nat, t0 % 3 = t := ⟨(t0 % 3).toNat, by omega⟩
  rw [htn] at ht3
  have HPR := hid (⟨hp, hpr q hp⟩ : _ ∧ _)
  clear hp hok hpr
  go_wp2_with (fail)
  refine (pointsQ_c A B xs ys ca cb q w3 (HA.out.below hb3) (HB.out.below hb3) (by omega) (by omega) HU.out HU'.out hqu (by omega)).mono ?_
  rintro e w4 ⟨v1, v2, X, Y, rfl, hP4, htwo, hb4⟩
  obtain ⟨A1, c1, e1, hX4⟩ := hP4.x.form
  obtain ⟨A2, c2, e2, hY4⟩ := hP4.y.form
  rw [List.length_map] at e1 e2
  subst e1
  subst e2
  have hB4 := below_next hb3 hb3.size hb4
  have HP4 := hid hP4
  have HTW := hid htwo
  have HLN := hid hP4.len
  have hfew := hP4.few
  have hfew' : Y.length ≤ 7 := by have := hP4.len; omega
  clear hP4 hb3 hb4 htwo
  go_wp2_with (fail)
  refine (row05_c D ms cd t q w4 (HD.out.below hB4) (by omega) (by omega) HUM.out (by omega)).mono ?_
  rintro e w5 ⟨vM, rfl, oM, hb5⟩
  have HM9 := hid (show (rowL5 ms t q).length = t + 1 ∧ (rowL5 ms t q).map (· % q) = rowL5 ms t q ∧ U64s (rowL5 ms t q) from ⟨rowK5_len _ _ _ _, rowL5_red _ _ _, rowL5_u64 ms t (okm_prime HPR.out.1).1⟩)
  generalize rowL5 ms t q = M at *
  obtain ⟨A6, c6, e6, hM5⟩ := oM.form
  rw [List.length_map, HM9.out.1] at e6
  subst e6
  have hP5 := HP4.out.below hb5
  have hX5 := hX4.below hb5
  have hY5 := hY4.below hb5
  have hB5 := below_next hB4 hB4.size hb5
  have HP5 := hid hP5
  have HF := hid (⟨hX5, hY5, hM5, hB5⟩ : _ ∧ _ ∧ _ ∧ _)
  clear hX4 hY4 hb5 hB4 oM hP5 hM5 hX5 hY5 hB5 HP4
  go_upto_region 6 with (fail)
  go_cut [73] from 65 to 73 (fun s wx => ∃ bc : Bool, s = .bool bc ∧ Hid (bc = true → t < pk.length ∧ 0 < X.length) ∧ w5 = wx)
  case first =>
    by_cases hc1 : t < pk.length
    · have hc1' : (pk.length : Int) > (t : Int) := by omega
      by_cases hc2 : 0 < X.length
      · have hc2' : (X.length : Int) > 0 := by omega
        go_wp2
        go_meet
        case rel => exact ⟨true, rfl, hid fun _ => ⟨hc1, hc2⟩, rfl⟩
      · have hc2' : ¬ (X.length : Int) > 0 := by omega
        go_wp2
        go_meet
        case rel => exact ⟨false, rfl, hid fun h => (by cases h), rfl⟩
    · have hc1' : ¬ (pk.length : Int) > (t : Int) := by omega
      go_wp2
      go_meet
      case rel => exact ⟨false, rfl, hid fun h => (by cases h), rfl⟩
  case rest =>
  obtain ⟨bc, rfl, HC, rfl⟩ := hcut
  go_upto_if 73 with (fail)
  go_cut [4, 15, 16, 17, 18, 19] from 74 to 116 (fun s4 _ _ _ _ _ wx => ∃ (A7 : Option Addr) (c7 : Nat), s4 = .slice A7 (t + 1) c7 ∧ Hid (AheadRel t q A7 w5 wx))
  case first =>
    cases bc with
    | true =>
      obtain ⟨hc1, hc2⟩ := HC.out rfl
      have hc1' : (pk.length : Int) > (t : Int) := by omega
      have hc2' : (X.length : Int) > 0 := by omega
      have hz1 : ((X.length : Int) == 0) = false := by rw [beq_eq_false_iff_ne]; omega
      have hz2 : ¬ (X.length : Int) = 0 := by omega
      have hz3 : ¬ X = [] := fun e => by rw [e] at hc2; simp at hc2
      go_wp2
      go_loopw [15, 16, 17] (fun v1 v2 i wr => ∃ n : Nat, i = .int .i64 (n : Int) ∧ n ≤ t + 1 ∧ Hid (PickRel w5 wr v1 v2 n)) (fun _ _ i _ => t + 1 - (intOf i).toNat)
      case atStart => exact ⟨0, rfl, by omega, hid ⟨[], [], ⟨Own.nil _ _ _, Own.nil _ _ _, fun g h => (by cases h), rfl, by simp, fun z h => (by cases h), fun z h => (by cases h)⟩, rfl, Below.refl _ _⟩⟩
      case round =>
        obtain ⟨n, rfl, hnt, HI⟩ := hrel
        by_cases hlt : n ≤ t
        · have hlt' : (n : Int) ≤ (t : Int) := by omega
          obtain ⟨P, R, hPR, hPl, hbl⟩ := HI.out
          obtain ⟨A8, c8, e8, hc8⟩ := hPR.x.form
          rw [List.length_map, hPl] at e8
          subst e8
          have hnp : n < pk.length := by omega
          have hnp' : (n : Int) < (pk.length : Int) := by omega
          obtain ⟨z, hz⟩ := get_of_lt hnp
          obtain ⟨hz0, hz9⟩ := HUE.out z (List.mem_of_getElem? hz)
          have hm1 := Int.emod_nonneg z (show (X.length : Int) ≠ 0 by omega)
          have hm2 := Int.emod_lt_of_pos z (show (0 : Int) < X.length by omega)
          obtain ⟨kk, hkk⟩ : ∃ kk : Nat, z.tmod (X.length : Int) = kk := ⟨(z % X.length).toNat, by rw [Int.tmod_eq_emod_of_nonneg hz0]; omega⟩
          have hkx : kk < X.length := by rw [Int.tmod_eq_emod_of_nonneg hz0] at hkk; omega
          have hkx' : (kk : Int) < (X.length : Int) := by omega
          have hky' : (kk : Int) < (Y.length : Int) := by have := HLN.out; omega
          obtain ⟨x, hx⟩ := get_of_lt hkx
          obtain ⟨y, hy⟩ := get_of_lt (l := Y) (k := kk) (by have := HLN.out; omega)
          have hux := HP5.out.ux x (List.mem_of_getElem? hx)
          have huy := HP5.out.uy y (List.mem_of_getElem? hy)
          obtain ⟨bx, ox, rfl, cx0⟩ := HF.out.1.at_map hx
          obtain ⟨by_, oy, rfl, cy0⟩ := HF.out.2.1.at_map hy
          obtain ⟨be, oe, rfl, ce0⟩ := (HE.out.below HF.out.2.2.2).at_map hz
          have cx := (hbl.cell (lt_of_cell cx0)).trans cx0
          have cy := (hbl.cell (lt_of_cell cy0)).trans cy0
          have cE := (hbl.cell (lt_of_cell ce0)).trans ce0
          have hX := hPR.x
          have hY := hPR.y
          have hXY := hPR.ne
          have HP := hid (⟨hPR, hPl⟩ : _ ∧ _)
          have hnx : ∀ b, b < w5.heap.size → some b ≠ (Value.slice A8 n c8).ownBlock := fun b hb e => by have := (hX.block b e.symm).1; omega
          have hn2 := hnx _ (lt_of_cell cx0)
          have hn3 := hnx _ (lt_of_cell cy0)
          have hn4 := hnx _ (lt_of_cell ce0)
          have hw1r : w5.heap.size ≤ wr.heap.size := hbl.size
          have hPm : (P.map (Value.int .u64)).length = n := by rw [List.length_map, hPl]
          have hRm : (R.map (Value.int .u64)).length = n := by rw [List.length_map, ← hPR.len, hPl]
          have HPM := hid (⟨hPm, hRm⟩ : _ ∧ _)
          clear hnx hz hx hy cx0 cy0 ce0 hm1 hm2 hPR hPl HI hc8 hPm hRm
          go_upto_region 11 with (fail)
          refine Rgb.wp_region (l := [_, _, _, _, _, _, _, _, _, _, _, _, _, _, _, _, _, _, _, _, _, _, _, _, _, _, _]) (tail := [_, _, _]) (Rgb.growWay wr (Value.slice A8 n c8).ownBlock 13) [some 79, some 80, some 81, some 82, some 83, some 84, some 85, some 86, some 87, some 88, some 89, some 90, some 91, some 92, some 93, some 94, some 95, some 96, some 97, some 98, some 99, some 100, some 101, some 102, some 103, some 104, some 105, some 106, some 15, some 16] 177 (by kernel_rfl) (by kernel_rfl) (by kernel_rfl) rfl (Rgb.growWay_fair _ _ _) (Rgb.grow_drew _ _) (Rgb.keep_drew _) ?_
          refine' Rgb.op_is _ [] rfl rfl (by kernel_rfl) ?_ ?_
          rotate_left
          · intro wx hb
            refine Rgb.from_nil fun T hT => ?_
            go_wp2
            refine hT _ _ rfl (by first | exact Rgb.Keep.refl _ | exact below_of_dr hw2 | exact hw2 | exact (Below.refl _ _).alloc (Nat.le_refl _) _) ?_
            simp only [Rgb.last, List.getElem?_toArray, List.getElem?_cons_succ, List.getElem?_cons_zero, Option.getD_some]
            rfl
          refine' Rgb.op_is _ [] rfl rfl (by kernel_rfl) ?_ ?_
          rotate_left
          · intro wx hb
            refine Rgb.from_nil fun T hT => ?_
            go_wp2
            refine hT _ _ rfl (by first | exact Rgb.Keep.refl _ | exact below_of_dr hw2 | exact hw2 | exact (Below.refl _ _).alloc (Nat.le_refl _) _) ?_
            simp only [Rgb.last, List.getElem?_toArray, List.getElem?_cons_succ, List.getElem?_cons_zero, Option.getD_some]
            rfl
          refine' Rgb.op_is _ [] rfl rfl (by kernel_rfl) ?_ ?_
          rotate_left
          · intro wx hb
            refine Rgb.from_nil fun T hT => ?_
            go_wp2
            refine hT _ _ rfl (by first | exact Rgb.Keep.refl _ | exact below_of_dr hw2 | exact hw2 | exact (Below.refl _ _).alloc (Nat.le_refl _) _) ?_
            simp only [Rgb.last, List.getElem?_toArray, List.getElem?_cons_succ, List.getElem?_cons_zero, Option.getD_some]
            rfl
          refine' Rgb.op_is _ [] rfl rfl (by kernel_rfl) ?_ ?_
          rotate_left
          · intro wx hb
            refine Rgb.from_nil fun T hT => ?_
            go_wp2
            refine hT _ _ rfl (by first | exact Rgb.Keep.refl _ | exact below_of_dr hw2 | exact hw2 | exact (Below.refl _ _).alloc (Nat.le_refl _) _) ?_
            simp only [Rgb.last, List.getElem?_toArray, List.getElem?_cons_succ, List.getElem?_cons_zero, Option.getD_some]
            rfl
          refine Rgb.op_is (.pointer (some ⟨be, oe + n, none⟩)) [2, 3] rfl rfl (by kernel_rfl) ?_ ?_
          · intro wx hb
            refine Rgb.from_is (some 81) rfl rfl ?_
            refine Rgb.from_is (some 82) rfl rfl ?_
            refine Rgb.from_nil fun T hT => ?_
            go_wp2
            exact hT _ _ rfl (by first | exact Rgb.Keep.refl _ | exact below_of_dr hw2 | exact hw2 | exact (Below.refl _ _).alloc (Nat.le_refl _) _) (by first | rfl | exact congrArg _ (by decide))
          refine Rgb.op_is (.int .u8 z) [4] rfl rfl (by kernel_rfl) ?_ ?_
          · intro wx hb
            refine Rgb.from_is (some 83) rfl rfl ?_
            refine Rgb.from_nil fun T hT => ?_
            have g1 := Rgb.grow_cell hb cE hn4
            go_wp2
            exact hT _ _ rfl (by first | exact Rgb.Keep.refl _ | exact below_of_dr hw2 | exact hw2 | exact (Below.refl _ _).alloc (Nat.le_refl _) _) (by first | rfl | exact congrArg _ (by decide))
          refine Rgb.op_is (.int .i64 z) [5] rfl rfl (by kernel_rfl) ?_ ?_
          · intro wx hb
            refine Rgb.from_is (some 84) rfl rfl ?_
            refine Rgb.from_nil fun T hT => ?_
            go_wp2
            exact hT _ _ rfl (by first | exact Rgb.Keep.refl _ | exact below_of_dr hw2 | exact hw2 | exact (Below.refl _ _).alloc (Nat.le_refl _) _) (by first | rfl | exact congrArg _ (by decide))
          refine' Rgb.op_is _ [] rfl rfl (by kernel_rfl) ?_ ?_
          rotate_left
          · intro wx hb
            refine Rgb.from_nil fun T hT => ?_
            go_wp2
            refine hT _ _ rfl (by first | exact Rgb.Keep.refl _ | exact below_of_dr hw2 | exact hw2 | exact (Below.refl _ _).alloc (Nat.le_refl _) _) ?_
            simp only [Rgb.last, List.getElem?_toArray, List.getElem?_cons_succ, List.getElem?_cons_zero, Option.getD_some]
            rfl
          refine' Rgb.op_is _ [7] rfl rfl (by kernel_rfl) ?_ ?_
          rotate_left
          · intro wx hb
            refine Rgb.from_is (some 86) rfl rfl ?_
            refine Rgb.from_nil fun T hT => ?_
            go_wp2
            refine hT _ _ rfl (by first | exact Rgb.Keep.refl _ | exact below_of_dr hw2 | exact hw2 | exact (Below.refl _ _).alloc (Nat.le_refl _) _) ?_
            simp only [Rgb.last, List.getElem?_toArray, List.getElem?_cons_succ, List.getElem?_cons_zero, Option.getD_some]
            rfl
          refine Rgb.op_is (.int .i64 (kk : Int)) [6, 8] rfl rfl (by kernel_rfl) ?_ ?_
          · intro wx hb
            refine Rgb.from_is (some 85) rfl rfl ?_
            refine Rgb.from_is (some 87) rfl rfl ?_
            refine Rgb.from_nil fun T hT => ?_
            go_wp2
            refine hT _ _ rfl (by first | exact Rgb.Keep.refl _ | exact (Below.refl _ _).alloc (Nat.le_refl _) _) ?_
            first | rfl | (trace_state; sorry)
          refine Rgb.op_is (.pointer (some ⟨bx, ox + kk, none⟩)) [1, 9] rfl rfl (by kernel_rfl) ?_ ?_
          · intro wx hb
            refine Rgb.from_is (some 80) rfl rfl ?_
            refine Rgb.from_is (some 88) rfl rfl ?_
            refine Rgb.from_nil fun T hT => ?_
            go_wp2
            exact hT _ _ rfl (by first | exact Rgb.Keep.refl _ | exact below_of_dr hw2 | exact hw2 | exact (Below.refl _ _).alloc (Nat.le_refl _) _) (by first | rfl | exact congrArg _ (by decide))
          refine Rgb.op_is (.int .u64 x) [10] rfl rfl (by kernel_rfl) ?_ ?_
          · intro wx hb
            refine Rgb.from_is (some 89) rfl rfl ?_
            refine Rgb.from_nil fun T hT => ?_
            have g1 := Rgb.grow_cell hb cx hn2
            go_wp2
            exact hT _ _ rfl (by first | exact Rgb.Keep.refl _ | exact below_of_dr hw2 | exact hw2 | exact (Below.refl _ _).alloc (Nat.le_refl _) _) (by first | rfl | exact congrArg _ (by decide))
          refine Rgb.op_till (fun w' u => ∃ g, u = Value.slice (some ⟨g, 0, none⟩) 1 1 ∧ Row1 w' g 24 [.int .u64 x]) [11] rfl ?_ rfl (by kernel_rfl) ?_ ?_
          · exact fun w1 w2 v hk ⟨g, e, h⟩ => ⟨g, e, h.below hk⟩
          · intro wx hb
            refine Rgb.from_is (some 90) rfl rfl ?_
            refine Rgb.from_nil fun T hT => ?_
            go_wp2
            exact hT _ _ rfl (below_alloc _ _) ⟨_, rfl, row1_new wx [_] 24⟩
          refine Rgb.op_turn (fun w' u => Own w' w5.heap.size 24 u (P.map (.int .u64) ++ [.int .u64 x]) ∧ (u.ownBlock = (Value.slice A8 n c8).ownBlock ∨ ∃ g, u.ownBlock = some g ∧ wr.heap.size ≤ g)) [0, 12] rfl ?_ rfl (by kernel_rfl) ?_ ?_
          · exact fun w1 w2 v hk h => ⟨h.1.below hk, h.2⟩
          · intro wx hb hb1
            refine Rgb.from_is (some 79) rfl rfl ?_
            refine Rgb.from_till (some 91) rfl rfl fun v91 h91 => ?_
            refine Rgb.from_nil fun T hT => ?_
            obtain ⟨g, rfl, hg⟩ := h91
            refine wpList_push_at elt_u64 _ rfl _ _ rfl w5.heap.size (hX.below hb1) rfl (.int .u64 x) g rfl hg rfl (by rw [HPM.out.1]; omega) (by rw [HPM.out.1]; omega) (Nat.le_trans hw1r hb1.size) ?_
            intro v' w' hown' hgr hbl
            go_wp2
            exact hT _ _ rfl hgr ⟨hown', hbl.imp id fun h => ⟨_, h, hb1.size⟩⟩
          refine' Rgb.op_is _ [] rfl rfl (by kernel_rfl) ?_ ?_
          rotate_left
          · intro wx hb
            refine Rgb.from_nil fun T hT => ?_
            go_wp2
            refine hT _ _ rfl (by first | exact Rgb.Keep.refl _ | exact below_of_dr hw2 | exact hw2 | exact (Below.refl _ _).alloc (Nat.le_refl _) _) ?_
            simp only [Rgb.last, List.getElem?_toArray, List.getElem?_cons_succ, List.getElem?_cons_zero, Option.getD_some]
            rfl
          refine' Rgb.op_is _ [] rfl rfl (by kernel_rfl) ?_ ?_
          rotate_left
          · intro wx hb
            refine Rgb.from_nil fun T hT => ?_
            go_wp2
            refine hT _ _ rfl (by first | exact Rgb.Keep.refl _ | exact below_of_dr hw2 | exact hw2 | exact (Below.refl _ _).alloc (Nat.le_refl _) _) ?_
            simp only [Rgb.last, List.getElem?_toArray, List.getElem?_cons_succ, List.getElem?_cons_zero, Option.getD_some]
            rfl
          refine' Rgb.op_is _ [] rfl rfl (by kernel_rfl) ?_ ?_
          rotate_left
          · intro wx hb
            refine Rgb.from_nil fun T hT => ?_
            go_wp2
            refine hT _ _ rfl (by first | exact Rgb.Keep.refl _ | exact below_of_dr hw2 | exact hw2 | exact (Below.refl _ _).alloc (Nat.le_refl _) _) ?_
            simp only [Rgb.last, List.getElem?_toArray, List.getElem?_cons_succ, List.getElem?_cons_zero, Option.getD_some]
            rfl
          refine' Rgb.op_is _ [] rfl rfl (by kernel_rfl) ?_ ?_
          rotate_left
          · intro wx hb
            refine Rgb.from_nil fun T hT => ?_
            go_wp2
            refine hT _ _ rfl (by first | exact Rgb.Keep.refl _ | exact below_of_dr hw2 | exact hw2 | exact (Below.refl _ _).alloc (Nat.le_refl _) _) ?_
            simp only [Rgb.last, List.getElem?_toArray, List.getElem?_cons_succ, List.getElem?_cons_zero, Option.getD_some]
            rfl
          refine Rgb.op_is (.pointer (some ⟨be, oe + n, none⟩)) [16, 17] rfl rfl (by kernel_rfl) ?_ ?_
          · intro wx hb
            refine Rgb.from_is (some 95) rfl rfl ?_
            refine Rgb.from_is (some 96) rfl rfl ?_
            refine Rgb.from_nil fun T hT => ?_
            go_wp2
            exact hT _ _ rfl (by first | exact Rgb.Keep.refl _ | exact below_of_dr hw2 | exact hw2 | exact (Below.refl _ _).alloc (Nat.le_refl _) _) (by first | rfl | exact congrArg _ (by decide))
          refine Rgb.op_is (.int .u8 z) [18] rfl rfl (by kernel_rfl) ?_ ?_
          · intro wx hb
            refine Rgb.from_is (some 97) rfl rfl ?_
            refine Rgb.from_nil fun T hT => ?_
            have g1 := Rgb.grow_cell hb cE hn4
            go_wp2
            exact hT _ _ rfl (by first | exact Rgb.Keep.refl _ | exact below_of_dr hw2 | exact hw2 | exact (Below.refl _ _).alloc (Nat.le_refl _) _) (by first | rfl | exact congrArg _ (by decide))
          refine Rgb.op_is (.int .i64 z) [19] rfl rfl (by kernel_rfl) ?_ ?_
          · intro wx hb
            refine Rgb.from_is (some 98) rfl rfl ?_
            refine Rgb.from_nil fun T hT => ?_
            go_wp2
            exact hT _ _ rfl (by first | exact Rgb.Keep.refl _ | exact below_of_dr hw2 | exact hw2 | exact (Below.refl _ _).alloc (Nat.le_refl _) _) (by first | rfl | exact congrArg _ (by decide))
          refine' Rgb.op_is _ [] rfl rfl (by kernel_rfl) ?_ ?_
          rotate_left
          · intro wx hb
            refine Rgb.from_nil fun T hT => ?_
            go_wp2
            refine hT _ _ rfl (by first | exact Rgb.Keep.refl _ | exact below_of_dr hw2 | exact hw2 | exact (Below.refl _ _).alloc (Nat.le_refl _) _) ?_
            simp only [Rgb.last, List.getElem?_toArray, List.getElem?_cons_succ, List.getElem?_cons_zero, Option.getD_some]
            rfl
          refine' Rgb.op_is _ [21] rfl rfl (by kernel_rfl) ?_ ?_
          rotate_left
          · intro wx hb
            refine Rgb.from_is (some 100) rfl rfl ?_
            refine Rgb.from_nil fun T hT => ?_
            go_wp2
            refine hT _ _ rfl (by first | exact Rgb.Keep.refl _ | exact below_of_dr hw2 | exact hw2 | exact (Below.refl _ _).alloc (Nat.le_refl _) _) ?_
            simp only [Rgb.last, List.getElem?_toArray, List.getElem?_cons_succ, List.getElem?_cons_zero, Option.getD_some]
            rfl
          refine Rgb.op_is (.int .i64 (kk : Int)) [20, 22] rfl rfl (by kernel_rfl) ?_ ?_
          · intro wx hb
            refine Rgb.from_is (some 99) rfl rfl ?_
            refine Rgb.from_is (some 101) rfl rfl ?_
            refine Rgb.from_nil fun T hT => ?_
            go_wp2
            refine hT _ _ rfl (by first | exact Rgb.Keep.refl _ | exact (Below.refl _ _).alloc (Nat.le_refl _) _) ?_
            first | rfl | (trace_state; sorry)
          refine Rgb.op_is (.pointer (some ⟨by_, oy + kk, none⟩)) [15, 23] rfl rfl (by kernel_rfl) ?_ ?_
          · intro wx hb
            refine Rgb.from_is (some 94) rfl rfl ?_
            refine Rgb.from_is (some 102) rfl rfl ?_
            refine Rgb.from_nil fun T hT => ?_
            go_wp2
            exact hT _ _ rfl (by first | exact Rgb.Keep.refl _ | exact below_of_dr hw2 | exact hw2 | exact (Below.refl _ _).alloc (Nat.le_refl _) _) (by first | rfl | exact congrArg _ (by decide))
          refine Rgb.op_is (.int .u64 y) [24] rfl rfl (by kernel_rfl) ?_ ?_
          · intro wx hb
            refine Rgb.from_is (some 103) rfl rfl ?_
            refine Rgb.from_nil fun T hT => ?_
            have g1 := Rgb.grow_cell hb cy hn3
            go_wp2
            exact hT _ _ rfl (by first | exact Rgb.Keep.refl _ | exact below_of_dr hw2 | exact hw2 | exact (Below.refl _ _).alloc (Nat.le_refl _) _) (by first | rfl | exact congrArg _ (by decide))
          refine Rgb.op_of (fun w' u => ∃ g, u = Value.slice (some ⟨g, 0, none⟩) 1 1 ∧ Row1 w' g 24 [.int .u64 y] ∧ some g ≠ (Value.slice A8 n c8).ownBlock) [25] rfl ?_ ?_ rfl (by kernel_rfl) ?_ ?_
          · exact fun w1 w2 v hk ⟨g, e, h, hn⟩ => ⟨g, e, h.below hk, hn⟩
          · exact fun w1 w2 v hk ⟨g, e, h, hn⟩ => ⟨g, e, h.keep (hk.block g h.lt hn), hn⟩
          · intro wx hb
            refine Rgb.from_is (some 104) rfl rfl ?_
            refine Rgb.from_nil fun T hT => ?_
            go_wp2
            exact hT _ _ rfl (below_alloc _ _) ⟨_, rfl, row1_new wx [_] 24, fun e => by have := (hX.block _ e.symm).2; have := hb.size; omega⟩
          refine Rgb.walk_nil [0, 1, 2, 3, 4, 5, 6, 7, 8, 9, 10, 11, 12, 13, 14, 15, 16, 17, 18, 19, 20, 21, 22, 23, 24, 25, 26] (by kernel_rfl) ?_
          intro wx hb
          refine Rgb.from_is (some 79) rfl rfl ?_
          refine Rgb.from_is (some 80) rfl rfl ?_
          refine Rgb.from_is (some 81) rfl rfl ?_
          refine Rgb.from_is (some 82) rfl rfl ?_
          refine Rgb.from_is (some 83) rfl rfl ?_
          refine Rgb.from_is (some 84) rfl rfl ?_
          refine Rgb.from_is (some 85) rfl rfl ?_
          refine Rgb.from_is (some 86) rfl rfl ?_
          refine Rgb.from_is (some 87) rfl rfl ?_
          refine Rgb.from_is (some 88) rfl rfl ?_
          refine Rgb.from_is (some 89) rfl rfl ?_
          refine Rgb.from_is (some 90) rfl rfl ?_
          refine Rgb.from_gone (some 91) rfl rfl fun v91 => ?_
          refine Rgb.from_of (some 92) rfl rfl fun v92 h92 => ?_
          refine Rgb.from_is (some 93) rfl rfl ?_
          refine Rgb.from_is (some 94) rfl rfl ?_
          refine Rgb.from_is (some 95) rfl rfl ?_
          refine Rgb.from_is (some 96) rfl rfl ?_
          refine Rgb.from_is (some 97) rfl rfl ?_
          refine Rgb.from_is (some 98) rfl rfl ?_
          refine Rgb.from_is (some 99) rfl rfl ?_
          refine Rgb.from_is (some 100) rfl rfl ?_
          refine Rgb.from_is (some 101) rfl rfl ?_
          refine Rgb.from_is (some 102) rfl rfl ?_
          refine Rgb.from_is (some 103) rfl rfl ?_
          refine Rgb.from_is (some 104) rfl rfl ?_
          refine Rgb.from_of (some 105) rfl rfl fun v105 h105 => ?_
          refine Rgb.from_nil ?_
          simp only [List.map, Act.put, List.setIfInBounds_toArray, List.set_cons_zero, List.set_cons_succ]
          obtain ⟨g30, rfl, hg30, hne30⟩ := h105
          obtain ⟨h23a, h23b⟩ := h92
          have hYx := hY.keep fun g hg => hb.block g (hY.block g hg).2 fun e => hXY g e.symm hg
          refine wpList_push_at elt_u64 _ rfl _ _ rfl w5.heap.size hYx rfl (.int .u64 y) g30 rfl hg30 rfl (by rw [HPM.out.2]; omega) (by rw [HPM.out.2]; omega) (Nat.le_trans hw1r hb.size) ?_
          intro v' w' hown' hgr hbl2
          have hd : ∀ g, v92.ownBlock = some g → u16.ownBlock ≠ some g := fun g hg e => by
            rcases h23b with h | ⟨g2, h, hge⟩
            · exact hXY g (h ▸ hg) e
            · rw [h] at hg
              have := (hY.block g e).2
              simp only [Option.some.injEq] at hg
              omega
          have hXn := h23a.keep fun g hg => hgr.block g (h23a.block g hg).2 fun e => hd g hg e.symm
          have hdn : ∀ g, v92.ownBlock = some g → v'.ownBlock ≠ some g := fun g hg e => by
            rcases hbl2 with h | h
            · exact hd g hg (h ▸ e)
            · rw [h] at e
              have := (h23a.block g hg).2
              simp only [Option.some.injEq] at e
              omega
          have hbn : Below w5.heap.size w5 w' := (hbl.grown hb hw1r fun g e => (hX.block g e).1).grown hgr (Nat.le_trans hw1r hb.size) fun g e => (hY.block g e).1
          have HN := hid (show PickRel w5 w' v92 v' (n + 1) from
            ⟨P ++ [x], R ++ [y], ⟨by rw [List.map_append]; exact hXn, by rw [List.map_append]; exact hown', hdn, by simp [HP.out.1.len], by rw [List.length_append, HP.out.2]; simp; omega, HP.out.1.ux.snoc hux, HP.out.1.uy.snoc huy⟩, by rw [List.length_append, HP.out.2]; rfl, hbn⟩)
          clear hYx hown' hgr hbl2 hd hXn hdn hbn hg30 hne30 h23a h23b hX hY hXY hb hbl
          go_wp2
          go_roundw
          case rel => exact ⟨n + 1, by go_num, by omega, HN⟩
          case measure => simp [intOf]; omega
        · obtain rfl : n = t + 1 := by omega
          have hlt' : ¬ (((t + 1 : Nat) : Int) ≤ (t : Int)) := by omega
          obtain ⟨P, R, hPR, hPl, hbl⟩ := HI.out
          have hRl : R.length = t + 1 := by rw [← hPR.len, hPl]
          obtain ⟨A8, c8, e8, hP8⟩ := hPR.x.form
          obtain ⟨A9, c9, e9, hR8⟩ := hPR.y.form
          rw [List.length_map, hPl] at e8
          rw [List.length_map, hRl] at e9
          subst e8
          subst e9
          have hth := pthrough_c A8 A9 P R c8 c9 q wr hP8 hR8 (by omega) (by omega) hPR.ux hPR.uy hqu
          rw [hPl, hRl] at hth
          have HTH := hid hth
          have HOLD := hid (⟨hbl, HF.out.2.2.1.below hbl⟩ : _ ∧ _)
          have HPL := hid (⟨trivial, fun he => ⟨(tVal_len he).trans hPl, by rw [tVal_ok he, pOut_red (okm_prime HPR.out.1).1], tVal_u64 P R q⟩⟩ : True ∧ (tErr P R q = 0 → (tVal P R q).length = t + 1 ∧ (tVal P R q).map (· % q) = tVal P R q ∧ U64s (tVal P R q)))
          clear hth hP8 hR8 hPR hPl hRl hbl HI
          go_wp2_with (fail)
          refine HTH.out.mono ?_
          generalize tVal P R q = V at *
          generalize tErr P R q = er at *
          rintro e w6 ⟨v9, rfl, o9, hb6⟩
          obtain ⟨A10, c10, e10, h10⟩ := o9.form
          rw [List.length_map] at e10
          subst e10
          have hbb := below_next HOLD.out.1 HOLD.out.1.size hb6
          have HNO := hid (show AheadRel t q A6 w5 w6 from ⟨M, HM9.out.1, HM9.out.2.1, HM9.out.2.2, HOLD.out.2.below hb6, hbb⟩)
          by_cases he : er = 0
          · have hV := HPL.out.2 he
            rw [hV.1]
            have HN := hid (show AheadRel t q A10 w5 w6 from ⟨V, hV.1, hV.2.1, hV.2.2, h10, hbb⟩)
            subst he
            clear hV h10 o9 hb6 hbb
            go_wp2
            go_meet
            case rel => exact ⟨A10, c10, rfl, HN⟩
          · have he' : (er == 0) = false := by simpa using he
            clear h10 o9 hb6 hbb
            go_wp2
            go_meet
            case rel => exact ⟨A6, c6, rfl, HNO⟩
    | false =>
      have HN := hid (show AheadRel t q A6 w5 w5 from ⟨M, HM9.out.1, HM9.out.2.1, HM9.out.2.2, HF.out.2.2.1, Below.refl _ _⟩)
      clear HC
      go_wp2
      go_meet
      case rel => exact ⟨A6, c6, rfl, HN⟩
  case rest =>
  obtain ⟨A7, c7, rfl, HR⟩ := hcut
  obtain ⟨C0, hC0l, hC0r, hC0u, hC06, hb6⟩ := HR.out
  generalize wc = w6 at *
  have hX6 := HF.out.1.below hb6
  have hY6 := HF.out.2.1.below hb6
  have hB6 := below_next HF.out.2.2.2 HF.out.2.2.2.size hb6
  have hon := on05_c A7 A1 A2 C0 X Y c7 c1 c2 q w6 hC06 hX6 hY6 HLN.out (by omega) (by omega) hC0u HP5.out.ux HP5.out.uy hqu (by omega)
  rw [hC0l] at hon
  have HON := hid hon
  have HW := hid (⟨hX6, hY6, hB6, hC06⟩ : _ ∧ _ ∧ _ ∧ _)
  have HC0 := hid (⟨hC0l, hC0r, hC0u⟩ : _ ∧ _ ∧ _)
  have HAP := hid (HTW.out.apart hq2 HPR.out.2)
  have HAH := hid (fun (h : 2 * t + 1 ≤ (onL X Y C0 q).length) (C : List Int) (W : List Nat) (er : Int) h' => dec_ahead (by omega) HPR.out.1 HAP.out hfew HLN.out hC0l hC0r h (C := C) (W := W) (er := er) h')
  clear hon hX6 hY6 hB6 hC06 hC0l hC0r hC0u hb6 HR
  go_wp2_with (fail)
  refine HON.out.mono ?_
  rintro e w7 ⟨v7, rfl, oO, hb7⟩
  have hln : ∀ L : List Nat, (natv L).length = L.length := fun L => by simp [natv]
  obtain ⟨A8, c8, e8, hO7⟩ := oO.form
  rw [hln] at e8
  subst e8
  have hL7 := onK_len X Y C0 q X.length
  have hX7 := HW.out.1.below hb7
  have hY7 := HW.out.2.1.below hb7
  have hB7 := below_next HW.out.2.2.1 HW.out.2.2.1.size hb7
  have HW7 := hid (⟨hO7, hB7, HW.out.2.2.2.below hb7, hL7⟩ : _ ∧ _ ∧ _ ∧ _)
  have HD1 := hid (dec_c A1 A2 X Y c1 c2 t q w7 hX7 hY7 (by omega) (by omega) HP5.out.ux HP5.out.uy ⟨by omega, by omega⟩ hqu (HT.out.below hB7))
  have HXY := hid (⟨hX7, hY7⟩ : _ ∧ _)
  clear hO7 hX7 hY7 hB7 hb7 oO HON HW hL7
  generalize hLL : onL X Y C0 q = L at *
  have HLL := hid hLL
  clear hLL
  go_wp2_with (fail)
  refine HD1.out.mono ?_
  have HD0 := hid (show decR X Y t q = decR X Y t q from rfl)
  generalize hdr : decR X Y t q = r at *
  have HDR := hid hdr
  clear hdr HD0
  obtain ⟨C, W, er⟩ := r
  rintro e w8 ⟨v3, v4, rfl, oC, oW, hb8⟩
  dsimp only at oC oW ⊢
  have hcases := dec_cases (by omega) HPR.out.1 HAP.out hfew HLN.out HDR.out
  obtain ⟨A3, c3, e3, hC8⟩ := oC.form
  obtain ⟨A4, c4, e4, hW8⟩ := oW.form
  rw [List.length_map] at e3
  subst e3
  subst e4
  have hO8 := HW7.out.1.below hb8
  have hB8 := below_next HW7.out.2.1 HW7.out.2.1.size hb8
  have hC08 := HW7.out.2.2.1.below hb8
  have hX8 := HXY.out.1.below hb8
  have hY8 := HXY.out.2.below hb8
  have HW8 := hid (⟨hO8, hB8, hC08, hC8, hX8, hY8⟩ : _ ∧ _ ∧ _ ∧ _ ∧ _ ∧ _)
  clear hO8 hB8 hC08 hC8 hW8 hX8 hY8 hb8 oC oW
  by_cases hle : L.length ≤ 2 * t
  · have hle' : (L.length : Int) ≤ 2 * (t : Int) := by omega
    clear hcases
    go_wp2
    go_ret
    exact ⟨rfl, HW8.out.2.1⟩
  · have hle' : ¬ (L.length : Int) ≤ 2 * (t : Int) := by omega
    obtain ⟨rfl, hb1, hb2⟩ := HAH.out (by omega) C W er rfl
    rcases hcases with ⟨h5, _⟩ | ⟨_, _, hCt, hCr, _, _⟩
    · exact absurd h5 (by decide)
    have hCU := red_u64 (okm_prime HPR.out.1).1 hCr
    have hon := on05_c A3 A1 A2 C X Y c3 c1 c2 q w8 HW8.out.2.2.2.1 HW8.out.2.2.2.2.1 HW8.out.2.2.2.2.2 HLN.out (by omega) (by omega) hCU HP5.out.ux HP5.out.uy hqu (by omega)
    have HON := hid hon
    have HCT := hid (⟨hCt, hCU⟩ : _ ∧ _)
    have HB2 := hid (show C = C0 ∧ onL X Y C q = L ∨ ∃ j a b : Nat, j < t + 1 ∧ (∀ i : Nat, i < j → (onL X Y C q)[i]? = L[i]?) ∧ (onL X Y C q)[j]? = some a ∧ L[j]? = some b ∧ a < b from by
      rcases hb2 with h | h
      · exact .inl ⟨h, by rw [h]; exact HLL.out⟩
      · exact .inr h)
    have HB1 := hid hb1
    clear hon hCt hCr hCU hb2 hb1
    go_wp2_with (fail)
    refine HON.out.mono ?_
    rintro e w9 ⟨v9, rfl, oB, hb9⟩
    have hBl := onK_len X Y C q X.length
    have HBL := hid (show (onL X Y C q).length ≤ X.length from hBl)
    clear hBl
    generalize onL X Y C q = Bs at *
    obtain ⟨A9, c9, e9, hB9⟩ := oB.form
    rw [hln] at e9
    subst e9
    have hL9 := HW8.out.1.below hb9
    have hBB := below_next HW8.out.2.1 HW8.out.2.1.size hb9
    have HW9 := hid (⟨hL9, hB9, hBB, HW8.out.2.2.1.below hb9, HW8.out.2.2.2.1.below hb9⟩ : _ ∧ _ ∧ _ ∧ _ ∧ _)
    clear hL9 hB9 hBB hb9 oB hln
    go_wp2
    go_loopw [25] (fun i wr => ∃ n : Nat, i = .int .i64 (n : Int) ∧ n ≤ 2 * t + 1 ∧ Hid (SameTill Bs L n ∧ Below w9.heap.size w9 wr)) (fun i _ => 2 * t + 1 - (intOf i).toNat)
    case atStart => exact ⟨0, rfl, by omega, hid ⟨fun i h => by omega, Below.refl _ _⟩⟩
    case round =>
      obtain ⟨n, rfl, hnt, HI⟩ := hrel
      by_cases hlt : n ≤ 2 * t
      · have hlt' : (n : Int) ≤ 2 * (t : Int) := by omega
        have hnB : n < Bs.length := by have := HB1.out; omega
        have hnL : n < L.length := by omega
        have hnB' : (n : Int) < (Bs.length : Int) := by omega
        have hnL' : (n : Int) < (L.length : Int) := by omega
        have hnB2 : ¬ (n : Int) ≥ (Bs.length : Int) := by omega
        obtain ⟨b, hb⟩ := get_of_lt hnB
        obtain ⟨o, ho⟩ := get_of_lt hnL
        have hbo := ahead_step HB2.out HI.out.1 hb ho
        obtain ⟨bb, ob, rfl, cb0⟩ := HW9.out.2.1.at_map hb
        obtain ⟨bl, ol, rfl, cl0⟩ := HW9.out.1.at_map ho
        have hbl := HI.out.2
        have cb1 := (hbl.cell (lt_of_cell cb0)).trans cb0
        have cl1 := (hbl.cell (lt_of_cell cl0)).trans cl0
        have hgt : ¬ (b : Int) > (o : Int) := by omega
        have HH := hid (⟨hb, ho⟩ : _ ∧ _)
        have HI1 := hid HI.out.1
        clear cb0 cl0 hb ho HI
        by_cases hlo : b < o
        · have hlo' : (b : Int) < (o : Int) := by omega
          go_wp2
          go_quiet (fail)
          go_wp2
          go_quiet (fail)
          have HE := hid (below_next HW9.out.2.2.1 HW9.out.2.2.1.size hbl)
          go_wp2
          go_ret
          exact ⟨rfl, below_dr (below_dr HE.out ⟨_, rfl⟩) ⟨_, rfl⟩⟩
        · have hlo' : ¬ (b : Int) < (o : Int) := by omega
          obtain rfl : b = o := by omega
          have HN := hid (HI1.out.step HH.out.1 HH.out.2)
          go_wp2
          go_quiet (fail)
          go_wp2
          go_quiet (fail)
          go_wp2
          go_roundw
          case rel => exact ⟨n + 1, by go_num, by omega, hid ⟨HN.out, below_dr hbl ⟨_, rfl⟩⟩⟩
          case measure => simp [intOf]; omega
      · obtain rfl : n = 2 * t + 1 := by omega
        have hlt' : ¬ (((2 * t + 1 : Nat) : Int) ≤ 2 * (t : Int)) := by omega
        obtain rfl := ahead_end HB2.out HI.out.1
        have hbl := HI.out.2
        have hC09 := HW9.out.2.2.2.1.below hbl
        have hC9 := HW9.out.2.2.2.2.below hbl
        have hBw := below_next HW9.out.2.2.1 HW9.out.2.2.1.size hbl
        have hsm := psame_c A7 A3 C C c7 c3 q wr hC09 hC9 (by have := HCT.out.1; omega) (by have := HCT.out.1; omega) HCT.out.2 HCT.out.2 hqu
        rw [show sameB C C q = true by unfold sameB; simp] at hsm
        rw [HCT.out.1] at hsm ⊢
        have HSM := hid hsm
        have HBW := hid hBw
        clear hsm hBw hC09 hC9 hbl HI
        go_wp2_with (fail)
        refine HSM.out.mono ?_
        rintro e w10 ⟨rfl, hb10⟩
        have HE := hid (below_next HBW.out HBW.out.size hb10)
        clear hb10
        go_wp2
        go_ret
        exact ⟨rfl, HE.out⟩
end Go.Proofs.YtcojnjhffmhbiaaDoor
