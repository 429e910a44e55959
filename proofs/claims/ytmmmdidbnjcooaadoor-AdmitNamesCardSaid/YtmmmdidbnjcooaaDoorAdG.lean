/-
  AdmitNever's walk.
-/
import Derived.Test.YtmmmdidbnjcooaaDoorAdF
namespace Go.Proofs.YtmmmdidbnjcooaaDoor
open Go Go.RowKit Go.Maps Go.Shelf Go.Proofs

attribute [local go_sem] Oper.semAt_some

theorem ids_ne {l : List Ask} (h : l.Pairwise fun a b => a.id ≠ b.id) {i j : Nat} {a b : Ask} (hi : l[i]? = some a) (hj : l[j]? = some b) (hlt : i < j) : (a.id == b.id) = false := by
  obtain ⟨h1, rfl⟩ := List.getElem?_eq_some_iff.1 hi
  obtain ⟨h2, rfl⟩ := List.getElem?_eq_some_iff.1 hj
  have := List.pairwise_iff_getElem.1 h i j h1 h2 hlt
  simpa using this
set_option maxRecDepth 100000 in
set_option maxHeartbeats 4000000 in
theorem admitNever_c (p : Par) (hp : p.ok) (A : Option Addr) (l : List Ask) (c : Nat) (w : World) (hA : Asks w A l) (hln : l.length ≤ 9223372036854775807) (hli : ∀ a ∈ l, I64 a.id) (hlx : ∀ a ∈ l, I64s a.x) (hTab : Tabs w) [DecidableEq Lit] :
    Calls Tryd.prog 4 #[pval p, .slice A l.length c] w fun e w' => e = .returned (.bool true) ∧ Below w.heap.size w w' := by
  have hb0 := below_alloc w (.cells (pcells p).toArray 34)
  have hP := row1_new w (pcells p) 34
  have HA := hid hA
  have HT := hid hTab
  have HLI := hid hli
  have HLX := hid hlx
  clear hA hTab hli hlx
  go_enter Tryd.func4, Tryd.ntmps4
  go_upto_region 1 with (fail)
  simp only [List.toArray] at hb0 hP
  generalize w.alloc (.cells #[.int .u64 p.P, .int .u64 p.Q, .int .u64 p.G, .int .u64 p.H, .int .i64 p.Nodes, .int .i64 p.N, .int .i64 p.T, .int .i64 p.K, .int .i64 p.D, .int .i64 p.R, .int .i64 p.M, .int .i64 p.X] 34) = w1 at *
  have hAw := hid (awake21_c w1 (HT.out.below hb0))
  by_cases hlen : (l.length : Int) > 40
  · go_wp2_with (fail)
    refine hAw.out.mono ?_
    rintro e w2 ⟨rfl, hb2⟩
    go_wp2
    go_ret
    exact ⟨rfl, below_next hb0 hb0.size hb2⟩
  · have hlf : l.length ≤ 40 := by omega
    go_wp2_with (fail)
    refine hAw.out.mono ?_
    rintro e w2 ⟨rfl, hb2⟩
    have HB2 := hid (below_next hb0 hb0.size hb2)
    have HP2 := hid (hP.below hb2)
    clear hAw hb0 hb2 hP
    go_wp2
    generalize w2 = wo at *
    go_loopw [5] (fun i wr => ∃ k : Nat, i = .int .i64 (k : Int) ∧ k ≤ l.length ∧ Hid (∀ a ∈ l.take k, a.x.length ≤ 40) ∧ Hid (wo = wr)) (fun i _ => l.length - (intOf i).toNat)
    case atStart => exact ⟨0, rfl, by omega, hid (fun a h => by simp at h), hid rfl⟩
    case round =>
      obtain ⟨k, rfl, hk, HI, HWZ⟩ := hrel
      have hw := HWZ.out
      subst hw
      by_cases hlt : k < l.length
      · obtain ⟨a, ha⟩ := get_of_lt hlt
        obtain ⟨b, off, A', c', rfl, ca, cx, hcs, hxl⟩ := (HA.out.below HB2.out).at_ ha
        by_cases hx : (a.x.length : Int) > 40
        · clear ha hcs HI
          go_wp2
          go_ret
          exact ⟨rfl, HB2.out⟩
        · have HN := hid (show ∀ b ∈ l.take (k + 1), b.x.length ≤ 40 from fun b hb => by
            rw [take_snocR ha] at hb
            rcases List.mem_append.1 hb with hb | hb
            · exact HI.out b hb
            · obtain rfl := List.mem_singleton.1 hb
              omega)
          clear ha hcs HI
          go_wp2
          go_roundw
          case rel => exact ⟨k + 1, by go_num, by omega, HN, hid (by trivial)⟩
          case measure => simp [intOf]; omega
      · obtain rfl : k = l.length := by omega
        have hx40 := HI.out
        rw [List.take_length] at hx40
        have hok : AskOk l := ⟨by omega, HLI.out, HLX.out, fun a ha => by have := hx40 a ha; omega⟩
        have HOK := hid hok
        have hG := GoodQ.play p l l.length (Nat.le_refl _)
        rw [List.take_length] at hG
        have HG := hid hG
        have HPL := hid (play_c p hp A l c wo (HA.out.below HB2.out) hok (HT.out.below HB2.out))
        obtain ⟨p0, p1, p2, p3, p4, p5, p6, p7, p8, p9, p10, p11⟩ := par_cells HP2.out
        clear hx40 hok hG HI HLI HLX
        generalize playL p l = s at *
        go_wp2_with (fail)
        refine HPL.out.mono ?_
        rintro e w3 ⟨v3, rfl, ho3, hb3⟩
        obtain ⟨A3, c3, rfl, hA3⟩ := ho3.asks
        obtain ⟨A4, c4, e4, hroom⟩ := ho3.room
        cases e4
        have HB3 := hid (below_next HB2.out HB2.out.size hb3)
        have HP3 := hid (HP2.out.below hb3)
        have HT3 := hid (HT.out.below HB3.out)
        have HA3 := hid hA3
        have HSK := hid (HG.out.ok HOK.out)
        have hs8 := HG.out.few
        clear HPL ho3 hb3 hA3 p0 p1 p2 p3 p4 p5 p6 p7 p8 p9 p10 p11 HP2 HB2
        go_wp2
        generalize w3 = wp at *
        go_loopw [7] (fun i wr => ∃ k : Nat, i = .int .i64 (k : Int) ∧ k ≤ s.length ∧ Hid (Below wp.heap.size wp wr)) (fun i _ => s.length - (intOf i).toNat)
        case atStart => exact ⟨0, rfl, by omega, hid (Below.refl _ _)⟩
        case round =>
          obtain ⟨i, rfl, hi, HI⟩ := hrel
          rename_i wr
          by_cases hil : i < s.length
          · obtain ⟨a, ha⟩ := get_of_lt hil
            obtain ⟨b, off, A', c', rfl, ca, cx, hcs, hxl⟩ := (HA3.out.below HI.out).at_ ha
            have hma := List.mem_of_getElem? ha
            obtain ⟨hq0, hid1⟩ := HG.out.q a hma
            have hP := HP3.out.below HI.out
            have HAA := hid ha
            have hax := HSK.out.x a hma
            have hw0 := HI.out
            clear ha hma HI
            go_upto_region 12 with (fail)
            refine Rg.wp_region (l := [_, _, _, _, _, _, _, _, _, _, _, _, _, _, _]) (tail := [_]) (Rg.grows _ 16) [some 39, some 40, some 41, some 42, some 43, some 44, some 45, some 46, some 47, some 48, some 49, some 50, some 51, some 52, some 53, some 54] 88 (by kernel_rfl) (by kernel_rfl) (by kernel_rfl) rfl (Rg.grows_fair _ _) (Rg.keep_drew _) (trivial) ?_
            refine Rg.op_is (pval p) [] rfl rfl (by kernel_rfl) ?_ ?_
            · intro wx hb
              refine Rg.from_nil fun T hT => ?_
              obtain ⟨p0, p1, p2, p3, p4, p5, p6, p7, p8, p9, p10, p11⟩ := par_cells (hP.below hb)
              go_wp2
              exact hT _ _ rfl (by first | exact Rg.Keep.refl _ | exact below_of_dr hw2 | exact hw2 | exact (Below.refl _ _).alloc (Nat.le_refl _) _) (by first | rfl | exact congrArg _ (by decide))
            refine' Rg.op_is _ [] rfl rfl (by kernel_rfl) ?_ ?_
            rotate_left
            · intro wx hb
              refine Rg.from_nil fun T hT => ?_
              go_wp2
              refine hT _ _ rfl (by first | exact Rg.Keep.refl _ | exact below_of_dr hw2 | exact hw2 | exact (Below.refl _ _).alloc (Nat.le_refl _) _) ?_
              simp only [Rg.last, List.getElem?_toArray, List.getElem?_cons_succ, List.getElem?_cons_zero, Option.getD_some]
              rfl
            refine' Rg.op_is _ [] rfl rfl (by kernel_rfl) ?_ ?_
            rotate_left
            · intro wx hb
              refine Rg.from_nil fun T hT => ?_
              go_wp2
              refine hT _ _ rfl (by first | exact Rg.Keep.refl _ | exact below_of_dr hw2 | exact hw2 | exact (Below.refl _ _).alloc (Nat.le_refl _) _) ?_
              simp only [Rg.last, List.getElem?_toArray, List.getElem?_cons_succ, List.getElem?_cons_zero, Option.getD_some]
              rfl
            refine' Rg.op_is _ [1, 2] rfl rfl (by kernel_rfl) ?_ ?_
            rotate_left
            · intro wx hb
              refine Rg.from_is (some 40) rfl rfl ?_
              refine Rg.from_is (some 41) rfl rfl ?_
              refine Rg.from_nil fun T hT => ?_
              go_wp2
              refine hT _ _ rfl (by first | exact Rg.Keep.refl _ | exact below_of_dr hw2 | exact hw2 | exact (Below.refl _ _).alloc (Nat.le_refl _) _) ?_
              simp only [Rg.last, List.getElem?_toArray, List.getElem?_cons_succ, List.getElem?_cons_zero, Option.getD_some]
              rfl
            refine' Rg.op_is _ [3] rfl rfl (by kernel_rfl) ?_ ?_
            rotate_left
            · intro wx hb
              refine Rg.from_is (some 42) rfl rfl ?_
              refine Rg.from_nil fun T hT => ?_
              go_wp2
              refine hT _ _ rfl (by first | exact Rg.Keep.refl _ | exact below_of_dr hw2 | exact hw2 | exact (Below.refl _ _).alloc (Nat.le_refl _) _) ?_
              simp only [Rg.last, List.getElem?_toArray, List.getElem?_cons_succ, List.getElem?_cons_zero, Option.getD_some]
              rfl
            refine Rg.op_is (.slice A' a.x.length c') [4] rfl rfl (by kernel_rfl) ?_ ?_
            · intro wx hb
              refine Rg.from_is (some 43) rfl rfl ?_
              refine Rg.from_nil fun T hT => ?_
              have c3 := (hb.cell (lt_of_cell cx)).trans cx
              go_wp2
              exact hT _ _ rfl (by first | exact Rg.Keep.refl _ | exact below_of_dr hw2 | exact hw2 | exact (Below.refl _ _).alloc (Nat.le_refl _) _) (by first | rfl | exact congrArg _ (by decide))
            refine Rg.op_is (.int .i64 0) [0, 5] rfl rfl (by kernel_rfl) ?_ ?_
            · intro wx hb
              refine Rg.from_is (some 39) rfl rfl ?_
              refine Rg.from_is (some 44) rfl rfl ?_
              refine Rg.from_nil fun T hT => ?_
              go_wp2_with (fail)
              refine (query_c p A' a.x c' _ (hcs.below hb) hxl hax).mono ?_
              rintro e w4 ⟨rfl, hw2⟩
              rw [hq0]
              go_wp2
              exact hT _ _ rfl hw2 rfl
            refine Rg.op_is (.bool false) [6] rfl rfl (by kernel_rfl) ?_ ?_
            · intro wx hb
              refine Rg.from_is (some 45) rfl rfl ?_
              refine Rg.from_nil fun T hT => ?_
              go_wp2
              exact hT _ _ rfl (by first | exact Rg.Keep.refl _ | exact below_of_dr hw2 | exact hw2 | exact (Below.refl _ _).alloc (Nat.le_refl _) _) (by first | rfl | exact congrArg _ (by decide))
            refine Rg.op_is (.bool false) [7] rfl rfl (by kernel_rfl) ?_ ?_
            · intro wx hb
              refine Rg.from_is (some 46) rfl rfl ?_
              refine Rg.from_nil fun T hT => ?_
              go_wp2
              exact hT _ _ rfl (by first | exact Rg.Keep.refl _ | exact below_of_dr hw2 | exact hw2 | exact (Below.refl _ _).alloc (Nat.le_refl _) _) (by first | rfl | exact congrArg _ (by decide))
            refine' Rg.op_is _ [] rfl rfl (by kernel_rfl) ?_ ?_
            rotate_left
            · intro wx hb
              refine Rg.from_nil fun T hT => ?_
              go_wp2
              refine hT _ _ rfl (by first | exact Rg.Keep.refl _ | exact below_of_dr hw2 | exact hw2 | exact (Below.refl _ _).alloc (Nat.le_refl _) _) ?_
              simp only [Rg.last, List.getElem?_toArray, List.getElem?_cons_succ, List.getElem?_cons_zero, Option.getD_some]
              rfl
            refine' Rg.op_is _ [] rfl rfl (by kernel_rfl) ?_ ?_
            rotate_left
            · intro wx hb
              refine Rg.from_nil fun T hT => ?_
              go_wp2
              refine hT _ _ rfl (by first | exact Rg.Keep.refl _ | exact below_of_dr hw2 | exact hw2 | exact (Below.refl _ _).alloc (Nat.le_refl _) _) ?_
              simp only [Rg.last, List.getElem?_toArray, List.getElem?_cons_succ, List.getElem?_cons_zero, Option.getD_some]
              rfl
            refine' Rg.op_is _ [9, 10] rfl rfl (by kernel_rfl) ?_ ?_
            rotate_left
            · intro wx hb
              refine Rg.from_is (some 48) rfl rfl ?_
              refine Rg.from_is (some 49) rfl rfl ?_
              refine Rg.from_nil fun T hT => ?_
              go_wp2
              refine hT _ _ rfl (by first | exact Rg.Keep.refl _ | exact below_of_dr hw2 | exact hw2 | exact (Below.refl _ _).alloc (Nat.le_refl _) _) ?_
              simp only [Rg.last, List.getElem?_toArray, List.getElem?_cons_succ, List.getElem?_cons_zero, Option.getD_some]
              rfl
            refine' Rg.op_is _ [11] rfl rfl (by kernel_rfl) ?_ ?_
            rotate_left
            · intro wx hb
              refine Rg.from_is (some 50) rfl rfl ?_
              refine Rg.from_nil fun T hT => ?_
              go_wp2
              refine hT _ _ rfl (by first | exact Rg.Keep.refl _ | exact below_of_dr hw2 | exact hw2 | exact (Below.refl _ _).alloc (Nat.le_refl _) _) ?_
              simp only [Rg.last, List.getElem?_toArray, List.getElem?_cons_succ, List.getElem?_cons_zero, Option.getD_some]
              rfl
            refine Rg.op_is (.int .i64 a.id) [12] rfl rfl (by kernel_rfl) ?_ ?_
            · intro wx hb
              refine Rg.from_is (some 51) rfl rfl ?_
              refine Rg.from_nil fun T hT => ?_
              have c3 := (hb.cell (lt_of_cell ca)).trans ca
              go_wp2
              exact hT _ _ rfl (by first | exact Rg.Keep.refl _ | exact below_of_dr hw2 | exact hw2 | exact (Below.refl _ _).alloc (Nat.le_refl _) _) (by first | rfl | exact congrArg _ (by decide))
            refine Rg.op_is (.bool false) [13] rfl rfl (by kernel_rfl) ?_ ?_
            · intro wx hb
              refine Rg.from_is (some 52) rfl rfl ?_
              refine Rg.from_nil fun T hT => ?_
              have hlt1 : decide (a.id < 1) = false := by simp; omega
              go_wp2
              exact hT _ _ rfl (by first | exact Rg.Keep.refl _ | exact below_of_dr hw2 | exact hw2 | exact (Below.refl _ _).alloc (Nat.le_refl _) _) (by first | rfl | exact congrArg _ (by decide))
            refine Rg.walk_nil [0, 1, 2, 3, 4, 5, 6, 7, 8, 9, 10, 11, 12, 13, 14] (by kernel_rfl) ?_
            intro wx hb
            refine Rg.from_is (some 39) rfl rfl ?_
            refine Rg.from_is (some 40) rfl rfl ?_
            refine Rg.from_is (some 41) rfl rfl ?_
            refine Rg.from_is (some 42) rfl rfl ?_
            refine Rg.from_is (some 43) rfl rfl ?_
            refine Rg.from_is (some 44) rfl rfl ?_
            refine Rg.from_is (some 45) rfl rfl ?_
            refine Rg.from_is (some 46) rfl rfl ?_
            refine Rg.from_is (some 47) rfl rfl ?_
            refine Rg.from_is (some 48) rfl rfl ?_
            refine Rg.from_is (some 49) rfl rfl ?_
            refine Rg.from_is (some 50) rfl rfl ?_
            refine Rg.from_is (some 51) rfl rfl ?_
            refine Rg.from_is (some 52) rfl rfl ?_
            refine Rg.from_is (some 53) rfl rfl ?_
            refine Rg.from_nil ?_
            simp only [List.map, Act.put, List.setIfInBounds_toArray, List.set_cons_zero, List.set_cons_succ]
            have hw1 := below_next hw0 hw0.size hb
            have hP1 := hP.below hb
            clear hw0 hP hcs
            go_wp2
            have HW1 := hid hw1
            have HP1 := hid hP1
            clear hw1 hP1 hb
            generalize wx = wy at *
            go_loopw [8] (fun i' wr => ∃ j : Nat, i' = .int .i64 (j : Int) ∧ j ≤ i ∧ Hid (Below wy.heap.size wy wr)) (fun i' _ => i - (intOf i').toNat)
            case atStart => exact ⟨0, rfl, by omega, hid (Below.refl _ _)⟩
            case round =>
              obtain ⟨j, rfl, hj, HJ⟩ := hrel
              rename_i wz
              have hbz := below_next HW1.out HW1.out.size HJ.out
              by_cases hji : j < i
              · obtain ⟨aj, haj⟩ := get_of_lt (show j < s.length by omega)
                obtain ⟨b1, off1, _, _, e1, cj, _, _, _⟩ := (HA3.out.below hbz).at_ haj
                cases e1
                obtain ⟨b2, off2, _, _, e2, ci, _, _, _⟩ := (HA3.out.below hbz).at_ HAA.out
                cases e2
                have hne := ids_ne HG.out.ids haj HAA.out hji
                clear haj
                go_upto_region 17 with (fail)
                refine Rg.wp_region (l := [_, _, _, _, _, _, _, _, _, _]) (tail := [_]) (Rg.grows _ 11) [some 60, some 61, some 62, some 63, some 64, some 65, some 66, some 67, some 68, some 69, some 70] 88 (by kernel_rfl) (by kernel_rfl) (by kernel_rfl) rfl (Rg.grows_fair _ _) (Rg.keep_drew _) (trivial) ?_
                refine' Rg.op_is _ [] rfl rfl (by kernel_rfl) ?_ ?_
                rotate_left
                · intro wx hb
                  refine Rg.from_nil fun T hT => ?_
                  go_wp2
                  refine hT _ _ rfl (by first | exact Rg.Keep.refl _ | exact below_of_dr hw2 | exact hw2 | exact (Below.refl _ _).alloc (Nat.le_refl _) _) ?_
                  simp only [Rg.last, List.getElem?_toArray, List.getElem?_cons_succ, List.getElem?_cons_zero, Option.getD_some]
                  rfl
                refine' Rg.op_is _ [] rfl rfl (by kernel_rfl) ?_ ?_
                rotate_left
                · intro wx hb
                  refine Rg.from_nil fun T hT => ?_
                  go_wp2
                  refine hT _ _ rfl (by first | exact Rg.Keep.refl _ | exact below_of_dr hw2 | exact hw2 | exact (Below.refl _ _).alloc (Nat.le_refl _) _) ?_
                  simp only [Rg.last, List.getElem?_toArray, List.getElem?_cons_succ, List.getElem?_cons_zero, Option.getD_some]
                  rfl
                refine' Rg.op_is _ [0, 1] rfl rfl (by kernel_rfl) ?_ ?_
                rotate_left
                · intro wx hb
                  refine Rg.from_is (some 60) rfl rfl ?_
                  refine Rg.from_is (some 61) rfl rfl ?_
                  refine Rg.from_nil fun T hT => ?_
                  go_wp2
                  refine hT _ _ rfl (by first | exact Rg.Keep.refl _ | exact below_of_dr hw2 | exact hw2 | exact (Below.refl _ _).alloc (Nat.le_refl _) _) ?_
                  simp only [Rg.last, List.getElem?_toArray, List.getElem?_cons_succ, List.getElem?_cons_zero, Option.getD_some]
                  rfl
                refine' Rg.op_is _ [2] rfl rfl (by kernel_rfl) ?_ ?_
                rotate_left
                · intro wx hb
                  refine Rg.from_is (some 62) rfl rfl ?_
                  refine Rg.from_nil fun T hT => ?_
                  go_wp2
                  refine hT _ _ rfl (by first | exact Rg.Keep.refl _ | exact below_of_dr hw2 | exact hw2 | exact (Below.refl _ _).alloc (Nat.le_refl _) _) ?_
                  simp only [Rg.last, List.getElem?_toArray, List.getElem?_cons_succ, List.getElem?_cons_zero, Option.getD_some]
                  rfl
                refine Rg.op_is (.int .i64 aj.id) [3] rfl rfl (by kernel_rfl) ?_ ?_
                · intro wx hb
                  refine Rg.from_is (some 63) rfl rfl ?_
                  refine Rg.from_nil fun T hT => ?_
                  have c3 := (hb.cell (lt_of_cell cj)).trans cj
                  go_wp2
                  exact hT _ _ rfl (by first | exact Rg.Keep.refl _ | exact below_of_dr hw2 | exact hw2 | exact (Below.refl _ _).alloc (Nat.le_refl _) _) (by first | rfl | exact congrArg _ (by decide))
                refine' Rg.op_is _ [] rfl rfl (by kernel_rfl) ?_ ?_
                rotate_left
                · intro wx hb
                  refine Rg.from_nil fun T hT => ?_
                  go_wp2
                  refine hT _ _ rfl (by first | exact Rg.Keep.refl _ | exact below_of_dr hw2 | exact hw2 | exact (Below.refl _ _).alloc (Nat.le_refl _) _) ?_
                  simp only [Rg.last, List.getElem?_toArray, List.getElem?_cons_succ, List.getElem?_cons_zero, Option.getD_some]
                  rfl
                refine' Rg.op_is _ [] rfl rfl (by kernel_rfl) ?_ ?_
                rotate_left
                · intro wx hb
                  refine Rg.from_nil fun T hT => ?_
                  go_wp2
                  refine hT _ _ rfl (by first | exact Rg.Keep.refl _ | exact below_of_dr hw2 | exact hw2 | exact (Below.refl _ _).alloc (Nat.le_refl _) _) ?_
                  simp only [Rg.last, List.getElem?_toArray, List.getElem?_cons_succ, List.getElem?_cons_zero, Option.getD_some]
                  rfl
                refine' Rg.op_is _ [5, 6] rfl rfl (by kernel_rfl) ?_ ?_
                rotate_left
                · intro wx hb
                  refine Rg.from_is (some 65) rfl rfl ?_
                  refine Rg.from_is (some 66) rfl rfl ?_
                  refine Rg.from_nil fun T hT => ?_
                  go_wp2
                  refine hT _ _ rfl (by first | exact Rg.Keep.refl _ | exact below_of_dr hw2 | exact hw2 | exact (Below.refl _ _).alloc (Nat.le_refl _) _) ?_
                  simp only [Rg.last, List.getElem?_toArray, List.getElem?_cons_succ, List.getElem?_cons_zero, Option.getD_some]
                  rfl
                refine' Rg.op_is _ [7] rfl rfl (by kernel_rfl) ?_ ?_
                rotate_left
                · intro wx hb
                  refine Rg.from_is (some 67) rfl rfl ?_
                  refine Rg.from_nil fun T hT => ?_
                  go_wp2
                  refine hT _ _ rfl (by first | exact Rg.Keep.refl _ | exact below_of_dr hw2 | exact hw2 | exact (Below.refl _ _).alloc (Nat.le_refl _) _) ?_
                  simp only [Rg.last, List.getElem?_toArray, List.getElem?_cons_succ, List.getElem?_cons_zero, Option.getD_some]
                  rfl
                refine Rg.op_is (.int .i64 a.id) [8] rfl rfl (by kernel_rfl) ?_ ?_
                · intro wx hb
                  refine Rg.from_is (some 68) rfl rfl ?_
                  refine Rg.from_nil fun T hT => ?_
                  have c3 := (hb.cell (lt_of_cell ci)).trans ci
                  go_wp2
                  exact hT _ _ rfl (by first | exact Rg.Keep.refl _ | exact below_of_dr hw2 | exact hw2 | exact (Below.refl _ _).alloc (Nat.le_refl _) _) (by first | rfl | exact congrArg _ (by decide))
                refine Rg.walk_nil [0, 1, 2, 3, 4, 5, 6, 7, 8, 9] (by kernel_rfl) ?_
                intro wx hb
                refine Rg.from_is (some 60) rfl rfl ?_
                refine Rg.from_is (some 61) rfl rfl ?_
                refine Rg.from_is (some 62) rfl rfl ?_
                refine Rg.from_is (some 63) rfl rfl ?_
                refine Rg.from_is (some 64) rfl rfl ?_
                refine Rg.from_is (some 65) rfl rfl ?_
                refine Rg.from_is (some 66) rfl rfl ?_
                refine Rg.from_is (some 67) rfl rfl ?_
                refine Rg.from_is (some 68) rfl rfl ?_
                refine Rg.from_is (some 69) rfl rfl ?_
                refine Rg.from_nil ?_
                simp only [List.map, Act.put, List.setIfInBounds_toArray, List.set_cons_zero, List.set_cons_succ]
                have HN := hid (below_next HJ.out HJ.out.size hb)
                clear HJ hbz hb
                go_wp2
                go_roundw
                case rel => exact ⟨j + 1, by go_num, by omega, HN⟩
                case measure => simp [intOf]; omega
              · obtain rfl : j = i := by omega
                have hPz := HP1.out.below HJ.out
                have hAz := (HA3.out.below hbz).take (j + 1)
                have hTz := HT3.out.below hbz
                have hokz := HSK.out.take (j + 1)
                have hrk := HG.out.rank j hil
                have hlt : (s.take (j + 1)).length = j + 1 := by rw [List.length_take]; omega
                have hc3 : j + 1 ≤ c3 := by omega
                generalize s.take (j + 1) = st at *
                have HRK := hid hrk
                clear hrk HJ
                go_upto_region 19 with (fail)
                refine Rg.wp_region (l := [_, _, _, _, _, _, _, _, _, _, _, _, _]) (tail := [_]) (Rg.grows _ 14) [some 71, some 72, some 73, some 74, some 75, some 76, some 77, some 78, some 79, some 80, some 81, some 82, some 83, some 84] 88 (by kernel_rfl) (by kernel_rfl) (by kernel_rfl) rfl (Rg.grows_fair _ _) (Rg.keep_drew _) (trivial) ?_
                refine Rg.op_is (pval p) [] rfl rfl (by kernel_rfl) ?_ ?_
                · intro wx hb
                  refine Rg.from_nil fun T hT => ?_
                  obtain ⟨p0, p1, p2, p3, p4, p5, p6, p7, p8, p9, p10, p11⟩ := par_cells (hPz.below hb)
                  go_wp2
                  exact hT _ _ rfl (by first | exact Rg.Keep.refl _ | exact below_of_dr hw2 | exact hw2 | exact (Below.refl _ _).alloc (Nat.le_refl _) _) (by first | rfl | exact congrArg _ (by decide))
                refine' Rg.op_is _ [] rfl rfl (by kernel_rfl) ?_ ?_
                rotate_left
                · intro wx hb
                  refine Rg.from_nil fun T hT => ?_
                  go_wp2
                  refine hT _ _ rfl (by first | exact Rg.Keep.refl _ | exact below_of_dr hw2 | exact hw2 | exact (Below.refl _ _).alloc (Nat.le_refl _) _) ?_
                  simp only [Rg.last, List.getElem?_toArray, List.getElem?_cons_succ, List.getElem?_cons_zero, Option.getD_some]
                  rfl
                refine' Rg.op_is _ [] rfl rfl (by kernel_rfl) ?_ ?_
                rotate_left
                · intro wx hb
                  refine Rg.from_nil fun T hT => ?_
                  go_wp2
                  refine hT _ _ rfl (by first | exact Rg.Keep.refl _ | exact below_of_dr hw2 | exact hw2 | exact (Below.refl _ _).alloc (Nat.le_refl _) _) ?_
                  simp only [Rg.last, List.getElem?_toArray, List.getElem?_cons_succ, List.getElem?_cons_zero, Option.getD_some]
                  rfl
                refine' Rg.op_is _ [2] rfl rfl (by kernel_rfl) ?_ ?_
                rotate_left
                · intro wx hb
                  refine Rg.from_is (some 73) rfl rfl ?_
                  refine Rg.from_nil fun T hT => ?_
                  go_wp2
                  refine hT _ _ rfl (by first | exact Rg.Keep.refl _ | exact below_of_dr hw2 | exact hw2 | exact (Below.refl _ _).alloc (Nat.le_refl _) _) ?_
                  simp only [Rg.last, List.getElem?_toArray, List.getElem?_cons_succ, List.getElem?_cons_zero, Option.getD_some]
                  rfl
                refine Rg.op_is (.slice (some ⟨b, off, none⟩) (j + 1) c3) [1, 3] rfl rfl (by kernel_rfl) ?_ ?_
                · intro wx hb
                  refine Rg.from_is (some 72) rfl rfl ?_
                  refine Rg.from_is (some 74) rfl rfl ?_
                  refine Rg.from_nil fun T hT => ?_
                  go_wp2
                  exact hT _ _ rfl (by first | exact Rg.Keep.refl _ | exact below_of_dr hw2 | exact hw2 | exact (Below.refl _ _).alloc (Nat.le_refl _) _) (by first | rfl | exact congrArg _ (by decide))
                refine Rg.op_is (.int .i64 (rankP p st)) [0, 4] rfl rfl (by kernel_rfl) ?_ ?_
                · intro wx hb
                  refine Rg.from_is (some 71) rfl rfl ?_
                  refine Rg.from_is (some 75) rfl rfl ?_
                  refine Rg.from_nil fun T hT => ?_
                  have hr := arank_c p hp (some ⟨b, off, none⟩) st c3 wx (hAz.below hb) hokz (hTz.below hb)
                  rw [hlt] at hr
                  go_wp2_with (fail)
                  refine hr.mono ?_
                  rintro e w4 ⟨rfl, hw2⟩
                  go_wp2
                  exact hT _ _ rfl hw2 rfl
                refine' Rg.op_is _ [] rfl rfl (by kernel_rfl) ?_ ?_
                rotate_left
                · intro wx hb
                  refine Rg.from_nil fun T hT => ?_
                  go_wp2
                  refine hT _ _ rfl (by first | exact Rg.Keep.refl _ | exact below_of_dr hw2 | exact hw2 | exact (Below.refl _ _).alloc (Nat.le_refl _) _) ?_
                  simp only [Rg.last, List.getElem?_toArray, List.getElem?_cons_succ, List.getElem?_cons_zero, Option.getD_some]
                  rfl
                refine Rg.op_is (.int .i64 p.R) [6] rfl rfl (by kernel_rfl) ?_ ?_
                · intro wx hb
                  refine Rg.from_is (some 77) rfl rfl ?_
                  refine Rg.from_nil fun T hT => ?_
                  have cR := (hPz.below hb).cell (k := 9) (u := .int .i64 p.R) rfl
                  go_wp2
                  exact hT _ _ rfl (by first | exact Rg.Keep.refl _ | exact below_of_dr hw2 | exact hw2 | exact (Below.refl _ _).alloc (Nat.le_refl _) _) (by first | rfl | exact congrArg _ (by decide))
                refine Rg.op_is (.bool false) [5, 7] rfl rfl (by kernel_rfl) ?_ ?_
                · intro wx hb
                  refine Rg.from_is (some 76) rfl rfl ?_
                  refine Rg.from_is (some 78) rfl rfl ?_
                  refine Rg.from_nil fun T hT => ?_
                  have hgt : decide ((rankP p st : Int) > p.R) = false := by simp; exact HRK.out
                  go_wp2
                  exact hT _ _ rfl (by first | exact Rg.Keep.refl _ | exact below_of_dr hw2 | exact hw2 | exact (Below.refl _ _).alloc (Nat.le_refl _) _) (by first | rfl | exact congrArg _ (by decide))
                refine Rg.op_is (.bool false) [8] rfl rfl (by kernel_rfl) ?_ ?_
                · intro wx hb
                  refine Rg.from_is (some 79) rfl rfl ?_
                  refine Rg.from_nil fun T hT => ?_
                  go_wp2
                  exact hT _ _ rfl (by first | exact Rg.Keep.refl _ | exact below_of_dr hw2 | exact hw2 | exact (Below.refl _ _).alloc (Nat.le_refl _) _) (by first | rfl | exact congrArg _ (by decide))
                refine Rg.op_skip rfl ?_
                refine Rg.op_skip rfl ?_
                refine Rg.op_skip rfl ?_
                refine Rg.walk_nil [0, 1, 2, 3, 4, 5, 6, 7, 8, 9, 10, 11, 12] (by kernel_rfl) ?_
                intro wx hb
                refine Rg.from_is (some 71) rfl rfl ?_
                refine Rg.from_is (some 72) rfl rfl ?_
                refine Rg.from_is (some 73) rfl rfl ?_
                refine Rg.from_is (some 74) rfl rfl ?_
                refine Rg.from_is (some 75) rfl rfl ?_
                refine Rg.from_is (some 76) rfl rfl ?_
                refine Rg.from_is (some 77) rfl rfl ?_
                refine Rg.from_is (some 78) rfl rfl ?_
                refine Rg.from_is (some 79) rfl rfl ?_
                refine Rg.from_is (some 80) rfl rfl ?_
                refine Rg.from_is (some 81) rfl rfl ?_
                refine Rg.from_is (some 82) rfl rfl ?_
                refine Rg.from_is (some 83) rfl rfl ?_
                refine Rg.from_nil ?_
                simp only [List.map, Act.put, List.setIfInBounds_toArray, List.set_cons_zero, List.set_cons_succ]
                have HN := hid (below_next hbz hbz.size hb)
                clear hbz hb hPz hAz hTz
                go_wp2
                go_roundw
                case rel => exact ⟨j + 1, by go_num, by omega, HN⟩
                case measure => simp [intOf]; omega
          · obtain rfl : i = s.length := by omega
            have hle : (s.length : Int) ≤ 8 := by omega
            go_wp2
            go_ret
            exact ⟨rfl, below_next HB3.out HB3.out.size HI.out⟩
end Go.Proofs.YtmmmdidbnjcooaaDoor
