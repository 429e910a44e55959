/-
  RobustLies' walk.
-/
import Derived.Test.YtmmmdidbnjcooaaDoorRobQ
namespace Go.Proofs.YtmmmdidbnjcooaaDoor
open Go Go.RowKit Go.Maps Go.Shelf Go.Proofs

attribute [local go_sem] Oper.semAt_some

theorem own_types {w : World} {b b' : Nat} {e e' : TypeId} {v v' : Value} {xs xs' : List Value} (h : Own w b e v xs) (h' : Own w b' e' v' xs') (hne : e ≠ e') {g : Nat} (hg : v.ownBlock = some g) : v'.ownBlock ≠ some g := by
  intro hg'
  rcases h.2 with ⟨rfl, _⟩ | ⟨g1, cap, cur, rfl, _, hh, _⟩
  · cases hg
  · rcases h'.2 with ⟨rfl, _⟩ | ⟨g2, cap2, cur2, rfl, _, hh2, _⟩
    · cases hg'
    · simp only [Value.ownBlock, Option.some.injEq] at hg hg'
      subst hg
      subst hg'
      rw [hh] at hh2
      simp only [Option.some.injEq, Obj.cells.injEq] at hh2
      exact hne hh2.2.1
set_option maxRecDepth 100000 in
set_option maxHeartbeats 8000000 in
theorem robustLies_c (A : Option Addr) (cs : List Int) (ca : Nat) (t0 seed many : Int) (L : Option Addr) (lies : List Int) (cl : Nat) (nq : Int) (w : World) (hA : Cells w A (cs.map (.int .u64))) (hl0 : cs.length ≤ 9223372036854775807) (hu0 : U64s cs) (ht0 : 0 ≤ t0 ∧ t0 < 256) (hs : U64 seed) (hm : I64 many)
    (hL : Cells w L (lies.map (.int .u64))) (hl4 : lies.length ≤ 9223372036854775807) (hu4 : U64s lies) (hn : U64 nq) (hTab : Tabs w) :
    Calls Tryd.prog 6 #[.slice A cs.length ca, .int .u8 t0, .int .u64 seed, .int .i64 many, .slice L lies.length cl, .int .u64 nq] w fun e w' => e = .returned (.bool true) ∧ Below w.heap.size w w' := by
  have HA := hid hA
  have HL := hid hL
  have HT := hid hTab
  have HU0 := hid hu0
  have HU4 := hid hu4
  obtain ⟨ht1, ht2⟩ := ht0
  have h3 := Int.tmod_eq_emod_of_nonneg (b := 3) ht1
  clear hA hL hTab hu0 hu4
  go_enter Tryd.func6, Tryd.ntmps6
  by_cases hc0 : (cs.length : Int) > 100
  · go_wp2_with (fail)
    refine (awake05_c w HT.out).mono ?_
    rintro e w2 ⟨rfl, hb2⟩
    go_wp2
    go_ret
    exact ⟨rfl, hb2⟩
  · by_cases hc4 : (lies.length : Int) > 100
    · go_wp2_with (fail)
      refine (awake05_c w HT.out).mono ?_
      rintro e w2 ⟨rfl, hb2⟩
      go_wp2
      go_ret
      exact ⟨rfl, hb2⟩
    · go_wp2_with (fail)
      refine (awake05_c w HT.out).mono ?_
      rintro e w2 ⟨rfl, hb2⟩
      go_wp2_with (fail)
      refine (prime05_c nq hn w2 (HT.out.below hb2)).mono ?_
      rintro e w3 ⟨rfl, hb3⟩
      obtain ⟨hp, hq7⟩ := pickQ_ok hn.lo
      generalize pickQ nq = q at *
      obtain ⟨hok, hq2⟩ := okm_prime hp
      have hqu : U64 q := ⟨by omega, by have := okm_le hok; omega⟩
      replace hb3 := below_next hb2 hb2.size hb3
      clear hb2
      have ht3 : 0 ≤ t0 % 3 ∧ t0 % 3 < 3 := by omega
      obtain ⟨t, htn⟩ : ∃ t : Nat, t0 % 3 = t := ⟨(t0 % 3).toNat, by omega⟩
      rw [htn] at ht3
      have HP := hid hp
      have HOK := hid hok
      clear hp hok
      go_wp2_with (fail)
      refine (places_c seed many t (by omega) hs hm w3).mono ?_
      rintro e w4 ⟨v4, xs, rfl, oX, hn1, hn2, hxb, hb4⟩
      obtain ⟨X, cx, eX, hXc⟩ := oX.form
      rw [List.length_map] at eX
      subst eX
      replace hb4 := below_next hb3 hb3.size hb4
      clear hb3 oX
      go_wp2_with (fail)
      refine (unlike05_c X xs cx w4 hXc (by omega)).mono ?_
      rintro e w5 ⟨b, rfl, hun, hd5⟩
      have hb5 := below_dr hb4 hd5
      have hX5 := hXc.dr hd5
      clear hb4 hXc hd5
      cases b with
      | false =>
        go_wp2
        go_ret
        exact ⟨rfl, hb5⟩
      | true =>
        have HAP := hid (places_apart HP.out hq7 hxb (hun rfl))
        have hxu : U64s xs := fun x hx => by have := hxb x hx; exact ⟨by omega, by omega⟩
        clear hun
        go_wp2_with (fail)
        refine (row05_c A cs ca t q w5 (HA.out.below hb5) (by omega) (by omega) HU0.out (by omega)).mono ?_
        rintro e w6 ⟨v6, rfl, oC, hb6⟩
        have hCl := rowK5_len cs t q (t + 1)
        have hCr := rowL5_red cs t q
        have hCu := rowL5_u64 cs t HOK.out
        rw [show rowK5 cs t q (t + 1) = rowL5 cs t q from rfl] at hCl
        generalize rowL5 cs t q = C at *
        obtain ⟨A6, c6, e6, hC6⟩ := oC.form
        rw [List.length_map] at e6
        subst e6
        have hX6 := hX5.below hb6
        have hb6w := below_next hb5 hb5.size hb6
        have HCL := hid hCl
        have HCR := hid hCr
        have HX6 := hid hX6
        have HC6 := hid hC6
        have HB6 := hid hb6w
        clear hX5 hX6 hb5 hb6 hb6w hCl hCr hC6 oC
        go_upto_region 10 with (fail)
        go_loopw [16, 17] (fun y i wr => ∃ k : Nat, i = .int .i64 (k : Int) ∧ k ≤ xs.length ∧ Hid (Own wr w6.heap.size 24 y (((xs.take k).map fun x => mEval C x q).map (.int .u64)) ∧ Below w6.heap.size w6 wr)) (fun _ i _ => xs.length - (intOf i).toNat)
        case atStart => exact ⟨0, rfl, by omega, hid ⟨Own.nil _ _ _, Below.refl _ _⟩⟩
        case round =>
          obtain ⟨k, rfl, hk, HI⟩ := hrel
          by_cases hlt : k < xs.length
          · obtain ⟨x, hx⟩ := get_of_lt hlt
            obtain ⟨bb, off, rfl, hc⟩ := (HX6.out.below HI.out.2).at_map hx
            have hCc := HC6.out.below HI.out.2
            have hux := hxu x (List.mem_of_getElem? hx)
            have HTK := hid (take_snocP hx)
            have hO := HI.out.1
            have hbl := HI.out.2
            have HLX := hid (show (((xs.take k).map fun x => mEval C x q).map (Value.int .u64)).length = k by simp; omega)
            clear hx HI
            go_wp2_with (fail)
            refine (eval_c _ _ _ _ _ _ hCc (by have := HCL.out; omega) hCu hux hqu).mono ?_
            rintro e w7 ⟨rfl, hd7⟩
            have hB := Bun.nil w7
            have hO7 := hO.dr hd7
            have hb7 := below_dr hbl hd7
            obtain ⟨A7, c7, e7, _⟩ := hO7.form
            rw [HLX.out] at e7
            subst e7
            clear hO hbl hCc
            go_wp2_with (first | (refine wpList_named hB rfl ?_; clear hB; intro wn gn hB hbn hg; (try rw [hg]); clear hg; replace hO7 := hO7.below hbn; clear hbn) | (at_builtin; refine wpList_push_at elt_u64 _ rfl _ _ rfl w6.heap.size hO7 rfl _ _ rfl (hB.row (i := 0) rfl) rfl (by rw [HLX.out]; omega) (by rw [HLX.out]; omega) (Nat.le_trans hb7.size hB.b.size) ?_; intro v8 w8 ho8 hg8 _))
            have HN := hid (show Own w8 w6.heap.size 24 v8 (((xs.take (k + 1)).map fun x => mEval C x q).map (.int .u64)) ∧ Below w6.heap.size w6 w8 by
              rw [HTK.out, List.map_append, List.map_append]
              exact ⟨ho8, (below_next hb7 hb7.size hB.b).grown hg8 (Nat.le_trans hb7.size hB.b.size) fun g e => (hO7.block g e).1⟩)
            clear hO7 ho8 hg8 hB hb7
            go_roundw
            case rel => exact ⟨k + 1, by go_num, by omega, HN⟩
            case measure => simp [intOf]; omega
          · rw [show (k : Int) = (xs.length : Int) by omega]
            obtain rfl : k = xs.length := by omega
            rw [List.take_length] at HI
            have hO := HI.out.1
            have hbl := HI.out.2
            have hlen0 : (xs.map fun x => mEval C x q).length = xs.length := by simp
            have HS := hid (LieS.start (xs := xs) (C := C) (q := q) (min t (xs.length - 2 * t - 1)))
            obtain ⟨g16, cap16, e16, hge, _, _, _, _⟩ := hO.row (by rw [List.length_map, hlen0]; omega)
            rw [List.length_map, hlen0] at e16
            subst e16
            have hge2 : w.heap.size ≤ g16 := Nat.le_trans HB6.out.size hge
            generalize (xs.map fun x => mEval C x q) = ys0 at *
            have HST := hid (show LieS xs C q (min t (xs.length - 2 * t - 1)) 0 ys0 [] ∧ Own wr w6.heap.size 24 (.slice (some ⟨g16, 0, none⟩) xs.length cap16) (ys0.map (.int .u64)) ∧ Own wr w6.heap.size 3 (.slice none 0 0) (natv []) ∧ Below w6.heap.size w6 wr from ⟨HS.out, hO, Own.nil _ _ _, hbl⟩)
            clear HI hO hbl HS hlen0
            go_upto_region 15 with (fail)
            generalize wr = wo at *
            go_loopw [18, 19] (fun o i wr => ∃ (k : Nat) (ys : List Int) (W : List Nat), i = .int .i64 (k : Int) ∧ k ≤ xs.length ∧ Hid (LieS xs C q (min t (xs.length - 2 * t - 1)) k ys W ∧ Own wr w6.heap.size 24 (.slice (some ⟨g16, 0, none⟩) xs.length cap16) (ys.map (.int .u64)) ∧ Own wr w6.heap.size 3 o (natv W) ∧ Below w6.heap.size w6 wr)) (fun _ i _ => xs.length - (intOf i).toNat)
            case atStart => exact ⟨0, ys0, [], rfl, by omega, HST⟩
            case round =>
              obtain ⟨k, ys, W, rfl, hk, HI⟩ := hrel
              have hS := HI.out.1
              have hY := HI.out.2.1
              have hW := HI.out.2.2.1
              have hbl := HI.out.2.2.2
              obtain ⟨A18, c18, e18, hW18⟩ := hW.form
              rw [List.length_map] at e18
              subst e18
              have HS := hid hS
              have hWf := hS.few
              have hyl := hS.len
              have HYL := hid hyl
              clear HI hS hyl
              by_cases hlt : k < xs.length ∧ k < lies.length
              · obtain ⟨z, hz⟩ := get_of_lt hlt.2
                obtain ⟨y, hy⟩ := get_of_lt (l := ys) (show k < ys.length by rw [HYL.out]; exact hlt.1)
                have hbw := below_next HB6.out HB6.out.size hbl
                obtain ⟨bb, off, rfl, hc⟩ := (HL.out.below hbw).at_map hz
                have huz := HU4.out z (List.mem_of_getElem? hz)
                have h0z := huz.lo
                have h2 := Int.tmod_eq_emod_of_nonneg (b := q) h0z
                have hq1 : (q == 0) = false := by simp; omega
                have hk1 : (k : Int) < (xs.length : Int) := by omega
                have hk2 : (k : Int) < (lies.length : Int) := by omega
                obtain ⟨g', cap', e', hge', hlt', hcell, hfr, hset⟩ := hY.row (by rw [List.length_map, HYL.out]; omega)
                have e2 : g16 = g' := by
                  injection e' with e1 _ _
                  injection e1 with e1
                  injection e1 with e1 _ _
                subst e2
                have HCELL := hid hcell
                have HSET := hid hset
                clear hcell hset e'
                have HZ := hid hz
                have HYY := hid hy
                clear hz hy
                obtain ⟨r, hr⟩ : ∃ r, z % q = r := ⟨_, rfl⟩
                have HR := hid hr
                rw [hr] at h2
                clear hr
                have hmin : min (t : Int) ((xs.length : Int) - 2 * (t : Int) - 1) = ((min t (xs.length - 2 * t - 1) : Nat) : Int) := by omega
                obtain ⟨M, hM⟩ : ∃ M, min t (xs.length - 2 * t - 1) = M := ⟨_, rfl⟩
                have HMM := hid hM
                rw [hM] at hmin hWf
                clear hM
                by_cases hr0 : r = 0
                · have hne : (r != 0) = false := by simpa using hr0
                  have HN := hid (show LieS xs C q (min t (xs.length - 2 * t - 1)) (k + 1) ys W ∧ Own wr w6.heap.size 24 (.slice (some ⟨g16, 0, none⟩) xs.length cap16) (ys.map (.int .u64)) ∧ Own wr w6.heap.size 3 (.slice A18 W.length c18) (natv W) ∧ Below w6.heap.size w6 wr from ⟨HS.out.keep HOK.out hlt.1, hY, hW, hbl⟩)
                  clear hY hW hbl hr0
                  go_wp2
                  go_roundw
                  case rel => exact ⟨k + 1, ys, W, by go_num, by omega, HN⟩
                  case measure => simp [intOf]; omega
                · have hne : (r != 0) = true := by simpa using hr0
                  by_cases hWl : W.length < M
                  · have hWl' : (W.length : Int) < (M : Int) := by omega
                    have cy := HCELL.out k (.int .u64 y) (by rw [List.getElem?_map, HYY.out]; rfl)
                    have huy : U64 y := HS.out.u y (List.mem_of_getElem? HYY.out)
                    go_upto_region 18 with (fail)
                    refine Rgb.wp_region (l := [_, _, _, _, _, _, _, _, _, _, _, _]) (tail := [_, _]) (Rgb.grows _ 14) [some 97, some 98, some 99, some 100, some 101, some 102, some 103, some 104, some 105, some 106, some 107, some 108, some 109, none] 121 (by kernel_rfl) (by kernel_rfl) (by kernel_rfl) rfl (Rgb.grows_fair _ _) (Rgb.keep_drew _) (trivial) ?_
                    refine' Rgb.op_is _ [] rfl rfl (by kernel_rfl) ?_ ?_
                    rotate_left
                    · intro wx hb
                      refine Rgb.from_nil fun T hT => ?_
                      go_wp2
                      refine hT _ _ rfl (by first | exact Rgb.Keep.refl _ | exact below_of_dr hw2 | exact hw2 | exact (Below.refl _ _).alloc (Nat.le_refl _) _) ?_
                      simp only [Rgb.last, List.getElem?_toArray, List.getElem?_cons_succ, List.getElem?_cons_zero, Option.getD_some]
                      rfl
                    refine' Rgb.op_is _ [] rfl rfl (by kernel_rfl) ?_ ?_
                    rotate_left
                    · intro wx hb
                      refine Rgb.from_nil fun T hT => ?_
                      go_wp2
                      refine hT _ _ rfl (by first | exact Rgb.Keep.refl _ | exact below_of_dr hw2 | exact hw2 | exact (Below.refl _ _).alloc (Nat.le_refl _) _) ?_
                      simp only [Rgb.last, List.getElem?_toArray, List.getElem?_cons_succ, List.getElem?_cons_zero, Option.getD_some]
                      rfl
                    refine' Rgb.op_is _ [] rfl rfl (by kernel_rfl) ?_ ?_
                    rotate_left
                    · intro wx hb
                      refine Rgb.from_nil fun T hT => ?_
                      go_wp2
                      refine hT _ _ rfl (by first | exact Rgb.Keep.refl _ | exact below_of_dr hw2 | exact hw2 | exact (Below.refl _ _).alloc (Nat.le_refl _) _) ?_
                      simp only [Rgb.last, List.getElem?_toArray, List.getElem?_cons_succ, List.getElem?_cons_zero, Option.getD_some]
                      rfl
                    refine' Rgb.op_is _ [] rfl rfl (by kernel_rfl) ?_ ?_
                    rotate_left
                    · intro wx hb
                      refine Rgb.from_nil fun T hT => ?_
                      go_wp2
                      refine hT _ _ rfl (by first | exact Rgb.Keep.refl _ | exact below_of_dr hw2 | exact hw2 | exact (Below.refl _ _).alloc (Nat.le_refl _) _) ?_
                      simp only [Rgb.last, List.getElem?_toArray, List.getElem?_cons_succ, List.getElem?_cons_zero, Option.getD_some]
                      rfl
                    refine Rgb.op_is (.pointer (some ⟨g16, k, none⟩)) [2, 3] rfl rfl (by kernel_rfl) ?_ ?_
                    · intro wx hb
                      refine Rgb.from_is (some 99) rfl rfl ?_
                      refine Rgb.from_is (some 100) rfl rfl ?_
                      refine Rgb.from_nil fun T hT => ?_
                      go_wp2
                      exact hT _ _ rfl (by first | exact Rgb.Keep.refl _ | exact below_of_dr hw2 | exact hw2 | exact (Below.refl _ _).alloc (Nat.le_refl _) _) (by first | rfl | exact congrArg _ (by decide))
                    refine Rgb.op_is (.int .u64 y) [4] rfl rfl (by kernel_rfl) ?_ ?_
                    · intro wx hb
                      refine Rgb.from_is (some 101) rfl rfl ?_
                      refine Rgb.from_nil fun T hT => ?_
                      have g1 := (hb.cell (lt_of_cell cy)).trans cy
                      go_wp2
                      exact hT _ _ rfl (by first | exact Rgb.Keep.refl _ | exact below_of_dr hw2 | exact hw2 | exact (Below.refl _ _).alloc (Nat.le_refl _) _) (by first | rfl | exact congrArg _ (by decide))
                    refine' Rgb.op_is _ [] rfl rfl (by kernel_rfl) ?_ ?_
                    rotate_left
                    · intro wx hb
                      refine Rgb.from_nil fun T hT => ?_
                      go_wp2
                      refine hT _ _ rfl (by first | exact Rgb.Keep.refl _ | exact below_of_dr hw2 | exact hw2 | exact (Below.refl _ _).alloc (Nat.le_refl _) _) ?_
                      simp only [Rgb.last, List.getElem?_toArray, List.getElem?_cons_succ, List.getElem?_cons_zero, Option.getD_some]
                      rfl
                    refine' Rgb.op_is _ [] rfl rfl (by kernel_rfl) ?_ ?_
                    rotate_left
                    · intro wx hb
                      refine Rgb.from_nil fun T hT => ?_
                      go_wp2
                      refine hT _ _ rfl (by first | exact Rgb.Keep.refl _ | exact below_of_dr hw2 | exact hw2 | exact (Below.refl _ _).alloc (Nat.le_refl _) _) ?_
                      simp only [Rgb.last, List.getElem?_toArray, List.getElem?_cons_succ, List.getElem?_cons_zero, Option.getD_some]
                      rfl
                    refine Rgb.op_is (.pointer (some ⟨bb, off + k, none⟩)) [6, 7] rfl rfl (by kernel_rfl) ?_ ?_
                    · intro wx hb
                      refine Rgb.from_is (some 103) rfl rfl ?_
                      refine Rgb.from_is (some 104) rfl rfl ?_
                      refine Rgb.from_nil fun T hT => ?_
                      go_wp2
                      exact hT _ _ rfl (by first | exact Rgb.Keep.refl _ | exact below_of_dr hw2 | exact hw2 | exact (Below.refl _ _).alloc (Nat.le_refl _) _) (by first | rfl | exact congrArg _ (by decide))
                    refine Rgb.op_is (.int .u64 z) [8] rfl rfl (by kernel_rfl) ?_ ?_
                    · intro wx hb
                      refine Rgb.from_is (some 105) rfl rfl ?_
                      refine Rgb.from_nil fun T hT => ?_
                      have g1 := (hb.cell (lt_of_cell hc)).trans hc
                      go_wp2
                      exact hT _ _ rfl (by first | exact Rgb.Keep.refl _ | exact below_of_dr hw2 | exact hw2 | exact (Below.refl _ _).alloc (Nat.le_refl _) _) (by first | rfl | exact congrArg _ (by decide))
                    refine' Rgb.op_is _ [] rfl rfl (by kernel_rfl) ?_ ?_
                    rotate_left
                    · intro wx hb
                      refine Rgb.from_nil fun T hT => ?_
                      go_wp2
                      refine hT _ _ rfl (by first | exact Rgb.Keep.refl _ | exact below_of_dr hw2 | exact hw2 | exact (Below.refl _ _).alloc (Nat.le_refl _) _) ?_
                      simp only [Rgb.last, List.getElem?_toArray, List.getElem?_cons_succ, List.getElem?_cons_zero, Option.getD_some]
                      rfl
                    refine Rgb.op_is (.int .u64 (mAdd y z q)) [5, 9, 10] rfl rfl (by kernel_rfl) ?_ ?_
                    · intro wx hb
                      refine Rgb.from_is (some 102) rfl rfl ?_
                      refine Rgb.from_is (some 106) rfl rfl ?_
                      refine Rgb.from_is (some 107) rfl rfl ?_
                      refine Rgb.from_nil fun T hT => ?_
                      go_wp2_with (go_at_call 29; refine (add_c _ _ _ huy huz hqu _).mono ?_; rintro e w9 ⟨rfl, hw9⟩)
                      exact hT _ _ rfl (below_of_dr hw9) rfl
                    refine Rgb.walk_nil [0, 1, 2, 3, 4, 5, 6, 7, 8, 9, 10, 11] (by kernel_rfl) ?_
                    intro wx hb
                    refine Rgb.from_is (some 97) rfl rfl ?_
                    refine Rgb.from_is (some 98) rfl rfl ?_
                    refine Rgb.from_is (some 99) rfl rfl ?_
                    refine Rgb.from_is (some 100) rfl rfl ?_
                    refine Rgb.from_is (some 101) rfl rfl ?_
                    refine Rgb.from_is (some 102) rfl rfl ?_
                    refine Rgb.from_is (some 103) rfl rfl ?_
                    refine Rgb.from_is (some 104) rfl rfl ?_
                    refine Rgb.from_is (some 105) rfl rfl ?_
                    refine Rgb.from_is (some 106) rfl rfl ?_
                    refine Rgb.from_is (some 107) rfl rfl ?_
                    refine Rgb.from_is (some 108) rfl rfl ?_
                    refine Rgb.from_nil ?_
                    simp only [List.map, Act.put, List.setIfInBounds_toArray, List.set_cons_zero, List.set_cons_succ]
                    have hYx := hY.below hb
                    have hWx := hW.below hb
                    have hbx := below_next hbl hbl.size hb
                    obtain ⟨g2, cap2, e2, hge2', hlt2, hcell2, hfr2, hset2⟩ := hYx.row (by rw [List.length_map, HYL.out]; omega)
                    have e3 : g16 = g2 := by
                      injection e2 with e1 _ _
                      injection e1 with e1
                      injection e1 with e1 _ _
                    subst e3
                    have c2 := hcell2 k (.int .u64 y) (by rw [List.getElem?_map, HYY.out]; rfl)
                    have f2 := hfr2 k
                    have hYS := hset2 wx rfl k (.int .u64 (mAdd y z q)) (by rw [List.length_map, HYL.out]; exact hlt.1)
                    rw [← List.map_set] at hYS
                    have hWS : Own (wx.setCell ⟨g16, k, none⟩ (.int .u64 (mAdd y z q))) w6.heap.size 3 (.slice A18 W.length c18) (natv W) := hWx.keep fun b hb' => Below.heap_setCell wx ⟨g16, k, none⟩ _ b fun e => own_types hYx hWx (by decide) rfl (by rw [← e]; exact hb')
                    have hbS := hbx.setCell (p := ⟨g16, k, none⟩) hge (.int .u64 (mAdd y z q))
                    clear hcell2 hset2 e2 hY hW hbl hYx hWx hbx cy hc
                    go_upto_region 19 with (fail)
                    clear c2 f2 hb hfr hfr2
                    generalize wx.setCell ⟨g16, k, none⟩ (.int .u64 (mAdd y z q)) = ws at *
                    have hB := Bun.nil ws
                    have hne2 := fun g (hg : (Value.slice A18 W.length c18).ownBlock = some g) => own_types hWS hYS (by decide) hg
                    go_wp2_with (first | (refine wpList_named hB rfl ?_; clear hB; intro wn gn hB hbn hg; (try rw [hg]); clear hg; replace hWS := hWS.below hbn; replace hYS := hYS.below hbn; clear hbn) | (at_builtin; refine wpList_push_at elt_int _ rfl _ _ rfl w6.heap.size hWS rfl (.int .i64 (k : Int)) _ rfl (hB.row (i := 0) rfl) rfl (by rw [List.length_map]; omega) (by rw [List.length_map]; omega) (Nat.le_trans hbS.size hB.b.size) ?_; intro v8 w8 ho8 hg8 _))
                    have HN := hid (show LieS xs C q (min t (xs.length - 2 * t - 1)) (k + 1) (ys.set k (mAdd y z q)) (W ++ [k]) ∧ Own w8 w6.heap.size 24 (.slice (some ⟨g16, 0, none⟩) xs.length cap16) ((ys.set k (mAdd y z q)).map (.int .u64)) ∧ Own w8 w6.heap.size 3 v8 (natv (W ++ [k])) ∧ Below w6.heap.size w6 w8 from
                      ⟨HS.out.lie HOK.out hlt.1 HYY.out (by rw [HR.out]; exact hr0) (by rw [HMM.out]; exact hWl), hYS.keep fun g hg => hg8.block g (hYS.block g hg).2 fun e => hne2 g e.symm hg, by rw [natv, List.map_append]; exact ho8, (below_next hbS hbS.size hB.b).grown hg8 (Nat.le_trans hbS.size hB.b.size) fun g e => (hWS.block g e).1⟩)
                    clear hYS hWS hbS hB ho8 hg8 hne2 hr0
                    go_roundw
                    case rel => exact ⟨k + 1, _, _, by go_num, by omega, HN⟩
                    case measure => simp [intOf]; omega
                  · have hWl' : ¬ (W.length : Int) < (M : Int) := by omega
                    have HN := hid (show LieS xs C q (min t (xs.length - 2 * t - 1)) (k + 1) ys W ∧ Own wr w6.heap.size 24 (.slice (some ⟨g16, 0, none⟩) xs.length cap16) (ys.map (.int .u64)) ∧ Own wr w6.heap.size 3 (.slice A18 W.length c18) (natv W) ∧ Below w6.heap.size w6 wr from ⟨HS.out.keep HOK.out hlt.1, hY, hW, hbl⟩)
                    clear hY hW hbl hr0
                    go_wp2
                    go_roundw
                    case rel => exact ⟨k + 1, ys, W, by go_num, by omega, HN⟩
                    case measure => simp [intOf]; omega
              · have hend : k = xs.length ∨ (k < xs.length ∧ ¬ k < lies.length) := by omega
                have HISB := hid (HS.out.told hk (by omega) HP.out HAP.out hn2 hn1 HCL.out HCR.out)
                have hbw := below_next HB6.out HB6.out.size hbl
                obtain ⟨AY, cY, eY, hYc⟩ := hY.form
                injection eY with e1 e7 e8
                clear e7 e8
                subst e1
                have hp := is_c X (some ⟨g16, 0, none⟩) A6 A18 xs ys C W cx cap16 c6 c18 t q wr (HX6.out.below hbl) hYc (HC6.out.below hbl) hW18 (by omega) (by rw [HYL.out]; omega) (by have := HCL.out; omega) (by have h9 := HS.out.few; omega) hxu HS.out.u ⟨by omega, by omega⟩ hqu (HT.out.below hbw)
                rw [HYL.out, HISB.out] at hp
                have HPP := hid hp
                have HBW := hid hbw
                clear hp hY hW hbl hYc hW18 hbw
                rcases hend with hk9 | ⟨hk8, hk9⟩
                · have hk8 : ¬ (k : Int) < (xs.length : Int) := by omega
                  clear hk9
                  go_wp2_with (fail)
                  refine HPP.out.mono ?_
                  rintro e w9 ⟨rfl, hb9⟩
                  go_wp2
                  go_ret
                  exact ⟨rfl, below_next HBW.out HBW.out.size hb9⟩
                · have hk7 : (k : Int) < (xs.length : Int) := by omega
                  have hk6 : ¬ (k : Int) < (lies.length : Int) := by omega
                  clear hk8 hk9
                  go_wp2_with (fail)
                  refine HPP.out.mono ?_
                  rintro e w9 ⟨rfl, hb9⟩
                  go_wp2
                  go_ret
                  exact ⟨rfl, below_next HBW.out HBW.out.size hb9⟩
end Go.Proofs.YtmmmdidbnjcooaaDoor
