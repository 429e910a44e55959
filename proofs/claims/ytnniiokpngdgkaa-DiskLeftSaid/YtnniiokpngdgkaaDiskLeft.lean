/-
  PROVED HERE: DiskLeft: behind a crash of which all is kept the platter is what was read; of which nothing is, and no bytes, what it was; each sector else is what it was, or what some write made of it, but for one at most.
-/
import Derived.Test.YtnniiokpngdgkaaDkW
namespace Go.Proofs.Ytnniiokpngdgkaa
open Go.ChangeShapes Go.WideShapes Go.ChangeAt Go.RowKit Go.Maps Go.Shelf Go.Proofs

set_option maxRecDepth 100000 in
set_option maxHeartbeats 4000000 in
theorem diskLeft_c (A : Option Addr) (l : List St) (c : Nat) (A2 : Option Addr) (l2 : List St) (c2 : Nat) (A3 : Option Addr) (ks : List Bool) (c3 : Nat) (n : Int) (w : World) (hA : CellsS w A l) (hl : l.length ≤ 9223372036854775807) (ho : ∀ u ∈ l, u.Ok w) (hA2 : CellsS w A2 l2) (hl2 : l2.length ≤ 9223372036854775807) (ho2 : ∀ u ∈ l2, u.Ok w) (hA3 : Cells w A3 (ks.map Value.bool)) (hks : ks.length ≤ 140737488355327) (hn : I64 n) [DecidableEq Lit] :
    Calls Try.prog 8 #[.slice A l.length c, .slice A2 l2.length c2, .slice A3 ks.length c3, .int .i64 n] w fun e w' => e = .returned (.bool true) ∧ Below w.heap.size w w' := by
  have HO := hid ho
  have HA := hid hA
  have HO2 := hid ho2
  have HA2 := hid hA2
  have HA3 := hid hA3
  clear ho hA ho2 hA2 hA3
  go_enter Try.func8, Try.ntmps8
  go_wp2_with (fail)
  refine (works_c w).mono ?_
  rintro e w1 ⟨rfl, hb⟩
  go_wp2_with (fail)
  refine (long_c A l c w1 (HA.out.below hb) hl fun u hu => ⟨(HO.out u hu).s, (HO.out u hu).kl⟩).mono ?_
  rintro e w2 ⟨⟨b, rfl, hfew⟩, hd⟩
  replace hb := below_dr hb hd
  cases b with
  | true =>
    clear hfew hd
    go_wp2_with (fail)
    refine (works_c w2).mono ?_
    rintro e w3 ⟨rfl, hb3⟩
    go_wp2
    go_ret
    exact ⟨rfl, below_next hb hb.size hb3⟩
  | false =>
    have hfl := hfew rfl
    clear hfew hd
    go_wp2_with (fail)
    refine (long_c A2 l2 c2 w2 (HA2.out.below hb) hl2 fun u hu => ⟨(HO2.out u hu).s, (HO2.out u hu).kl⟩).mono ?_
    rintro e w3 ⟨⟨b, rfl, hfew⟩, hd⟩
    replace hb := below_dr hb hd
    cases b with
    | true =>
      clear hfew hd
      go_wp2_with (fail)
      refine (works_c w3).mono ?_
      rintro e w4 ⟨rfl, hb4⟩
      go_wp2
      go_ret
      exact ⟨rfl, below_next hb hb.size hb4⟩
    | false =>
      have hfl2 := hfew rfl
      clear hfew hd
      by_cases h6 : 1000 < ks.length
      · go_wp2_with (fail)
        refine (works_c w3).mono ?_
        rintro e w4 ⟨rfl, hb4⟩
        go_wp2
        go_ret
        exact ⟨rfl, below_next hb hb.size hb4⟩
      · go_wp2_with (fail)
        refine (after_c A l c w3 (HA.out.below hb) hfl fun u hu => Ok.below (HO.out u hu) hb).mono ?_
        rintro e w4 ⟨g, gm, v, rfl, hD, hB⟩
        have hok := runs_ok (w := w) l HO.out
        generalize runs l = d at *
        have hM : Many w3 w4 [⟨g, gm, v, d⟩] := Many.of hD hB
        clear hD hB
        go_wp2_with (fail)
        refine (start_c g gm v d _ (hM.at_ 0 rfl)).mono ?_
        rintro e w5 ⟨rfl, hD, hT⟩
        replace hM := hM.set 0 rfl hD Then.refl hT
        replace hok := hok.start
        have HSY := hid (sync_plat hok (by rfl) (by rfl) 0)
        have hfu := sync_fu (d := d.start) rfl rfl
        clear hD hT
        generalize d.start = d1 at *
        go_wp2_with (fail)
        refine (sync_c g gm v d1 _ w5 (hM.at_ 0 rfl) hok (by omega)).mono ?_
        rintro e w6 ⟨v2, rfl, hD, hTh, hT⟩
        replace hM := hM.set 0 rfl hD hTh hT
        clear hD hTh hT
        obtain ⟨-, hC0, -, hde⟩ := HSY.out
        replace hok := hok.sync
        clear HSY
        generalize d1.sync = d at *
        have HW := hid (fun dl u => write_with (d := d) (l := dl) (u := u) hde hfu)
        have HOK := hid hok
        clear hok hfu
        go_wp2_with (fail)
        refine (copy_c g gm v2 d _ w6 (hM.at_ 0 rfl) HOK.out (by omega)).mono ?_
        rintro e w7 ⟨g1, gm1, v1, rfl, hD1, h1, h2, h3, hb7⟩
        replace hM := hM.add hD1 h1 h2 h3 hb7
        clear hD1 h1 h2 h3 hb7
        have hM2 : Many w3 w7 [⟨g1, gm1, v1, d⟩, ⟨g, gm, v2, withC d []⟩] := by rw [withC_nil hC0]; exact hM
        clear hM
        go_wp2
        go_loopw [11, 12] (fun u i wq => ∃ (k : Nat) (v : Value), i = .int .i64 k ∧ k ≤ l2.length ∧ Many w3 wq [⟨g1, gm1, v1, d⟩, ⟨g, gm, v, withC d ((l2.take k).filter okS)⟩] ∧ wq.ownsRow w7.heap.size 35 5 u ((l2.take k).filter okS).length (((l2.take k).filter okS).flatMap scl) ∧ w7.heap.size ≤ wq.heap.size) (fun _ i _ => l2.length - (intOf i).toNat)
        case atStart => exact ⟨0, v2, rfl, by omega, hM2, ⟨rfl, .inl ⟨rfl, rfl⟩⟩, Nat.le_refl _⟩
        case round =>
          obtain ⟨k, v, rfl, hk, hMr, hOr, hsz⟩ := hrel
          have h37 := hM2.b.size
          clear hM2
          by_cases hlt : k < l2.length
          · obtain ⟨x, hx⟩ := get_of_lt hlt
            have hxo := HO2.out x (List.mem_of_getElem? hx)
            have hxa := hxo.at_
            have hxs := hxo.s
            have hbr := below_next hb hb.size hMr.b
            have hfl3 : ((l2.take k).filter okS).length ≤ k := Nat.le_trans (List.length_filter_le _ _) (by rw [List.length_take]; omega)
            have HF := hid (show (l2.take (k + 1)).filter okS = (l2.take k).filter okS ++ if okS x then [x] else [] by
              rw [take_snoc hx, List.filter_append]
              cases h : okS x <;> simp [h])
            have HDL := hid (show ∀ u ∈ (l2.take k).filter okS, okS u = true from fun u hu => (List.mem_filter.1 hu).2)
            obtain ⟨b, off, rfl, d0, d1, d2, d3, d4⟩ := cellsS5 HA2.out hbr hx
            have HX := hid hx
            have HOr := hid hOr
            generalize (l2.take k).filter okS = dl at *
            have hb0 := hb
            clear hx hxo hOr
            go_wp2_with (fail)
            have HCELL := hid (fun wx (hbx : Below wr.heap.size wr wx) => cells5_at (HA2.out.below (below_next hbr hbr.size hbx)) HX.out)
            refine Rgd.wp_region (l := [_, _, _, _, _, _, _, _, _, _, _]) (tail := [_, _]) (Rgd.keep wr [] [(0, 0), (0, 0), (0, 0), (0, 0), (0, 0), (0, 0), (0, 0), (0, 0), (0, 0), (0, 0), (0, 0)]) [some 54, some 55, some 56, some 57, some 58, some 59, some 60, some 61, some 62, some 63, some 64, some 65, some 66] 201 rfl [[], [], [], [1, 2], [1, 2, 3], [1, 2, 3, 4], [], [], [6, 7], [6, 7, 8], [6, 7, 8, 9]] (by kernel_rfl) (by kernel_rfl) (by kernel_rfl) (by kernel_rfl) (by kernel_rfl) rfl (Rgd.keep_fair) (Rgd.keep_start _) ?_
            refine' Rgd.op_is _ [] 0 0 rfl rfl rfl (by kernel_rfl) ?_ ?_
            rotate_left
            · intro p wx hp1 hp2 hb
              obtain rfl : p = 0 := by omega
              refine Rgd.from_nil fun T hT => ?_
              go_wp2
              refine hT _ _ rfl (by first | exact Rgd.Keep.refl _ | exact below_of_dr hw2 | exact hw2 | exact (Below.refl _ _).alloc (Nat.le_refl _) _) ?_
              simp only [Rgd.last, List.getElem?_toArray, List.getElem?_cons_succ, List.getElem?_cons_zero, Option.getD_some]
              rfl
            refine' Rgd.op_is _ [] 0 0 rfl rfl rfl (by kernel_rfl) ?_ ?_
            rotate_left
            · intro p wx hp1 hp2 hb
              obtain rfl : p = 0 := by omega
              refine Rgd.from_nil fun T hT => ?_
              go_wp2
              refine hT _ _ rfl (by first | exact Rgd.Keep.refl _ | exact below_of_dr hw2 | exact hw2 | exact (Below.refl _ _).alloc (Nat.le_refl _) _) ?_
              simp only [Rgd.last, List.getElem?_toArray, List.getElem?_cons_succ, List.getElem?_cons_zero, Option.getD_some]
              rfl
            refine' Rgd.op_is _ [] 0 0 rfl rfl rfl (by kernel_rfl) ?_ ?_
            rotate_left
            · intro p wx hp1 hp2 hb
              obtain rfl : p = 0 := by omega
              refine Rgd.from_nil fun T hT => ?_
              go_wp2
              refine hT _ _ rfl (by first | exact Rgd.Keep.refl _ | exact below_of_dr hw2 | exact hw2 | exact (Below.refl _ _).alloc (Nat.le_refl _) _) ?_
              simp only [Rgd.last, List.getElem?_toArray, List.getElem?_cons_succ, List.getElem?_cons_zero, Option.getD_some]
              rfl
            refine' Rgd.op_is _ [1, 2] 0 0 rfl rfl rfl (by kernel_rfl) ?_ ?_
            rotate_left
            · intro p wx hp1 hp2 hb
              obtain rfl : p = 0 := by omega
              refine Rgd.from_is (some 55) rfl rfl ?_
              refine Rgd.from_is (some 56) rfl rfl ?_
              refine Rgd.from_nil fun T hT => ?_
              go_wp2
              refine hT _ _ rfl (by first | exact Rgd.Keep.refl _ | exact below_of_dr hw2 | exact hw2 | exact (Below.refl _ _).alloc (Nat.le_refl _) _) ?_
              simp only [Rgd.last, List.getElem?_toArray, List.getElem?_cons_succ, List.getElem?_cons_zero, Option.getD_some]
              rfl
            refine' Rgd.op_is _ [3] 0 0 rfl rfl rfl (by kernel_rfl) ?_ ?_
            rotate_left
            · intro p wx hp1 hp2 hb
              obtain rfl : p = 0 := by omega
              refine Rgd.from_is (some 57) rfl rfl ?_
              refine Rgd.from_nil fun T hT => ?_
              go_wp2
              refine hT _ _ rfl (by first | exact Rgd.Keep.refl _ | exact below_of_dr hw2 | exact hw2 | exact (Below.refl _ _).alloc (Nat.le_refl _) _) ?_
              simp only [Rgd.last, List.getElem?_toArray, List.getElem?_cons_succ, List.getElem?_cons_zero, Option.getD_some]
              rfl
            refine Rgd.op_is (.int .i64 x.at_) [4] 0 0 rfl rfl rfl (by kernel_rfl) ?_ ?_
            · intro p wx hp1 hp2 hb
              obtain rfl : p = 0 := by omega
              refine Rgd.from_is (some 58) rfl rfl ?_
              refine Rgd.from_nil fun T hT => ?_
              have q := (HCELL.out wx hb).2.1
              go_wp2
              exact hT _ _ rfl (by first | exact Rgd.Keep.refl _ | exact below_of_dr hw2 | exact hw2 | exact (Below.refl _ _).alloc (Nat.le_refl _) _) (by first | rfl | exact congrArg _ (by decide))
            refine' Rgd.op_is _ [] 0 0 rfl rfl rfl (by kernel_rfl) ?_ ?_
            rotate_left
            · intro p wx hp1 hp2 hb
              obtain rfl : p = 0 := by omega
              refine Rgd.from_nil fun T hT => ?_
              go_wp2
              refine hT _ _ rfl (by first | exact Rgd.Keep.refl _ | exact below_of_dr hw2 | exact hw2 | exact (Below.refl _ _).alloc (Nat.le_refl _) _) ?_
              simp only [Rgd.last, List.getElem?_toArray, List.getElem?_cons_succ, List.getElem?_cons_zero, Option.getD_some]
              rfl
            refine' Rgd.op_is _ [] 0 0 rfl rfl rfl (by kernel_rfl) ?_ ?_
            rotate_left
            · intro p wx hp1 hp2 hb
              obtain rfl : p = 0 := by omega
              refine Rgd.from_nil fun T hT => ?_
              go_wp2
              refine hT _ _ rfl (by first | exact Rgd.Keep.refl _ | exact below_of_dr hw2 | exact hw2 | exact (Below.refl _ _).alloc (Nat.le_refl _) _) ?_
              simp only [Rgd.last, List.getElem?_toArray, List.getElem?_cons_succ, List.getElem?_cons_zero, Option.getD_some]
              rfl
            refine' Rgd.op_is _ [6, 7] 0 0 rfl rfl rfl (by kernel_rfl) ?_ ?_
            rotate_left
            · intro p wx hp1 hp2 hb
              obtain rfl : p = 0 := by omega
              refine Rgd.from_is (some 60) rfl rfl ?_
              refine Rgd.from_is (some 61) rfl rfl ?_
              refine Rgd.from_nil fun T hT => ?_
              go_wp2
              refine hT _ _ rfl (by first | exact Rgd.Keep.refl _ | exact below_of_dr hw2 | exact hw2 | exact (Below.refl _ _).alloc (Nat.le_refl _) _) ?_
              simp only [Rgd.last, List.getElem?_toArray, List.getElem?_cons_succ, List.getElem?_cons_zero, Option.getD_some]
              rfl
            refine' Rgd.op_is _ [8] 0 0 rfl rfl rfl (by kernel_rfl) ?_ ?_
            rotate_left
            · intro p wx hp1 hp2 hb
              obtain rfl : p = 0 := by omega
              refine Rgd.from_is (some 62) rfl rfl ?_
              refine Rgd.from_nil fun T hT => ?_
              go_wp2
              refine hT _ _ rfl (by first | exact Rgd.Keep.refl _ | exact below_of_dr hw2 | exact hw2 | exact (Below.refl _ _).alloc (Nat.le_refl _) _) ?_
              simp only [Rgd.last, List.getElem?_toArray, List.getElem?_cons_succ, List.getElem?_cons_zero, Option.getD_some]
              rfl
            refine Rgd.op_is (.string x.s) [9] 0 0 rfl rfl rfl (by kernel_rfl) ?_ ?_
            · intro p wx hp1 hp2 hb
              obtain rfl : p = 0 := by omega
              refine Rgd.from_is (some 63) rfl rfl ?_
              refine Rgd.from_nil fun T hT => ?_
              have q := (HCELL.out wx hb).2.2.1
              go_wp2
              exact hT _ _ rfl (by first | exact Rgd.Keep.refl _ | exact below_of_dr hw2 | exact hw2 | exact (Below.refl _ _).alloc (Nat.le_refl _) _) (by first | rfl | exact congrArg _ (by decide))
            refine Rgd.walk_nil [0, 1, 2, 3, 4, 5, 6, 7, 8, 9, 10] (by kernel_rfl) ?_
            intro wx hb
            refine Rgd.from_is (some 54) rfl rfl ?_
            refine Rgd.from_is (some 55) rfl rfl ?_
            refine Rgd.from_is (some 56) rfl rfl ?_
            refine Rgd.from_is (some 57) rfl rfl ?_
            refine Rgd.from_is (some 58) rfl rfl ?_
            refine Rgd.from_is (some 59) rfl rfl ?_
            refine Rgd.from_is (some 60) rfl rfl ?_
            refine Rgd.from_is (some 61) rfl rfl ?_
            refine Rgd.from_is (some 62) rfl rfl ?_
            refine Rgd.from_is (some 63) rfl rfl ?_
            refine Rgd.from_is (some 64) rfl rfl ?_
            refine Rgd.from_nil ?_
            simp only [List.map, Act.put, List.setIfInBounds_toArray, List.set_cons_zero, List.set_cons_succ]
            have hM3 := hMr.below hb
            have hO3 := ownsRow_below HOr.out hb
            have hsz3 := hb.size
            clear hMr
            have HC := hid (write_c g gm v (withC d dl) _ x.at_ x.s wx (hM3.at_ 1 rfl) (withC_ok HOK.out HDL.out) (by omega) hxa (by omega))
            go_wp2_with (fail)
            refine HC.out.mono ?_
            rintro e w8 ⟨v', rfl, hD, hTh, hT⟩
            have hO4 := ownsRow_tch hO3 (hM3.at_ 1 rfl) hT (by decide) (by decide)
            have hM4 := hM3.set 1 rfl hD hTh hT
            have hsz4 := hT.size
            clear HC hM3 hO3 hD hTh hT
            cases hokx : okS x with
            | true =>
              have hw := ((HW.out dl x).1 hokx)
              rw [hw.1]
              rw [hw.2] at hM4
              have HFx := hid (show (l2.take (k + 1)).filter okS = dl ++ [x] by rw [HF.out, hokx]; rfl)
              obtain ⟨d0, d1, d2, d3, d4⟩ := cells5_at (HA2.out.below (below_next hb0 hb0.size hM4.b)) HX.out
              have hO5 := ownsRow_below hO4 (below_alloc w8 (.cells (scl x).toArray 35))
              have hM5 := hM4.below (below_alloc w8 (.cells (scl x).toArray 35))
              have HN := hid (cellsS_new w8 x)
              have hsz5 : w7.heap.size ≤ (w8.alloc (.cells (scl x).toArray 35)).heap.size := by simp; omega
              clear hw hO4 hM4
              go_wp2_with (at_builtin; refine wpList_append_St (w8.alloc (.cells (scl x).toArray 35)) rfl _ _ rfl w7.heap.size _ dl.length (dl.flatMap scl) rfl hO5 (some ⟨w8.heap.size, 0, none⟩) [x] 1 rfl HN.out (by simp; omega) hsz5 ?_; intro v9 w9 hrow9 hg9)
              have hM6 := hM5.grown hO5 h37 hg9 (by decide) (by decide)
              have hs9 := hg9.size
              go_roundw
              case rel => exact ⟨k + 1, v', by go_num, by omega, by rw [HFx.out]; exact hM6, by rw [HFx.out, List.length_append, List.flatMap_append]; exact hrow9, by omega⟩
              case measure => simp [intOf]; omega
            | false =>
              have hw := ((HW.out dl x).2 hokx)
              have hne := hw.1
              rw [hw.2] at hM4
              have HFx := hid (show (l2.take (k + 1)).filter okS = dl by rw [HF.out, hokx]; simp)
              clear hw
              generalize (withC d dl).writeE x.at_ x.s = er at *
              go_wp2
              go_roundw
              case rel => exact ⟨k + 1, v', by go_num, by omega, by rw [HFx.out]; exact hM4, by rw [HFx.out]; exact hO4, by omega⟩
              case measure => simp [intOf]; omega
          · obtain rfl : k = l2.length := by omega
            rw [List.take_length] at hMr hOr
            have HDL := hid (show ∀ u ∈ l2.filter okS, okS u = true from fun u hu => (List.mem_filter.1 hu).2)
            have hdl : (l2.filter okS).length ≤ 200 := Nat.le_trans (List.length_filter_le _ _) hfl2
            generalize l2.filter okS = dl at *
            have HOKD := hid (withC_ok HOK.out HDL.out)
            have HPL := hid (fun x => (show (withC d dl).plat x = d.plat x from rfl))
            have HDC := hid (show (withC d dl).C.length = dl.length by simp)
            have HKP := hid (crash_kept (withC d dl) ks n)
            have HAL := hid (crash_all_plat HOKD.out hde 0)
            have HZE := hid (crash_zero_plat HOKD.out)
            have HCC := hid (show (withC d dl).C = dl.map ptS from rfl)
            generalize withC d dl = D at *
            go_wp2_with (fail)
            refine (copy_c g gm v D _ wr (hMr.at_ 1 rfl) HOKD.out (by omega)).mono ?_
            rintro e w8 ⟨ga, gma, va, rfl, hD1, h1, h2, h3, hb8⟩
            replace hMr := hMr.add hD1 h1 h2 h3 hb8
            replace hOr := ownsRow_below hOr hb8
            clear hD1 h1 h2 h3
            go_wp2_with (fail)
            refine (copy_c g gm v D _ w8 (hMr.at_ 2 rfl) HOKD.out (by omega)).mono ?_
            rintro e w9 ⟨gn, gmn, vn, rfl, hD1, h1, h2, h3, hb9⟩
            replace hMr := hMr.add hD1 h1 h2 h3 hb9
            replace hOr := ownsRow_below hOr hb9
            clear hD1 h1 h2 h3
            go_wp2_with (fail)
            refine (copy_c g gm v D _ w9 (hMr.at_ 3 rfl) HOKD.out (by omega)).mono ?_
            rintro e w10 ⟨gs, gms, vs, rfl, hD1, h1, h2, h3, hb10⟩
            replace hMr := hMr.add hD1 h1 h2 h3 hb10
            replace hOr := ownsRow_below hOr hb10
            clear hD1 h1 h2 h3 hb8 hb9 hb10
            obtain ⟨Ad, cd, rfl, -⟩ := cellsSt_of hOr
            have HMr := hid hMr
            have HOr := hid hOr
            have h310 := hMr.b.size
            clear hMr hOr
            go_wp2
            go_loopw [16, 17] (fun u i wq => ∃ k : Nat, i = .int .i64 k ∧ k ≤ dl.length ∧ Own wq w10.heap.size 4 u ((List.replicate k true).map Value.bool) ∧ Below w10.heap.size w10 wq) (fun _ i _ => dl.length - (intOf i).toNat)
            case atStart => exact ⟨0, rfl, by omega, ⟨rfl, .inl ⟨rfl, rfl⟩⟩, Below.refl _ _⟩
            case round =>
              obtain ⟨k, rfl, hk, hU, hbq⟩ := hrel
              by_cases hlt : k < dl.length
              · have hs : (List.replicate k true).map Value.bool ++ [Value.bool true] = (List.replicate (k + 1) true).map Value.bool := by rw [List.replicate_succ']; simp
                have hl2 : ((List.replicate k true).map Value.bool).length = k := by simp
                have HSL := hid (⟨hs, hl2⟩ : _ ∧ _)
                have hszq := hbq.size
                clear hs hl2
                go_wp2_with (at_builtin; refine wpList_push elt_bool wr rfl _ _ rfl w10.heap.size hU rfl (.bool true) rfl rfl (by rw [HSL.out.2]; omega) (by rw [HSL.out.2]; omega) (by omega) ?_; intro v' w8 hown8 hk8 hb8; rw [HSL.out.1] at hown8)
                go_roundw
                case rel => exact ⟨k + 1, by go_num, by omega, hown8, hbq.trans hb8⟩
                case measure => simp [intOf]; omega
              · obtain rfl : k = dl.length := by omega
                have hM := HMr.out.below hbq
                have hO := ownsRow_below HOr.out hbq
                obtain ⟨Aa, ca, rfl, -⟩ := hU.form
                rw [List.length_map, List.length_replicate] at hU ⊢
                clear HMr HOr hbq
                have HC := hid (crash_any_c ga gma va D _ Aa (List.replicate dl.length true) ca 0 wr (hM.at_ 2 rfl) HOKD.out (by omega) (fun wr2 hT => (hU.tch (hM.at_ 2 rfl) hT (by decide) (by decide)).cells_of) (by simp; omega) ⟨by omega, by omega⟩)
                rw [List.length_replicate] at HC
                go_wp2_with (fail)
                refine HC.out.mono ?_
                rintro e w11 ⟨va', rfl, hD, hTh, hT⟩
                replace hO := ownsRow_tch hO (hM.at_ 2 rfl) hT (by decide) (by decide)
                replace hM := hM.set 2 rfl hD hTh hT
                have HWP := hid (show ∀ x, (D.crash (List.replicate dl.length true) 0).plat x = D.read x from fun x => by have := HAL.out x; rw [HDC.out] at this; exact this)
                have HWD := hid (show (D.crash (List.replicate dl.length true) 0).de = true from rfl)
                clear HC hD hTh hT hU HAL HDC
                generalize D.crash (List.replicate dl.length true) 0 = DW at *
                go_wp2_with (fail)
                refine (crash_any_c gn gmn vn D _ none [] 0 0 w11 (hM.at_ 1 rfl) HOKD.out (by omega) (fun _ _ => .inl rfl) (by decide) ⟨by omega, by omega⟩).mono ?_
                rintro e w12 ⟨vn', rfl, hD, hTh, hT⟩
                replace hO := ownsRow_tch hO (hM.at_ 1 rfl) hT (by decide) (by decide)
                replace hM := hM.set 1 rfl hD hTh hT
                have HNP := hid (fun x => (HZE.out x).trans (HPL.out x))
                have HND := hid (show (D.crash [] 0).de = true from rfl)
                clear hD hTh hT HZE
                generalize D.crash [] 0 = DN at *
                go_wp2_with (fail)
                refine (crash_c w3 gs gms vs D _ A3 ks c3 n w12 (hM.at_ 0 rfl) HOKD.out (by omega) (hM.base_ 0 rfl) (HA3.out.below hb) (by omega) hn).mono ?_
                rintro e w13 ⟨vs', rfl, hD, hTh, hT⟩
                replace hO := ownsRow_tch hO (hM.at_ 0 rfl) hT (by decide) (by decide)
                replace hM := hM.set 0 rfl hD hTh hT
                obtain ⟨t, ht⟩ := HKP.out
                have HT := hid ht
                have HSD := hid (show (D.crash ks n).de = true from rfl)
                have HSC := hid (show (D.crash ks n).C = [] from rfl)
                clear hD hTh hT HKP ht
                generalize D.crash ks n = DS at *
                have HMH := hid hM
                have HOH := hid hO
                have h313 := hM.b
                clear hM hO
                go_wp2
                go_loopw [18, 19] (fun tv i wq => ∃ (k : Nat) (T : Int), i = .int .i64 k ∧ k ≤ dl.length ∧ tv = .int .i64 T ∧ (T = -1 ∨ T = t) ∧ Below w13.heap.size w13 wq) (fun _ i _ => dl.length - (intOf i).toNat)
                case atStart => exact ⟨0, -1, rfl, by omega, rfl, .inl rfl, Below.refl _ _⟩
                case round =>
                  obtain ⟨k, T, rfl, hk, rfl, hTT, hbq⟩ := hrel
                  by_cases hlt : k < dl.length
                  · obtain ⟨x, hx⟩ := get_of_lt hlt
                    have hia : isS x.at_ = true := by
                      have := HDL.out x (List.mem_of_getElem? hx)
                      simp only [okS, Bool.and_eq_true] at this
                      exact this.1
                    have hpa := isS_iff.1 hia
                    have hxa : I64 x.at_ := ⟨by omega, by omega⟩
                    obtain ⟨b, off, rfl, e0, e1, e2, e3, e4⟩ := (cellsS_of (ownsRow_below HOH.out hbq)).at_ hx
                    have HTX := hid (HT.out x.at_)
                    have HIA := hid hia
                    have hM := HMH.out.below hbq
                    have hdc : D.C.length ≤ 1000000 := by have := HOKD.out.len; omega
                    clear hx hia
                    generalize x.at_ = a at *
                    go_wp2_with (fail)
                    refine (platter_c ga gma va' DW a wr (hM.at_ 2 rfl) hxa).mono ?_
                    rintro e wa ⟨rfl, hba⟩
                    rw [HWP.out a]
                    replace hM := hM.below hba
                    replace hbq := below_next hbq hbq.size hba
                    clear hba
                    go_wp2_with (fail)
                    refine (read_c g gm v D a wa (hM.at_ 4 rfl) hxa hdc).mono ?_
                    rintro e wc ⟨rfl, hba⟩
                    replace hM := hM.below hba
                    replace hbq := below_next hbq hbq.size hba
                    clear hba
                    go_wp2_with (fail)
                    refine (platter_c gn gmn vn' DN a wc (hM.at_ 1 rfl) hxa).mono ?_
                    rintro e we ⟨rfl, hba⟩
                    rw [HNP.out a]
                    replace hM := hM.below hba
                    replace hbq := below_next hbq hbq.size hba
                    clear hba
                    go_wp2_with (fail)
                    refine (platter_c g1 gm1 v1 d a we (hM.at_ 3 rfl) hxa).mono ?_
                    rintro e wf ⟨rfl, hba⟩
                    replace hM := hM.below hba
                    replace hbq := below_next hbq hbq.size hba
                    clear hba
                    go_wp2_with (fail)
                    refine (platter_c gs gms vs' DS a wf (hM.at_ 0 rfl) hxa).mono ?_
                    rintro e wg ⟨rfl, hba⟩
                    replace hM := hM.below hba
                    replace hbq := below_next hbq hbq.size hba
                    clear hba
                    go_wp2_with (fail)
                    refine (platter_c g1 gm1 v1 d a wg (hM.at_ 3 rfl) hxa).mono ?_
                    rintro e wh ⟨rfl, hba⟩
                    replace hM := hM.below hba
                    replace hbq := below_next hbq hbq.size hba
                    clear hba
                    go_wp2
                    have hbq3 := hbq
                    clear hbq
                    go_loopw [22, 23] (fun kv i wq => ∃ kk : Nat, i = .int .i64 kk ∧ kk ≤ dl.length ∧ kv = .bool ((DS.plat a).toList == (d.plat a).toList || (dl.take kk).any (fun u : St => decide (u.at_ = a) && ((DS.plat a).toList == (pad u.s).toList))) ∧ Below wh.heap.size wh wq) (fun _ i _ => dl.length - (intOf i).toNat)
                    case atStart => exact ⟨0, rfl, by omega, by simp, Below.refl _ _⟩
                    case round =>
                      obtain ⟨kk, rfl, hkk, rfl, hbi⟩ := hrel
                      have hbw := below_next hbq3 hbq3.size hbi
                      by_cases hlt2 : kk < dl.length
                      · obtain ⟨y, hy⟩ := get_of_lt hlt2
                        have hys : y.s.size ≤ 512 := by
                          have := HDL.out y (List.mem_of_getElem? hy)
                          simp only [okS, Bool.and_eq_true, decide_eq_true_eq] at this
                          exact this.2
                        have HCELL := hid (fun wx (hbx : Below wr.heap.size wr wx) => cells5_at (cellsS_of (ownsRow_below HOH.out (below_next hbw hbw.size hbx))) hy)
                        have HK := hid (show ((DS.plat a).toList == (d.plat a).toList || (dl.take (kk + 1)).any (fun u : St => decide (u.at_ = a) && ((DS.plat a).toList == (pad u.s).toList))) = (((DS.plat a).toList == (d.plat a).toList || (dl.take kk).any (fun u : St => decide (u.at_ = a) && ((DS.plat a).toList == (pad u.s).toList))) || (decide (y.at_ = a) && ((DS.plat a).toList == (pad y.s).toList))) by
                          rw [take_snoc hy]
                          simp only [List.any_append, List.any_cons, List.any_nil, Bool.or_false, Bool.or_assoc])
                        clear hy
                        generalize ((DS.plat a).toList == (d.plat a).toList || (dl.take kk).any (fun u : St => decide (u.at_ = a) && ((DS.plat a).toList == (pad u.s).toList))) = kn at HK ⊢
                        cases kn with
                        | true =>
                          go_wp2_with (fail)
                          refine Rgd.wp_region (l := [_, _, _, _, _, _, _, _, _, _, _, _, _, _, _, _, _, _, _, _, _, _, _, _, _, _, _, _]) (tail := [_]) (Rgd.keep wr [] [(0, 0), (0, 0), (0, 0), (0, 0), (0, 0), (0, 0), (0, 0), (0, 0), (0, 0), (0, 0), (0, 0), (0, 0), (0, 0), (0, 0), (0, 0), (0, 0), (0, 0), (0, 0), (0, 0), (0, 0), (0, 0), (0, 0), (0, 0), (0, 0), (0, 0), (0, 0), (0, 0), (0, 0)]) [some 139, some 140, some 141, some 142, some 143, some 144, some 145, some 146, some 147, some 148, some 149, some 150, some 151, some 152, some 153, some 154, some 155, some 156, some 157, some 158, some 159, some 160, some 161, some 162, some 163, some 164, some 165, some 166, some 22] 201 rfl [[], [0], [0, 1], [0, 1], [0, 1, 2, 3], [0, 1, 2, 3, 4], [0, 1, 2, 3, 4, 5], [0, 1], [0, 1, 2, 3, 4, 5, 6, 7], [0, 1, 2, 3, 4, 5, 6, 7, 8], [0, 1, 2, 3, 4, 5, 6, 7, 8, 9], [0, 1, 2, 3, 4, 5, 6, 7, 8, 9], [0, 1, 2, 3, 4, 5, 6, 7, 8, 9], [0, 1, 2, 3, 4, 5, 6, 7, 8, 9, 11, 12], [0, 1, 2, 3, 4, 5, 6, 7, 8, 9, 11, 12, 13], [0, 1, 2, 3, 4, 5, 6, 7, 8, 9, 11, 12, 13, 14], [0, 1, 2, 3, 4, 5, 6, 7, 8, 9], [0, 1, 2, 3, 4, 5, 6, 7, 8, 9], [0, 1, 2, 3, 4, 5, 6, 7, 8, 9, 16, 17], [0, 1, 2, 3, 4, 5, 6, 7, 8, 9, 16, 17, 18], [0, 1, 2, 3, 4, 5, 6, 7, 8, 9, 16, 17, 18, 19], [0, 1, 2, 3, 4, 5, 6, 7, 8, 9, 16, 17, 18, 19, 20], [0, 1, 2, 3, 4, 5, 6, 7, 8, 9, 16, 17, 18, 19, 20, 21], [0, 1, 2, 3, 4, 5, 6, 7, 8, 9, 16, 17, 18, 19, 20, 21, 22], [0, 1, 2, 3, 4, 5, 6, 7, 8, 9, 11, 12, 13, 14, 15, 16, 17, 18, 19, 20, 21, 22, 23], [0, 1, 2, 3, 4, 5, 6, 7, 8, 9, 10, 11, 12, 13, 14, 15, 16, 17, 18, 19, 20, 21, 22, 23, 24], [0, 1, 2, 3, 4, 5, 6, 7, 8, 9, 10, 11, 12, 13, 14, 15, 16, 17, 18, 19, 20, 21, 22, 23, 24, 25], [0, 1, 2, 3, 4, 5, 6, 7, 8, 9, 10, 11, 12, 13, 14, 15, 16, 17, 18, 19, 20, 21, 22, 23, 24, 25, 26]] (by kernel_rfl) (by kernel_rfl) (by kernel_rfl) (by kernel_rfl) (by kernel_rfl) rfl (Rgd.keep_fair) (Rgd.keep_start _) ?_
                          refine Rgd.op_is (.bool true) [] 0 0 rfl rfl rfl (by kernel_rfl) ?_ ?_
                          · intro p wx hp1 hp2 hb
                            obtain rfl : p = 0 := by omega
                            refine Rgd.from_nil fun T hT => ?_
                            go_wp2
                            exact hT _ _ rfl (by first | exact Rgd.Keep.refl _ | exact below_of_dr hw2 | exact hw2 | exact (Below.refl _ _).alloc (Nat.le_refl _) _) (by first | rfl | exact congrArg _ (by decide))
                          refine Rgd.op_is (.bool true) [0] 0 0 rfl rfl rfl (by kernel_rfl) ?_ ?_
                          · intro p wx hp1 hp2 hb
                            obtain rfl : p = 0 := by omega
                            refine Rgd.from_is (some 139) rfl rfl ?_
                            refine Rgd.from_nil fun T hT => ?_
                            go_wp2
                            exact hT _ _ rfl (by first | exact Rgd.Keep.refl _ | exact below_of_dr hw2 | exact hw2 | exact (Below.refl _ _).alloc (Nat.le_refl _) _) (by first | rfl | exact congrArg _ (by decide))
                          refine Rgd.op_skip rfl rfl ?_
                          refine Rgd.op_skip rfl rfl ?_
                          refine Rgd.op_skip rfl rfl ?_
                          refine Rgd.op_skip rfl rfl ?_
                          refine Rgd.op_skip rfl rfl ?_
                          refine Rgd.op_skip rfl rfl ?_
                          refine Rgd.op_skip rfl rfl ?_
                          refine Rgd.op_skip rfl rfl ?_
                          refine Rgd.op_skip rfl rfl ?_
                          refine Rgd.op_skip rfl rfl ?_
                          refine Rgd.op_skip rfl rfl ?_
                          refine Rgd.op_skip rfl rfl ?_
                          refine Rgd.op_skip rfl rfl ?_
                          refine Rgd.op_skip rfl rfl ?_
                          refine Rgd.op_skip rfl rfl ?_
                          refine Rgd.op_skip rfl rfl ?_
                          refine Rgd.op_skip rfl rfl ?_
                          refine Rgd.op_skip rfl rfl ?_
                          refine Rgd.op_skip rfl rfl ?_
                          refine Rgd.op_skip rfl rfl ?_
                          refine Rgd.op_skip rfl rfl ?_
                          refine Rgd.op_skip rfl rfl ?_
                          refine Rgd.op_skip rfl rfl ?_
                          refine Rgd.op_skip rfl rfl ?_
                          refine Rgd.op_skip rfl rfl ?_
                          refine Rgd.op_is (.bool true) [1, 26] 0 0 rfl rfl rfl (by kernel_rfl) ?_ ?_
                          · intro p wx hp1 hp2 hb
                            obtain rfl : p = 0 := by omega
                            refine Rgd.from_is (some 140) rfl rfl ?_
                            refine Rgd.from_is (some 165) rfl rfl ?_
                            refine Rgd.from_nil fun T hT => ?_
                            go_wp2
                            exact hT _ _ rfl (by first | exact Rgd.Keep.refl _ | exact below_of_dr hw2 | exact hw2 | exact (Below.refl _ _).alloc (Nat.le_refl _) _) (by first | rfl | exact congrArg _ (by decide))
                          refine Rgd.walk_nil [0, 1, 2, 3, 4, 5, 6, 7, 8, 9, 10, 11, 12, 13, 14, 15, 16, 17, 18, 19, 20, 21, 22, 23, 24, 25, 26, 27] (by kernel_rfl) ?_
                          intro wx hb
                          refine Rgd.from_is (some 139) rfl rfl ?_
                          refine Rgd.from_is (some 140) rfl rfl ?_
                          refine Rgd.from_is (some 141) rfl rfl ?_
                          refine Rgd.from_is (some 142) rfl rfl ?_
                          refine Rgd.from_is (some 143) rfl rfl ?_
                          refine Rgd.from_is (some 144) rfl rfl ?_
                          refine Rgd.from_is (some 145) rfl rfl ?_
                          refine Rgd.from_is (some 146) rfl rfl ?_
                          refine Rgd.from_is (some 147) rfl rfl ?_
                          refine Rgd.from_is (some 148) rfl rfl ?_
                          refine Rgd.from_is (some 149) rfl rfl ?_
                          refine Rgd.from_is (some 150) rfl rfl ?_
                          refine Rgd.from_is (some 151) rfl rfl ?_
                          refine Rgd.from_is (some 152) rfl rfl ?_
                          refine Rgd.from_is (some 153) rfl rfl ?_
                          refine Rgd.from_is (some 154) rfl rfl ?_
                          refine Rgd.from_is (some 155) rfl rfl ?_
                          refine Rgd.from_is (some 156) rfl rfl ?_
                          refine Rgd.from_is (some 157) rfl rfl ?_
                          refine Rgd.from_is (some 158) rfl rfl ?_
                          refine Rgd.from_is (some 159) rfl rfl ?_
                          refine Rgd.from_is (some 160) rfl rfl ?_
                          refine Rgd.from_is (some 161) rfl rfl ?_
                          refine Rgd.from_is (some 162) rfl rfl ?_
                          refine Rgd.from_is (some 163) rfl rfl ?_
                          refine Rgd.from_is (some 164) rfl rfl ?_
                          refine Rgd.from_is (some 165) rfl rfl ?_
                          refine Rgd.from_is (some 166) rfl rfl ?_
                          refine Rgd.from_nil ?_
                          simp only [List.map, Act.put, List.setIfInBounds_toArray, List.set_cons_zero, List.set_cons_succ]
                          have hbx := below_next hbi hbi.size hb
                          go_wp2
                          go_roundw
                          case rel => exact ⟨kk + 1, by go_num, by omega, by rw [HK.out]; rfl, hbx⟩
                          case measure => simp [intOf]; omega
                        | false =>
                          by_cases hya : y.at_ = a
                          · go_wp2_with (fail)
                            refine Rgd.wp_region (l := [_, _, _, _, _, _, _, _, _, _, _, _, _, _, _, _, _, _, _, _, _, _, _, _, _, _, _, _]) (tail := [_]) (Rgd.keep wr [] [(0, 0), (0, 0), (0, 0), (0, 0), (0, 0), (0, 0), (0, 0), (0, 0), (0, 0), (0, 0), (0, 0), (0, 0), (0, 0), (0, 0), (0, 0), (0, 0), (0, 0), (0, 0), (0, 0), (0, 0), (0, 0), (0, 0), (0, 0), (0, 0), (0, 0), (0, 0), (0, 0), (0, 0)]) [some 139, some 140, some 141, some 142, some 143, some 144, some 145, some 146, some 147, some 148, some 149, some 150, some 151, some 152, some 153, some 154, some 155, some 156, some 157, some 158, some 159, some 160, some 161, some 162, some 163, some 164, some 165, some 166, some 22] 201 rfl [[], [0], [0, 1], [0, 1], [0, 1, 2, 3], [0, 1, 2, 3, 4], [0, 1, 2, 3, 4, 5], [0, 1], [0, 1, 2, 3, 4, 5, 6, 7], [0, 1, 2, 3, 4, 5, 6, 7, 8], [0, 1, 2, 3, 4, 5, 6, 7, 8, 9], [0, 1, 2, 3, 4, 5, 6, 7, 8, 9], [0, 1, 2, 3, 4, 5, 6, 7, 8, 9], [0, 1, 2, 3, 4, 5, 6, 7, 8, 9, 11, 12], [0, 1, 2, 3, 4, 5, 6, 7, 8, 9, 11, 12, 13], [0, 1, 2, 3, 4, 5, 6, 7, 8, 9, 11, 12, 13, 14], [0, 1, 2, 3, 4, 5, 6, 7, 8, 9], [0, 1, 2, 3, 4, 5, 6, 7, 8, 9], [0, 1, 2, 3, 4, 5, 6, 7, 8, 9, 16, 17], [0, 1, 2, 3, 4, 5, 6, 7, 8, 9, 16, 17, 18], [0, 1, 2, 3, 4, 5, 6, 7, 8, 9, 16, 17, 18, 19], [0, 1, 2, 3, 4, 5, 6, 7, 8, 9, 16, 17, 18, 19, 20], [0, 1, 2, 3, 4, 5, 6, 7, 8, 9, 16, 17, 18, 19, 20, 21], [0, 1, 2, 3, 4, 5, 6, 7, 8, 9, 16, 17, 18, 19, 20, 21, 22], [0, 1, 2, 3, 4, 5, 6, 7, 8, 9, 11, 12, 13, 14, 15, 16, 17, 18, 19, 20, 21, 22, 23], [0, 1, 2, 3, 4, 5, 6, 7, 8, 9, 10, 11, 12, 13, 14, 15, 16, 17, 18, 19, 20, 21, 22, 23, 24], [0, 1, 2, 3, 4, 5, 6, 7, 8, 9, 10, 11, 12, 13, 14, 15, 16, 17, 18, 19, 20, 21, 22, 23, 24, 25], [0, 1, 2, 3, 4, 5, 6, 7, 8, 9, 10, 11, 12, 13, 14, 15, 16, 17, 18, 19, 20, 21, 22, 23, 24, 25, 26]] (by kernel_rfl) (by kernel_rfl) (by kernel_rfl) (by kernel_rfl) (by kernel_rfl) rfl (Rgd.keep_fair) (Rgd.keep_start _) ?_
                            refine Rgd.op_is (.bool false) [] 0 0 rfl rfl rfl (by kernel_rfl) ?_ ?_
                            · intro p wx hp1 hp2 hb
                              obtain rfl : p = 0 := by omega
                              refine Rgd.from_nil fun T hT => ?_
                              go_wp2
                              exact hT _ _ rfl (by first | exact Rgd.Keep.refl _ | exact below_of_dr hw2 | exact hw2 | exact (Below.refl _ _).alloc (Nat.le_refl _) _) (by first | rfl | exact congrArg _ (by decide))
                            refine Rgd.op_is (.bool false) [0] 0 0 rfl rfl rfl (by kernel_rfl) ?_ ?_
                            · intro p wx hp1 hp2 hb
                              obtain rfl : p = 0 := by omega
                              refine Rgd.from_is (some 139) rfl rfl ?_
                              refine Rgd.from_nil fun T hT => ?_
                              go_wp2
                              exact hT _ _ rfl (by first | exact Rgd.Keep.refl _ | exact below_of_dr hw2 | exact hw2 | exact (Below.refl _ _).alloc (Nat.le_refl _) _) (by first | rfl | exact congrArg _ (by decide))
                            refine' Rgd.op_is _ [] 0 0 rfl rfl rfl (by kernel_rfl) ?_ ?_
                            rotate_left
                            · intro p wx hp1 hp2 hb
                              obtain rfl : p = 0 := by omega
                              refine Rgd.from_nil fun T hT => ?_
                              go_wp2
                              refine hT _ _ rfl (by first | exact Rgd.Keep.refl _ | exact below_of_dr hw2 | exact hw2 | exact (Below.refl _ _).alloc (Nat.le_refl _) _) ?_
                              simp only [Rgd.last, List.getElem?_toArray, List.getElem?_cons_succ, List.getElem?_cons_zero, Option.getD_some]
                              rfl
                            refine' Rgd.op_is _ [] 0 0 rfl rfl rfl (by kernel_rfl) ?_ ?_
                            rotate_left
                            · intro p wx hp1 hp2 hb
                              obtain rfl : p = 0 := by omega
                              refine Rgd.from_nil fun T hT => ?_
                              go_wp2
                              refine hT _ _ rfl (by first | exact Rgd.Keep.refl _ | exact below_of_dr hw2 | exact hw2 | exact (Below.refl _ _).alloc (Nat.le_refl _) _) ?_
                              simp only [Rgd.last, List.getElem?_toArray, List.getElem?_cons_succ, List.getElem?_cons_zero, Option.getD_some]
                              rfl
                            refine' Rgd.op_is _ [2, 3] 0 0 rfl rfl rfl (by kernel_rfl) ?_ ?_
                            rotate_left
                            · intro p wx hp1 hp2 hb
                              obtain rfl : p = 0 := by omega
                              refine Rgd.from_is (some 141) rfl rfl ?_
                              refine Rgd.from_is (some 142) rfl rfl ?_
                              refine Rgd.from_nil fun T hT => ?_
                              go_wp2
                              refine hT _ _ rfl (by first | exact Rgd.Keep.refl _ | exact below_of_dr hw2 | exact hw2 | exact (Below.refl _ _).alloc (Nat.le_refl _) _) ?_
                              simp only [Rgd.last, List.getElem?_toArray, List.getElem?_cons_succ, List.getElem?_cons_zero, Option.getD_some]
                              rfl
                            refine' Rgd.op_is _ [4] 0 0 rfl rfl rfl (by kernel_rfl) ?_ ?_
                            rotate_left
                            · intro p wx hp1 hp2 hb
                              obtain rfl : p = 0 := by omega
                              refine Rgd.from_is (some 143) rfl rfl ?_
                              refine Rgd.from_nil fun T hT => ?_
                              go_wp2
                              refine hT _ _ rfl (by first | exact Rgd.Keep.refl _ | exact below_of_dr hw2 | exact hw2 | exact (Below.refl _ _).alloc (Nat.le_refl _) _) ?_
                              simp only [Rgd.last, List.getElem?_toArray, List.getElem?_cons_succ, List.getElem?_cons_zero, Option.getD_some]
                              rfl
                            refine Rgd.op_is (.int .i64 a) [5] 0 0 rfl rfl rfl (by kernel_rfl) ?_ ?_
                            · intro p wx hp1 hp2 hb
                              obtain rfl : p = 0 := by omega
                              refine Rgd.from_is (some 144) rfl rfl ?_
                              refine Rgd.from_nil fun T hT => ?_
                              have q := (HCELL.out wx hb).2.1
                              rw [hya] at q
                              go_wp2
                              exact hT _ _ rfl (by first | exact Rgd.Keep.refl _ | exact below_of_dr hw2 | exact hw2 | exact (Below.refl _ _).alloc (Nat.le_refl _) _) (by first | rfl | exact congrArg _ (by decide))
                            refine' Rgd.op_is _ [] 0 0 rfl rfl rfl (by kernel_rfl) ?_ ?_
                            rotate_left
                            · intro p wx hp1 hp2 hb
                              obtain rfl : p = 0 := by omega
                              refine Rgd.from_nil fun T hT => ?_
                              go_wp2
                              refine hT _ _ rfl (by first | exact Rgd.Keep.refl _ | exact below_of_dr hw2 | exact hw2 | exact (Below.refl _ _).alloc (Nat.le_refl _) _) ?_
                              simp only [Rgd.last, List.getElem?_toArray, List.getElem?_cons_succ, List.getElem?_cons_zero, Option.getD_some]
                              rfl
                            refine Rgd.op_is (.bool true) [6, 7] 0 0 rfl rfl rfl (by kernel_rfl) ?_ ?_
                            · intro p wx hp1 hp2 hb
                              obtain rfl : p = 0 := by omega
                              refine Rgd.from_is (some 145) rfl rfl ?_
                              refine Rgd.from_is (some 146) rfl rfl ?_
                              refine Rgd.from_nil fun T hT => ?_
                              go_wp2
                              exact hT _ _ rfl (Rgd.Keep.refl _) (by simp [Rgd.last])
                            refine Rgd.op_is (.bool true) [8] 0 0 rfl rfl rfl (by kernel_rfl) ?_ ?_
                            · intro p wx hp1 hp2 hb
                              obtain rfl : p = 0 := by omega
                              refine Rgd.from_is (some 147) rfl rfl ?_
                              refine Rgd.from_nil fun T hT => ?_
                              go_wp2
                              exact hT _ _ rfl (by first | exact Rgd.Keep.refl _ | exact below_of_dr hw2 | exact hw2 | exact (Below.refl _ _).alloc (Nat.le_refl _) _) (by first | rfl | exact congrArg _ (by decide))
                            refine' Rgd.op_is _ [] 0 0 rfl rfl rfl (by kernel_rfl) ?_ ?_
                            rotate_left
                            · intro p wx hp1 hp2 hb
                              obtain rfl : p = 0 := by omega
                              refine Rgd.from_nil fun T hT => ?_
                              go_wp2
                              refine hT _ _ rfl (by first | exact Rgd.Keep.refl _ | exact below_of_dr hw2 | exact hw2 | exact (Below.refl _ _).alloc (Nat.le_refl _) _) ?_
                              simp only [Rgd.last, List.getElem?_toArray, List.getElem?_cons_succ, List.getElem?_cons_zero, Option.getD_some]
                              rfl
                            refine' Rgd.op_is _ [] 0 0 rfl rfl rfl (by kernel_rfl) ?_ ?_
                            rotate_left
                            · intro p wx hp1 hp2 hb
                              obtain rfl : p = 0 := by omega
                              refine Rgd.from_nil fun T hT => ?_
                              go_wp2
                              refine hT _ _ rfl (by first | exact Rgd.Keep.refl _ | exact below_of_dr hw2 | exact hw2 | exact (Below.refl _ _).alloc (Nat.le_refl _) _) ?_
                              simp only [Rgd.last, List.getElem?_toArray, List.getElem?_cons_succ, List.getElem?_cons_zero, Option.getD_some]
                              rfl
                            refine' Rgd.op_is _ [] 0 0 rfl rfl rfl (by kernel_rfl) ?_ ?_
                            rotate_left
                            · intro p wx hp1 hp2 hb
                              obtain rfl : p = 0 := by omega
                              refine Rgd.from_nil fun T hT => ?_
                              go_wp2
                              refine hT _ _ rfl (by first | exact Rgd.Keep.refl _ | exact below_of_dr hw2 | exact hw2 | exact (Below.refl _ _).alloc (Nat.le_refl _) _) ?_
                              simp only [Rgd.last, List.getElem?_toArray, List.getElem?_cons_succ, List.getElem?_cons_zero, Option.getD_some]
                              rfl
                            refine' Rgd.op_is _ [11, 12] 0 0 rfl rfl rfl (by kernel_rfl) ?_ ?_
                            rotate_left
                            · intro p wx hp1 hp2 hb
                              obtain rfl : p = 0 := by omega
                              refine Rgd.from_is (some 150) rfl rfl ?_
                              refine Rgd.from_is (some 151) rfl rfl ?_
                              refine Rgd.from_nil fun T hT => ?_
                              go_wp2
                              refine hT _ _ rfl (by first | exact Rgd.Keep.refl _ | exact below_of_dr hw2 | exact hw2 | exact (Below.refl _ _).alloc (Nat.le_refl _) _) ?_
                              simp only [Rgd.last, List.getElem?_toArray, List.getElem?_cons_succ, List.getElem?_cons_zero, Option.getD_some]
                              rfl
                            refine' Rgd.op_is _ [13] 0 0 rfl rfl rfl (by kernel_rfl) ?_ ?_
                            rotate_left
                            · intro p wx hp1 hp2 hb
                              obtain rfl : p = 0 := by omega
                              refine Rgd.from_is (some 152) rfl rfl ?_
                              refine Rgd.from_nil fun T hT => ?_
                              go_wp2
                              refine hT _ _ rfl (by first | exact Rgd.Keep.refl _ | exact below_of_dr hw2 | exact hw2 | exact (Below.refl _ _).alloc (Nat.le_refl _) _) ?_
                              simp only [Rgd.last, List.getElem?_toArray, List.getElem?_cons_succ, List.getElem?_cons_zero, Option.getD_some]
                              rfl
                            refine Rgd.op_is (.string y.s) [14] 0 0 rfl rfl rfl (by kernel_rfl) ?_ ?_
                            · intro p wx hp1 hp2 hb
                              obtain rfl : p = 0 := by omega
                              refine Rgd.from_is (some 153) rfl rfl ?_
                              refine Rgd.from_nil fun T hT => ?_
                              have q := (HCELL.out wx hb).2.2.1
                              go_wp2
                              exact hT _ _ rfl (by first | exact Rgd.Keep.refl _ | exact below_of_dr hw2 | exact hw2 | exact (Below.refl _ _).alloc (Nat.le_refl _) _) (by first | rfl | exact congrArg _ (by decide))
                            refine' Rgd.op_is _ [] 0 0 rfl rfl rfl (by kernel_rfl) ?_ ?_
                            rotate_left
                            · intro p wx hp1 hp2 hb
                              obtain rfl : p = 0 := by omega
                              refine Rgd.from_nil fun T hT => ?_
                              go_wp2
                              refine hT _ _ rfl (by first | exact Rgd.Keep.refl _ | exact below_of_dr hw2 | exact hw2 | exact (Below.refl _ _).alloc (Nat.le_refl _) _) ?_
                              simp only [Rgd.last, List.getElem?_toArray, List.getElem?_cons_succ, List.getElem?_cons_zero, Option.getD_some]
                              rfl
                            refine' Rgd.op_is _ [] 0 0 rfl rfl rfl (by kernel_rfl) ?_ ?_
                            rotate_left
                            · intro p wx hp1 hp2 hb
                              obtain rfl : p = 0 := by omega
                              refine Rgd.from_nil fun T hT => ?_
                              go_wp2
                              refine hT _ _ rfl (by first | exact Rgd.Keep.refl _ | exact below_of_dr hw2 | exact hw2 | exact (Below.refl _ _).alloc (Nat.le_refl _) _) ?_
                              simp only [Rgd.last, List.getElem?_toArray, List.getElem?_cons_succ, List.getElem?_cons_zero, Option.getD_some]
                              rfl
                            refine' Rgd.op_is _ [16, 17] 0 0 rfl rfl rfl (by kernel_rfl) ?_ ?_
                            rotate_left
                            · intro p wx hp1 hp2 hb
                              obtain rfl : p = 0 := by omega
                              refine Rgd.from_is (some 155) rfl rfl ?_
                              refine Rgd.from_is (some 156) rfl rfl ?_
                              refine Rgd.from_nil fun T hT => ?_
                              go_wp2
                              refine hT _ _ rfl (by first | exact Rgd.Keep.refl _ | exact below_of_dr hw2 | exact hw2 | exact (Below.refl _ _).alloc (Nat.le_refl _) _) ?_
                              simp only [Rgd.last, List.getElem?_toArray, List.getElem?_cons_succ, List.getElem?_cons_zero, Option.getD_some]
                              rfl
                            refine' Rgd.op_is _ [18] 0 0 rfl rfl rfl (by kernel_rfl) ?_ ?_
                            rotate_left
                            · intro p wx hp1 hp2 hb
                              obtain rfl : p = 0 := by omega
                              refine Rgd.from_is (some 157) rfl rfl ?_
                              refine Rgd.from_nil fun T hT => ?_
                              go_wp2
                              refine hT _ _ rfl (by first | exact Rgd.Keep.refl _ | exact below_of_dr hw2 | exact hw2 | exact (Below.refl _ _).alloc (Nat.le_refl _) _) ?_
                              simp only [Rgd.last, List.getElem?_toArray, List.getElem?_cons_succ, List.getElem?_cons_zero, Option.getD_some]
                              rfl
                            refine Rgd.op_is (.string y.s) [19] 0 0 rfl rfl rfl (by kernel_rfl) ?_ ?_
                            · intro p wx hp1 hp2 hb
                              obtain rfl : p = 0 := by omega
                              refine Rgd.from_is (some 158) rfl rfl ?_
                              refine Rgd.from_nil fun T hT => ?_
                              have q := (HCELL.out wx hb).2.2.1
                              go_wp2
                              exact hT _ _ rfl (by first | exact Rgd.Keep.refl _ | exact below_of_dr hw2 | exact hw2 | exact (Below.refl _ _).alloc (Nat.le_refl _) _) (by first | rfl | exact congrArg _ (by decide))
                            refine Rgd.op_is (.int .i64 (y.s.size : Int)) [20] 0 0 rfl rfl rfl (by kernel_rfl) ?_ ?_
                            · intro p wx hp1 hp2 hb
                              obtain rfl : p = 0 := by omega
                              refine Rgd.from_is (some 159) rfl rfl ?_
                              refine Rgd.from_nil fun T hT => ?_
                              go_wp2
                              exact hT _ _ rfl (by first | exact Rgd.Keep.refl _ | exact below_of_dr hw2 | exact hw2 | exact (Below.refl _ _).alloc (Nat.le_refl _) _) (by first | rfl | exact congrArg _ (by decide))
                            refine Rgd.op_is (.int .i64 ((512 - y.s.size : Nat) : Int)) [21] 0 0 rfl rfl rfl (by kernel_rfl) ?_ ?_
                            · intro p wx hp1 hp2 hb
                              obtain rfl : p = 0 := by omega
                              refine Rgd.from_is (some 160) rfl rfl ?_
                              refine Rgd.from_nil fun T hT => ?_
                              go_wp2
                              exact hT _ _ rfl (Rgd.Keep.refl _) (by simp [Rgd.last]; omega)
                            refine Rgd.op_is (.string (zs (512 - y.s.size))) [22] 0 0 rfl rfl rfl (by kernel_rfl) ?_ ?_
                            · intro p wx hp1 hp2 hb
                              obtain rfl : p = 0 := by omega
                              refine Rgd.from_is (some 161) rfl rfl ?_
                              refine Rgd.from_nil fun T hT => ?_
                              go_wp2_with (fail)
                              refine (zeros_c (512 - y.s.size) _ (by omega)).mono ?_
                              rintro e wy ⟨rfl, hk⟩
                              go_wp2
                              exact hT _ _ rfl hk rfl
                            refine Rgd.op_is (.string (pad y.s)) [15, 23] 0 0 rfl rfl rfl (by kernel_rfl) ?_ ?_
                            · intro p wx hp1 hp2 hb
                              obtain rfl : p = 0 := by omega
                              refine Rgd.from_is (some 154) rfl rfl ?_
                              refine Rgd.from_is (some 162) rfl rfl ?_
                              refine Rgd.from_nil fun T hT => ?_
                              have hzs := zs_size (512 - y.s.size)
                              go_wp2
                              exact hT _ _ rfl (Rgd.Keep.refl _) rfl
                            refine Rgd.op_is (.bool ((DS.plat a).toList == (pad y.s).toList)) [10, 24] 0 0 rfl rfl rfl (by kernel_rfl) ?_ ?_
                            · intro p wx hp1 hp2 hb
                              obtain rfl : p = 0 := by omega
                              refine Rgd.from_is (some 149) rfl rfl ?_
                              refine Rgd.from_is (some 163) rfl rfl ?_
                              refine Rgd.from_nil fun T hT => ?_
                              go_wp2
                              exact hT _ _ rfl (by first | exact Rgd.Keep.refl _ | exact below_of_dr hw2 | exact hw2 | exact (Below.refl _ _).alloc (Nat.le_refl _) _) (by first | rfl | exact congrArg _ (by decide))
                            refine Rgd.op_is (.bool ((DS.plat a).toList == (pad y.s).toList)) [9, 25] 0 0 rfl rfl rfl (by kernel_rfl) ?_ ?_
                            · intro p wx hp1 hp2 hb
                              obtain rfl : p = 0 := by omega
                              refine Rgd.from_is (some 148) rfl rfl ?_
                              refine Rgd.from_is (some 164) rfl rfl ?_
                              refine Rgd.from_nil fun T hT => ?_
                              go_wp2
                              exact hT _ _ rfl (by first | exact Rgd.Keep.refl _ | exact below_of_dr hw2 | exact hw2 | exact (Below.refl _ _).alloc (Nat.le_refl _) _) (by first | rfl | exact congrArg _ (by decide))
                            refine Rgd.op_is (.bool ((DS.plat a).toList == (pad y.s).toList)) [1, 26] 0 0 rfl rfl rfl (by kernel_rfl) ?_ ?_
                            · intro p wx hp1 hp2 hb
                              obtain rfl : p = 0 := by omega
                              refine Rgd.from_is (some 140) rfl rfl ?_
                              refine Rgd.from_is (some 165) rfl rfl ?_
                              refine Rgd.from_nil fun T hT => ?_
                              go_wp2
                              exact hT _ _ rfl (by first | exact Rgd.Keep.refl _ | exact below_of_dr hw2 | exact hw2 | exact (Below.refl _ _).alloc (Nat.le_refl _) _) (by first | rfl | exact congrArg _ (by decide))
                            refine Rgd.walk_nil [0, 1, 2, 3, 4, 5, 6, 7, 8, 9, 10, 11, 12, 13, 14, 15, 16, 17, 18, 19, 20, 21, 22, 23, 24, 25, 26, 27] (by kernel_rfl) ?_
                            intro wx hb
                            refine Rgd.from_is (some 139) rfl rfl ?_
                            refine Rgd.from_is (some 140) rfl rfl ?_
                            refine Rgd.from_is (some 141) rfl rfl ?_
                            refine Rgd.from_is (some 142) rfl rfl ?_
                            refine Rgd.from_is (some 143) rfl rfl ?_
                            refine Rgd.from_is (some 144) rfl rfl ?_
                            refine Rgd.from_is (some 145) rfl rfl ?_
                            refine Rgd.from_is (some 146) rfl rfl ?_
                            refine Rgd.from_is (some 147) rfl rfl ?_
                            refine Rgd.from_is (some 148) rfl rfl ?_
                            refine Rgd.from_is (some 149) rfl rfl ?_
                            refine Rgd.from_is (some 150) rfl rfl ?_
                            refine Rgd.from_is (some 151) rfl rfl ?_
                            refine Rgd.from_is (some 152) rfl rfl ?_
                            refine Rgd.from_is (some 153) rfl rfl ?_
                            refine Rgd.from_is (some 154) rfl rfl ?_
                            refine Rgd.from_is (some 155) rfl rfl ?_
                            refine Rgd.from_is (some 156) rfl rfl ?_
                            refine Rgd.from_is (some 157) rfl rfl ?_
                            refine Rgd.from_is (some 158) rfl rfl ?_
                            refine Rgd.from_is (some 159) rfl rfl ?_
                            refine Rgd.from_is (some 160) rfl rfl ?_
                            refine Rgd.from_is (some 161) rfl rfl ?_
                            refine Rgd.from_is (some 162) rfl rfl ?_
                            refine Rgd.from_is (some 163) rfl rfl ?_
                            refine Rgd.from_is (some 164) rfl rfl ?_
                            refine Rgd.from_is (some 165) rfl rfl ?_
                            refine Rgd.from_is (some 166) rfl rfl ?_
                            refine Rgd.from_nil ?_
                            simp only [List.map, Act.put, List.setIfInBounds_toArray, List.set_cons_zero, List.set_cons_succ]
                            have hbx := below_next hbi hbi.size hb
                            go_wp2
                            go_roundw
                            case rel => exact ⟨kk + 1, by go_num, by omega, by rw [HK.out, decide_eq_true hya]; simp, hbx⟩
                            case measure => simp [intOf]; omega
                          · go_wp2_with (fail)
                            refine Rgd.wp_region (l := [_, _, _, _, _, _, _, _, _, _, _, _, _, _, _, _, _, _, _, _, _, _, _, _, _, _, _, _]) (tail := [_]) (Rgd.keep wr [] [(0, 0), (0, 0), (0, 0), (0, 0), (0, 0), (0, 0), (0, 0), (0, 0), (0, 0), (0, 0), (0, 0), (0, 0), (0, 0), (0, 0), (0, 0), (0, 0), (0, 0), (0, 0), (0, 0), (0, 0), (0, 0), (0, 0), (0, 0), (0, 0), (0, 0), (0, 0), (0, 0), (0, 0)]) [some 139, some 140, some 141, some 142, some 143, some 144, some 145, some 146, some 147, some 148, some 149, some 150, some 151, some 152, some 153, some 154, some 155, some 156, some 157, some 158, some 159, some 160, some 161, some 162, some 163, some 164, some 165, some 166, some 22] 201 rfl [[], [0], [0, 1], [0, 1], [0, 1, 2, 3], [0, 1, 2, 3, 4], [0, 1, 2, 3, 4, 5], [0, 1], [0, 1, 2, 3, 4, 5, 6, 7], [0, 1, 2, 3, 4, 5, 6, 7, 8], [0, 1, 2, 3, 4, 5, 6, 7, 8, 9], [0, 1, 2, 3, 4, 5, 6, 7, 8, 9], [0, 1, 2, 3, 4, 5, 6, 7, 8, 9], [0, 1, 2, 3, 4, 5, 6, 7, 8, 9, 11, 12], [0, 1, 2, 3, 4, 5, 6, 7, 8, 9, 11, 12, 13], [0, 1, 2, 3, 4, 5, 6, 7, 8, 9, 11, 12, 13, 14], [0, 1, 2, 3, 4, 5, 6, 7, 8, 9], [0, 1, 2, 3, 4, 5, 6, 7, 8, 9], [0, 1, 2, 3, 4, 5, 6, 7, 8, 9, 16, 17], [0, 1, 2, 3, 4, 5, 6, 7, 8, 9, 16, 17, 18], [0, 1, 2, 3, 4, 5, 6, 7, 8, 9, 16, 17, 18, 19], [0, 1, 2, 3, 4, 5, 6, 7, 8, 9, 16, 17, 18, 19, 20], [0, 1, 2, 3, 4, 5, 6, 7, 8, 9, 16, 17, 18, 19, 20, 21], [0, 1, 2, 3, 4, 5, 6, 7, 8, 9, 16, 17, 18, 19, 20, 21, 22], [0, 1, 2, 3, 4, 5, 6, 7, 8, 9, 11, 12, 13, 14, 15, 16, 17, 18, 19, 20, 21, 22, 23], [0, 1, 2, 3, 4, 5, 6, 7, 8, 9, 10, 11, 12, 13, 14, 15, 16, 17, 18, 19, 20, 21, 22, 23, 24], [0, 1, 2, 3, 4, 5, 6, 7, 8, 9, 10, 11, 12, 13, 14, 15, 16, 17, 18, 19, 20, 21, 22, 23, 24, 25], [0, 1, 2, 3, 4, 5, 6, 7, 8, 9, 10, 11, 12, 13, 14, 15, 16, 17, 18, 19, 20, 21, 22, 23, 24, 25, 26]] (by kernel_rfl) (by kernel_rfl) (by kernel_rfl) (by kernel_rfl) (by kernel_rfl) rfl (Rgd.keep_fair) (Rgd.keep_start _) ?_
                            refine Rgd.op_is (.bool false) [] 0 0 rfl rfl rfl (by kernel_rfl) ?_ ?_
                            · intro p wx hp1 hp2 hb
                              obtain rfl : p = 0 := by omega
                              refine Rgd.from_nil fun T hT => ?_
                              go_wp2
                              exact hT _ _ rfl (by first | exact Rgd.Keep.refl _ | exact below_of_dr hw2 | exact hw2 | exact (Below.refl _ _).alloc (Nat.le_refl _) _) (by first | rfl | exact congrArg _ (by decide))
                            refine Rgd.op_is (.bool false) [0] 0 0 rfl rfl rfl (by kernel_rfl) ?_ ?_
                            · intro p wx hp1 hp2 hb
                              obtain rfl : p = 0 := by omega
                              refine Rgd.from_is (some 139) rfl rfl ?_
                              refine Rgd.from_nil fun T hT => ?_
                              go_wp2
                              exact hT _ _ rfl (by first | exact Rgd.Keep.refl _ | exact below_of_dr hw2 | exact hw2 | exact (Below.refl _ _).alloc (Nat.le_refl _) _) (by first | rfl | exact congrArg _ (by decide))
                            refine' Rgd.op_is _ [] 0 0 rfl rfl rfl (by kernel_rfl) ?_ ?_
                            rotate_left
                            · intro p wx hp1 hp2 hb
                              obtain rfl : p = 0 := by omega
                              refine Rgd.from_nil fun T hT => ?_
                              go_wp2
                              refine hT _ _ rfl (by first | exact Rgd.Keep.refl _ | exact below_of_dr hw2 | exact hw2 | exact (Below.refl _ _).alloc (Nat.le_refl _) _) ?_
                              simp only [Rgd.last, List.getElem?_toArray, List.getElem?_cons_succ, List.getElem?_cons_zero, Option.getD_some]
                              rfl
                            refine' Rgd.op_is _ [] 0 0 rfl rfl rfl (by kernel_rfl) ?_ ?_
                            rotate_left
                            · intro p wx hp1 hp2 hb
                              obtain rfl : p = 0 := by omega
                              refine Rgd.from_nil fun T hT => ?_
                              go_wp2
                              refine hT _ _ rfl (by first | exact Rgd.Keep.refl _ | exact below_of_dr hw2 | exact hw2 | exact (Below.refl _ _).alloc (Nat.le_refl _) _) ?_
                              simp only [Rgd.last, List.getElem?_toArray, List.getElem?_cons_succ, List.getElem?_cons_zero, Option.getD_some]
                              rfl
                            refine' Rgd.op_is _ [2, 3] 0 0 rfl rfl rfl (by kernel_rfl) ?_ ?_
                            rotate_left
                            · intro p wx hp1 hp2 hb
                              obtain rfl : p = 0 := by omega
                              refine Rgd.from_is (some 141) rfl rfl ?_
                              refine Rgd.from_is (some 142) rfl rfl ?_
                              refine Rgd.from_nil fun T hT => ?_
                              go_wp2
                              refine hT _ _ rfl (by first | exact Rgd.Keep.refl _ | exact below_of_dr hw2 | exact hw2 | exact (Below.refl _ _).alloc (Nat.le_refl _) _) ?_
                              simp only [Rgd.last, List.getElem?_toArray, List.getElem?_cons_succ, List.getElem?_cons_zero, Option.getD_some]
                              rfl
                            refine' Rgd.op_is _ [4] 0 0 rfl rfl rfl (by kernel_rfl) ?_ ?_
                            rotate_left
                            · intro p wx hp1 hp2 hb
                              obtain rfl : p = 0 := by omega
                              refine Rgd.from_is (some 143) rfl rfl ?_
                              refine Rgd.from_nil fun T hT => ?_
                              go_wp2
                              refine hT _ _ rfl (by first | exact Rgd.Keep.refl _ | exact below_of_dr hw2 | exact hw2 | exact (Below.refl _ _).alloc (Nat.le_refl _) _) ?_
                              simp only [Rgd.last, List.getElem?_toArray, List.getElem?_cons_succ, List.getElem?_cons_zero, Option.getD_some]
                              rfl
                            refine Rgd.op_is (.int .i64 y.at_) [5] 0 0 rfl rfl rfl (by kernel_rfl) ?_ ?_
                            · intro p wx hp1 hp2 hb
                              obtain rfl : p = 0 := by omega
                              refine Rgd.from_is (some 144) rfl rfl ?_
                              refine Rgd.from_nil fun T hT => ?_
                              have q := (HCELL.out wx hb).2.1
                              go_wp2
                              exact hT _ _ rfl (by first | exact Rgd.Keep.refl _ | exact below_of_dr hw2 | exact hw2 | exact (Below.refl _ _).alloc (Nat.le_refl _) _) (by first | rfl | exact congrArg _ (by decide))
                            refine' Rgd.op_is _ [] 0 0 rfl rfl rfl (by kernel_rfl) ?_ ?_
                            rotate_left
                            · intro p wx hp1 hp2 hb
                              obtain rfl : p = 0 := by omega
                              refine Rgd.from_nil fun T hT => ?_
                              go_wp2
                              refine hT _ _ rfl (by first | exact Rgd.Keep.refl _ | exact below_of_dr hw2 | exact hw2 | exact (Below.refl _ _).alloc (Nat.le_refl _) _) ?_
                              simp only [Rgd.last, List.getElem?_toArray, List.getElem?_cons_succ, List.getElem?_cons_zero, Option.getD_some]
                              rfl
                            refine Rgd.op_is (.bool false) [6, 7] 0 0 rfl rfl rfl (by kernel_rfl) ?_ ?_
                            · intro p wx hp1 hp2 hb
                              obtain rfl : p = 0 := by omega
                              refine Rgd.from_is (some 145) rfl rfl ?_
                              refine Rgd.from_is (some 146) rfl rfl ?_
                              refine Rgd.from_nil fun T hT => ?_
                              go_wp2
                              exact hT _ _ rfl (Rgd.Keep.refl _) (by simp [Rgd.last, hya])
                            refine Rgd.op_is (.bool false) [8] 0 0 rfl rfl rfl (by kernel_rfl) ?_ ?_
                            · intro p wx hp1 hp2 hb
                              obtain rfl : p = 0 := by omega
                              refine Rgd.from_is (some 147) rfl rfl ?_
                              refine Rgd.from_nil fun T hT => ?_
                              go_wp2
                              exact hT _ _ rfl (by first | exact Rgd.Keep.refl _ | exact below_of_dr hw2 | exact hw2 | exact (Below.refl _ _).alloc (Nat.le_refl _) _) (by first | rfl | exact congrArg _ (by decide))
                            refine Rgd.op_skip rfl rfl ?_
                            refine Rgd.op_skip rfl rfl ?_
                            refine Rgd.op_skip rfl rfl ?_
                            refine Rgd.op_skip rfl rfl ?_
                            refine Rgd.op_skip rfl rfl ?_
                            refine Rgd.op_skip rfl rfl ?_
                            refine Rgd.op_skip rfl rfl ?_
                            refine Rgd.op_skip rfl rfl ?_
                            refine Rgd.op_skip rfl rfl ?_
                            refine Rgd.op_skip rfl rfl ?_
                            refine Rgd.op_skip rfl rfl ?_
                            refine Rgd.op_skip rfl rfl ?_
                            refine Rgd.op_skip rfl rfl ?_
                            refine Rgd.op_skip rfl rfl ?_
                            refine Rgd.op_skip rfl rfl ?_
                            refine Rgd.op_skip rfl rfl ?_
                            refine Rgd.op_is (.bool false) [9, 25] 0 0 rfl rfl rfl (by kernel_rfl) ?_ ?_
                            · intro p wx hp1 hp2 hb
                              obtain rfl : p = 0 := by omega
                              refine Rgd.from_is (some 148) rfl rfl ?_
                              refine Rgd.from_is (some 164) rfl rfl ?_
                              refine Rgd.from_nil fun T hT => ?_
                              go_wp2
                              exact hT _ _ rfl (by first | exact Rgd.Keep.refl _ | exact below_of_dr hw2 | exact hw2 | exact (Below.refl _ _).alloc (Nat.le_refl _) _) (by first | rfl | exact congrArg _ (by decide))
                            refine Rgd.op_is (.bool false) [1, 26] 0 0 rfl rfl rfl (by kernel_rfl) ?_ ?_
                            · intro p wx hp1 hp2 hb
                              obtain rfl : p = 0 := by omega
                              refine Rgd.from_is (some 140) rfl rfl ?_
                              refine Rgd.from_is (some 165) rfl rfl ?_
                              refine Rgd.from_nil fun T hT => ?_
                              go_wp2
                              exact hT _ _ rfl (by first | exact Rgd.Keep.refl _ | exact below_of_dr hw2 | exact hw2 | exact (Below.refl _ _).alloc (Nat.le_refl _) _) (by first | rfl | exact congrArg _ (by decide))
                            refine Rgd.walk_nil [0, 1, 2, 3, 4, 5, 6, 7, 8, 9, 10, 11, 12, 13, 14, 15, 16, 17, 18, 19, 20, 21, 22, 23, 24, 25, 26, 27] (by kernel_rfl) ?_
                            intro wx hb
                            refine Rgd.from_is (some 139) rfl rfl ?_
                            refine Rgd.from_is (some 140) rfl rfl ?_
                            refine Rgd.from_is (some 141) rfl rfl ?_
                            refine Rgd.from_is (some 142) rfl rfl ?_
                            refine Rgd.from_is (some 143) rfl rfl ?_
                            refine Rgd.from_is (some 144) rfl rfl ?_
                            refine Rgd.from_is (some 145) rfl rfl ?_
                            refine Rgd.from_is (some 146) rfl rfl ?_
                            refine Rgd.from_is (some 147) rfl rfl ?_
                            refine Rgd.from_is (some 148) rfl rfl ?_
                            refine Rgd.from_is (some 149) rfl rfl ?_
                            refine Rgd.from_is (some 150) rfl rfl ?_
                            refine Rgd.from_is (some 151) rfl rfl ?_
                            refine Rgd.from_is (some 152) rfl rfl ?_
                            refine Rgd.from_is (some 153) rfl rfl ?_
                            refine Rgd.from_is (some 154) rfl rfl ?_
                            refine Rgd.from_is (some 155) rfl rfl ?_
                            refine Rgd.from_is (some 156) rfl rfl ?_
                            refine Rgd.from_is (some 157) rfl rfl ?_
                            refine Rgd.from_is (some 158) rfl rfl ?_
                            refine Rgd.from_is (some 159) rfl rfl ?_
                            refine Rgd.from_is (some 160) rfl rfl ?_
                            refine Rgd.from_is (some 161) rfl rfl ?_
                            refine Rgd.from_is (some 162) rfl rfl ?_
                            refine Rgd.from_is (some 163) rfl rfl ?_
                            refine Rgd.from_is (some 164) rfl rfl ?_
                            refine Rgd.from_is (some 165) rfl rfl ?_
                            refine Rgd.from_is (some 166) rfl rfl ?_
                            refine Rgd.from_nil ?_
                            simp only [List.map, Act.put, List.setIfInBounds_toArray, List.set_cons_zero, List.set_cons_succ]
                            have hbx := below_next hbi hbi.size hb
                            go_wp2
                            go_roundw
                            case rel => exact ⟨kk + 1, by go_num, by omega, by rw [HK.out, decide_eq_false hya]; rfl, hbx⟩
                            case measure => simp [intOf]; omega
                      · obtain rfl : kk = dl.length := by omega
                        rw [List.take_length]
                        cases hkn : ((DS.plat a).toList == (d.plat a).toList || dl.any (fun u : St => decide (u.at_ = a) && ((DS.plat a).toList == (pad u.s).toList))) with
                        | true =>
                          go_wp2
                          go_roundw
                          case rel => exact ⟨k + 1, T, by go_num, by omega, rfl, hTT, hbw⟩
                          case measure => simp [intOf]; omega
                        | false =>
                          have hat : a = t := by
                            refine Classical.byContradiction fun hne => ?_
                            have hkn2 := hkn
                            simp only [Bool.or_eq_false_iff] at hkn2
                            rcases HTX.out hne HIA.out with h | ⟨p, hp, h1, h2⟩
                            · rw [h, HPL.out] at hkn2
                              simp at hkn2
                            · rw [HCC.out] at hp
                              obtain ⟨u, hu, rfl⟩ := List.mem_map.1 hp
                              have := List.any_eq_false.1 hkn2.2 u hu
                              rw [h2] at this
                              simp at this
                              exact this h1
                          rcases hTT with rfl | rfl
                          · go_wp2
                            go_roundw
                            case rel => exact ⟨k + 1, a, by go_num, by omega, rfl, .inr hat, hbw⟩
                            case measure => simp [intOf]; omega
                          · subst hat
                            go_wp2
                            go_roundw
                            case rel => exact ⟨k + 1, a, by go_num, by omega, rfl, .inr rfl, hbw⟩
                            case measure => simp [intOf]; omega
                  · obtain rfl : k = dl.length := by omega
                    have hM := HMH.out.below hbq
                    by_cases h0 : dl.length = 0
                    · go_wp2
                      go_ret
                      exact ⟨rfl, below_next hb hb.size hM.b⟩
                    · go_wp2_with (fail)
                      refine (dead_c ga gma va' DW wr (hM.at_ 2 rfl)).mono ?_
                      rintro e _ ⟨rfl, rfl⟩
                      rw [HWD.out]
                      go_wp2_with (fail)
                      refine (dead_c gn gmn vn' DN wr (hM.at_ 1 rfl)).mono ?_
                      rintro e _ ⟨rfl, rfl⟩
                      rw [HND.out]
                      go_wp2_with (fail)
                      refine (dead_c gs gms vs' DS wr (hM.at_ 0 rfl)).mono ?_
                      rintro e _ ⟨rfl, rfl⟩
                      rw [HSD.out]
                      go_wp2_with (fail)
                      refine (waits_c gs gms vs' DS wr (hM.at_ 0 rfl)).mono ?_
                      rintro e _ ⟨rfl, rfl⟩
                      rw [HSC.out]
                      go_wp2
                      go_ret
                      exact ⟨rfl, below_next hb hb.size hM.b⟩
set_option maxRecDepth 100000 in
theorem diskLeft_lifted (os : Os) (started : os.Started) (H : Type) (enc : TypeId × Value → H) :
    ReturnsInHanded {} Try.checked os 8 .any (Rows.diskLeftSpec.pre6 enc Try.prog Try.f8 Rows.diskLeftRow.domain false) (Rows.diskLeftSpec.post enc Try.prog Try.f8 false true false false) := by
  haveI : DecidableEq Lit := fun a b => Classical.propDecidable (a = b)
  refine returnsInHanded_of_change_sized (C := Try.checked) Try.own started (by kernel_rfl) Try.func8
    (ChangeSpec.witness6 (enc := enc) (C := Try.checked) false ⟨#[], #[.slice none 0 0, .slice none 0 0, .slice none 0 0, .int .i64 0], []⟩ 8 (by kernel_rfl) (by kernel_rfl) (by kernel_rfl) (by kernel_rfl)) ?_
  intro W base args ds gs before hval0 hW hcnd hsz0 _
  have hval : ∀ (j : Nat) t v, Try.f8.params[j]? = some t → args[j]? = some v → Value.okWide Try.prog W .any base t v := hval0
  have hW' := hW
  obtain ⟨p, q, hA0, hV, rfl, hfz, hnd⟩ := hW
  have hA : DataW.TrodAll enc Try.prog W 0 (fun _ => true) true Try.f8.params.toList args.toList ds p := hA0
  rw [Try.params8] at hA hval
  obtain ⟨v0, v1, v2, v3, d0, d1, d2, d3, p0, p1, p2, p3, rfl, rfl, rfl, h0, h1, h2, h3⟩ := trodAll_four hA
  obtain ⟨rfl, rfl⟩ := trodVars_none hV
  have hsz : ∀ n ∈ DataW.weightsEach Try.prog [22, 22, 33, 3] [d0, d1, d2, d3], n ≤ reachBytes := fun n hn => by
    have := List.all_eq_true.1 hsz0 n (by rw [Try.params8]; exact hn)
    simpa using this
  obtain ⟨_, k0⟩ := one_ofV Try.underlying22 (hval 0 22 v0 rfl rfl) h0
  obtain ⟨A0, x0, c0, rfl, a0, b0, e0⟩ := steps_at k0 (fun n hn => hsz n (DataW.weights_mem_each (j := 0) rfl rfl n hn))
  obtain ⟨_, k1⟩ := one_ofV Try.underlying22 (hval 1 22 v1 rfl rfl) h1
  obtain ⟨A1, x1, c1, rfl, a1, b1, e1⟩ := steps_at k1 (fun n hn => hsz n (DataW.weights_mem_each (j := 1) rfl rfl n hn))
  obtain ⟨_, k2⟩ := one_ofV Try.underlying33 (hval 2 33 v2 rfl rfl) h2
  obtain ⟨A2, x2, c2, rfl, a2, b2⟩ := bools_at k2 (fun n hn => hsz n (DataW.weights_mem_each (j := 2) rfl rfl n hn))
  obtain ⟨x3, rfl, _, _, w3⟩ := open_int Try.underlying3 (hval 3 3 v3 rfl rfl) h3
  clear hA0 hval0
  refine (diskLeft_c A0 x0 c0 A1 x1 c1 A2 x2 c2 x3 W a0 b0 e0 a1 b1 e1 a2 b2 (i64_of w3)).mono fun e W' ⟨he, hb⟩ => ?_
  subst he
  exact ⟨_, rfl, post_true hW' hb Try.laidOut (by kernel_rfl) rfl rfl rfl rfl rfl Try.underlying4⟩

theorem diskLeft_holds : Rows.DiskLeftSaid :=
  OpenClaim.holds_of_wide 8 Try.f8 rfl rfl rfl rfl rfl rfl rfl ⟨rfl, rfl, rfl, rfl, rfl⟩ rfl rfl rfl rfl rfl (by kernel_rfl) Try.func8 (by kernel_rfl)
    (of_decide_eq_true (by kernel_rfl)) (by unfold Func.isWrapper; first | (rw [if_pos (by decide +kernel)]; kernel_rfl) | (rw [if_neg (by decide +kernel)]; exact ⟨rfl, rfl⟩))
    (fun os started H enc _ => diskLeft_lifted os started H enc)
#print axioms diskLeft_holds
end Go.Proofs.Ytnniiokpngdgkaa
