/-
  AdmitNames' walk.
-/
import Derived.Test.YtmmmdidbnjcooaaDoorAdL
namespace Go.Proofs.YtmmmdidbnjcooaaDoor
open Go Go.RowKit Go.Maps Go.Shelf Go.Proofs

attribute [local go_sem] Oper.semAt_some

set_option maxRecDepth 100000 in
set_option maxHeartbeats 16000000 in
theorem admitNames_c (w : World) (hTab : Tabs w) [DecidableEq Lit] :
    Calls Tryd.prog 9 #[] w fun e w' => e = .returned (.bool true) ∧ Below w.heap.size w w' := by
  go_enter Tryd.func9, Tryd.ntmps9
  go_wp2_with (fail)
  refine (psome_c w).mono ?_
  rintro e w1 ⟨rfl, hb1⟩
  go_wp2_with (fail)
  refine (ptwo_c w1).mono ?_
  rintro e w2 ⟨g, g1, g2, rfl, htwo, hb2⟩
  have hb3 := below_alloc w2 (.cells (pcells pEx).toArray 34)
  have hP := row1_new w2 (pcells pEx) 34
  have hG := htwo.below hb3
  have hbw := (hb1.trans (hb2.mono hb1.size)).trans (hb3.mono (Nat.le_trans hb1.size hb2.size))
  clear htwo hb1 hb2 hb3
  go_upto_region 2 with (fail)
  simp only [List.toArray] at hP hG hbw
  generalize w2.alloc (.cells #[.int .u64 pEx.P, .int .u64 pEx.Q, .int .u64 pEx.G, .int .u64 pEx.H, .int .i64 pEx.Nodes, .int .i64 pEx.N, .int .i64 pEx.T, .int .i64 pEx.K, .int .i64 pEx.D, .int .i64 pEx.R, .int .i64 pEx.M, .int .i64 pEx.X] 34) = w3 at *
  obtain ⟨bp, hgp⟩ : ∃ n, w2.heap.size = n := ⟨_, rfl⟩
  rw [hgp] at hP ⊢
  clear hgp
  go_wp2_with (fail)
  refine (awake21_c w3 (hTab.below hbw)).mono ?_
  rintro e w4 ⟨rfl, hb4⟩
  replace hP := hP.below hb4
  replace hG := hG.below hb4
  replace hbw := below_next hbw hbw.size hb4
  clear hb4
  obtain ⟨p0, p1, p2, p3, p4, p5, p6, p7, p8, p9, p10, p11⟩ := par_cells hP
  have hB := Bun.nil w4
  go_wp2_with (first | (refine wpList_named hB rfl ?_; clear hB; intro wn gn hB hbn hg; (try rw [hg]); clear hg hbn) | fail)
  refine (afollows_c pEx pEx_ok (some ⟨g, 0, none⟩) twoL 2 (some ⟨_, 0, none⟩) [2, -1] 2 _ ((hG.below hB.b).asks) (askOk_of (by decide)) ((hB.row (i := 0) rfl).cells) (by decide) (i64s_of (by decide)) (hTab.below (below_next hbw hbw.size hB.b))).mono ?_
  rintro e w5 ⟨rfl, hb5⟩
  rw [an_f1]
  replace hP := (hP.below hB.b).below hb5
  replace hG := (hG.below hB.b).below hb5
  replace hbw := below_next (below_next hbw hbw.size hB.b) (Nat.le_trans hbw.size hB.b.size) hb5
  clear hb5 hB p0 p1 p2 p3 p4 p5 p6 p7 p8 p9 p10 p11
  obtain ⟨p0, p1, p2, p3, p4, p5, p6, p7, p8, p9, p10, p11⟩ := par_cells hP
  go_wp2_with (fail)
  refine (arank_c pEx pEx_ok none [] 0 w5 (asks_none _) (askOk_of (by decide)) (hTab.below hbw)).mono ?_
  rintro e w6 ⟨rfl, hb6⟩
  rw [an_r0]
  replace hP := hP.below hb6
  replace hG := hG.below hb6
  replace hbw := below_next hbw hbw.size hb6
  clear hb6 p0 p1 p2 p3 p4 p5 p6 p7 p8 p9 p10 p11
  go_wp2_with (fail)
  refine (acopy_c none [] 0 w6 (asks_none _) (askOk_of (by decide))).mono ?_
  rintro e w7 ⟨v7, rfl, ho7, hb7⟩
  obtain ⟨A7, c7, rfl, _⟩ := ho7.asks
  replace hP := hP.below hb7
  replace hG := hG.below hb7
  replace hbw := below_next hbw hbw.size hb7
  clear hb7 ho7
  have hB := Bun.nil w7
  go_wp2_with (first | (refine wpList_named hB rfl ?_; clear hB; intro wn gn hB hbn hg; (try rw [hg]); clear hg hbn) | fail)
  refine (asame_none 0 0 _ _).mono ?_
  rintro e w8 ⟨rfl, hd8⟩
  have hb8 := below_dr (Below.refl wn.heap.size wn) hd8
  replace hP := (hP.below hB.b).below hb8
  replace hG := (hG.below hB.b).below hb8
  replace hbw := below_next (below_next hbw hbw.size hB.b) (Nat.le_trans hbw.size hB.b.size) hb8
  clear hb8 hd8 hB
  go_wp2_with (fail)
  refine (asame_no _ _ 2 1 _ _ _ (by decide)).mono ?_
  rintro e w9 ⟨rfl, hd9⟩
  have hb9 := below_dr (Below.refl w8.heap.size w8) hd9
  replace hP := hP.below hb9
  replace hG := hG.below hb9
  replace hbw := below_next hbw hbw.size hb9
  clear hb9 hd9
  have hB := Bun.nil w9
  go_upto_region 5 with (first | (refine wpList_named hB rfl ?_; clear hB; intro wn gn hB hbn hg; (try rw [hg]); clear hg hbn) | fail)
  have hTb : TabAt wn gn := by
    intro k t hk
    match k, hk with
    | 0, hk => obtain rfl := Option.some.inj hk; exact ⟨_, _, (hB.row (i := 0) rfl).cell (k := 0) rfl, (hB.row (i := 0) rfl).cell (k := 1) rfl, (hB.row (i := 0) rfl).cell (k := 2) rfl, (hB.row (i := 9) rfl).cells⟩
    | 1, hk => obtain rfl := Option.some.inj hk; exact ⟨_, _, (hB.row (i := 0) rfl).cell (k := 3) rfl, (hB.row (i := 0) rfl).cell (k := 4) rfl, (hB.row (i := 0) rfl).cell (k := 5) rfl, (hB.row (i := 8) rfl).cells⟩
    | 2, hk => obtain rfl := Option.some.inj hk; exact ⟨_, _, (hB.row (i := 0) rfl).cell (k := 6) rfl, (hB.row (i := 0) rfl).cell (k := 7) rfl, (hB.row (i := 0) rfl).cell (k := 8) rfl, (hB.row (i := 7) rfl).cells⟩
    | 3, hk => obtain rfl := Option.some.inj hk; exact ⟨_, _, (hB.row (i := 0) rfl).cell (k := 9) rfl, (hB.row (i := 0) rfl).cell (k := 10) rfl, (hB.row (i := 0) rfl).cell (k := 11) rfl, (hB.row (i := 6) rfl).cells⟩
    | 4, hk => obtain rfl := Option.some.inj hk; exact ⟨_, _, (hB.row (i := 0) rfl).cell (k := 12) rfl, (hB.row (i := 0) rfl).cell (k := 13) rfl, (hB.row (i := 0) rfl).cell (k := 14) rfl, (hB.row (i := 5) rfl).cells⟩
    | 5, hk => obtain rfl := Option.some.inj hk; exact ⟨_, _, (hB.row (i := 0) rfl).cell (k := 15) rfl, (hB.row (i := 0) rfl).cell (k := 16) rfl, (hB.row (i := 0) rfl).cell (k := 17) rfl, (hB.row (i := 4) rfl).cells⟩
    | 6, hk => obtain rfl := Option.some.inj hk; exact ⟨_, _, (hB.row (i := 0) rfl).cell (k := 18) rfl, (hB.row (i := 0) rfl).cell (k := 19) rfl, (hB.row (i := 0) rfl).cell (k := 20) rfl, .inl rfl⟩
    | 7, hk => obtain rfl := Option.some.inj hk; exact ⟨_, _, (hB.row (i := 0) rfl).cell (k := 21) rfl, (hB.row (i := 0) rfl).cell (k := 22) rfl, (hB.row (i := 0) rfl).cell (k := 23) rfl, (hB.row (i := 3) rfl).cells⟩
    | 8, hk => obtain rfl := Option.some.inj hk; exact ⟨_, _, (hB.row (i := 0) rfl).cell (k := 24) rfl, (hB.row (i := 0) rfl).cell (k := 25) rfl, (hB.row (i := 0) rfl).cell (k := 26) rfl, (hB.row (i := 2) rfl).cells⟩
    | 9, hk => obtain rfl := Option.some.inj hk; exact ⟨_, _, (hB.row (i := 0) rfl).cell (k := 27) rfl, (hB.row (i := 0) rfl).cell (k := 28) rfl, (hB.row (i := 0) rfl).cell (k := 29) rfl, (hB.row (i := 1) rfl).cells⟩
    | k + 10, hk => simp at hk
  replace hP := hP.below hB.b
  replace hG := hG.below hB.b
  replace hbw := below_next hbw hbw.size hB.b
  have HP := hid hP
  have HG := hid hG
  have HBW := hid hbw
  have HTb := hid hTb
  have HT := hid hTab
  clear hP hG hbw hTb hTab hB
  generalize wn = wo at *
  generalize gn = gt at *
  go_loopw [68] (fun i wr => ∃ k : Nat, i = .int .i64 (k : Int) ∧ k ≤ 10 ∧ Hid (Below wo.heap.size wo wr)) (fun i _ => 10 - (intOf i).toNat)
  case atStart => exact ⟨0, rfl, by omega, hid (Below.refl _ _)⟩
  case round =>
    obtain ⟨k, rfl, hk, HI⟩ := hrel
    rename_i wr
    by_cases hlt : k < 10
    · obtain ⟨t, ht⟩ := get_of_lt (l := tabE) (show k < tabE.length from hlt)
      have hm := List.mem_of_getElem? ht
      obtain ⟨A, c, d0, d1, d2, hx⟩ := (HTb.out.below HI.out) k t ht
      have hq := tab_q t hm
      obtain ⟨ok1, ok2, ok3, ok4, ok5⟩ := tab_ok t hm
      have hb9 := below_alloc wr (.cells #[.int .i64 t.id, .slice A t.x.length c, .int .i64 t.e] 66)
      have hr9 := row1_new wr [.int .i64 t.id, .slice A t.x.length c, .int .i64 t.e] 66
      have hx9 := (hx.below hb9)
      have hbz := below_next HI.out HI.out.size hb9
      have hP := HP.out.below hbz
      have hG := HG.out.below hbz
      have hbw := below_next HBW.out HBW.out.size hbz
      have hTab := HT.out.below hbw
      have HK := hid hbz
      clear ht hm hx hb9 hbz HI
      generalize t.e = E at *
      have HE := hid hq
      clear hq
      go_upto_region 7 with (fail)
      simp only [List.toArray] at hr9 hx9 hP hG hbw hTab HK
      generalize wr.alloc (.cells _ 66) = wb at *
      obtain ⟨g9, hg9⟩ : ∃ n, wr.heap.size = n := ⟨_, rfl⟩
      rw [hg9] at hr9 ⊢
      clear hg9
      refine Rg.wp_region (l := [_, _, _, _, _, _, _, _, _, _, _, _]) (tail := [_]) (Rg.grows _ 13) [some 73, some 74, some 75, some 76, some 77, some 78, some 79, some 80, some 72, some 81, some 82, some 5, some 6] 213 (by kernel_rfl) (by kernel_rfl) (by kernel_rfl) rfl (Rg.grows_fair _ _) (Rg.keep_drew _) (trivial) ?_
      refine Rg.op_is (pval pEx) [] rfl rfl (by kernel_rfl) ?_ ?_
      · intro wx hb
        refine Rg.from_nil fun T hT => ?_
        obtain ⟨p0, p1, p2, p3, p4, p5, p6, p7, p8, p9, p10, p11⟩ := par_cells (hP.below hb)
        go_wp2
        exact hT _ _ rfl (by first | exact Rg.Keep.refl _ | exact below_of_dr hw2 | exact hw2 | exact (Below.refl _ _).alloc (Nat.le_refl _) _) (by first | rfl | exact congrArg _ (by decide))
      refine' Rg.op_is _ [] rfl rfl (by kernel_rfl) ?_ ?_
      rotate_left
      · intro wx hb
        refine Rg.from_nil fun T hT => ?_
        go_wp2
        refine hT _ _ rfl (by first | exact Rg.Keep.refl _ | exact below_of_dr hw2 | exact hw2 | exact (Below.refl _ _).alloc (Nat.le_refl _) _) ?_
        simp only [Rg.last, List.getElem?_toArray, List.getElem?_cons_succ, List.getElem?_cons_zero, Option.getD_some]
        rfl
      refine Rg.op_is (.slice (some ⟨g, 0, none⟩) 1 2) [1] rfl rfl (by kernel_rfl) ?_ ?_
      · intro wx hb
        refine Rg.from_is (some 74) rfl rfl ?_
        refine Rg.from_nil fun T hT => ?_
        go_wp2
        exact hT _ _ rfl (by first | exact Rg.Keep.refl _ | exact below_of_dr hw2 | exact hw2 | exact (Below.refl _ _).alloc (Nat.le_refl _) _) (by first | rfl | exact congrArg _ (by decide))
      refine' Rg.op_is _ [] rfl rfl (by kernel_rfl) ?_ ?_
      rotate_left
      · intro wx hb
        refine Rg.from_nil fun T hT => ?_
        go_wp2
        refine hT _ _ rfl (by first | exact Rg.Keep.refl _ | exact below_of_dr hw2 | exact hw2 | exact (Below.refl _ _).alloc (Nat.le_refl _) _) ?_
        simp only [Rg.last, List.getElem?_toArray, List.getElem?_cons_succ, List.getElem?_cons_zero, Option.getD_some]
        rfl
      refine Rg.op_is (.int .i64 t.id) [3] rfl rfl (by kernel_rfl) ?_ ?_
      · intro wx hb
        refine Rg.from_is (some 76) rfl rfl ?_
        refine Rg.from_nil fun T hT => ?_
        have c3 := (hr9.below hb).cell (k := 0) rfl
        go_wp2
        exact hT _ _ rfl (by first | exact Rg.Keep.refl _ | exact below_of_dr hw2 | exact hw2 | exact (Below.refl _ _).alloc (Nat.le_refl _) _) (by first | rfl | exact congrArg _ (by decide))
      refine' Rg.op_is _ [] rfl rfl (by kernel_rfl) ?_ ?_
      rotate_left
      · intro wx hb
        refine Rg.from_nil fun T hT => ?_
        go_wp2
        refine hT _ _ rfl (by first | exact Rg.Keep.refl _ | exact below_of_dr hw2 | exact hw2 | exact (Below.refl _ _).alloc (Nat.le_refl _) _) ?_
        simp only [Rg.last, List.getElem?_toArray, List.getElem?_cons_succ, List.getElem?_cons_zero, Option.getD_some]
        rfl
      refine Rg.op_is (.slice A t.x.length c) [5] rfl rfl (by kernel_rfl) ?_ ?_
      · intro wx hb
        refine Rg.from_is (some 78) rfl rfl ?_
        refine Rg.from_nil fun T hT => ?_
        have c3 := (hr9.below hb).cell (k := 1) rfl
        go_wp2
        exact hT _ _ rfl (by first | exact Rg.Keep.refl _ | exact below_of_dr hw2 | exact hw2 | exact (Below.refl _ _).alloc (Nat.le_refl _) _) (by first | rfl | exact congrArg _ (by decide))
      refine Rg.op_of (fun w' v => PutV pEx oneL ⟨t.id, t.x⟩ w.heap.size w' v) [0, 2, 4, 6] rfl ?_ ?_ rfl (by kernel_rfl) ?_ ?_
      · exact fun w1 w2 v hk h => h.below hk
      · exact fun w1 w2 v hk h => h.below hk
      · intro wx hb
        refine Rg.from_is (some 73) rfl rfl ?_
        refine Rg.from_is (some 75) rfl rfl ?_
        refine Rg.from_is (some 77) rfl rfl ?_
        refine Rg.from_is (some 79) rfl rfl ?_
        refine Rg.from_nil fun T hT => ?_
        go_wp2_with (fail)
        refine (aput_c pEx pEx_ok (some ⟨g, 0, none⟩) oneL 2 t.id A t.x c _ (((hG.below hb).asks).take 1) (askOk_of (by decide)) (hx9.below hb) (by omega) ok2 (hTab.below hb)).mono ?_
        rintro e w4 ⟨v, rfl, g1, g2, hw2⟩
        have hpv : PutV pEx oneL ⟨t.id, t.x⟩ w.heap.size w4 (.tuple #[v, .int .i64 (queryP pEx oneL t.id t.x)]) := ⟨v, rfl, fun h => (g1 h).from_ (by have h1 := hbw.size; have h2 := hb.size; omega), g2⟩
        clear g1 g2
        go_wp2
        exact hT _ _ rfl hw2 hpv
      refine Rg.op_of (fun w' v => PutV pEx oneL ⟨t.id, t.x⟩ w.heap.size w' v) [7] rfl ?_ ?_ rfl (by kernel_rfl) ?_ ?_
      · exact fun w1 w2 v hk h => h.below hk
      · exact fun w1 w2 v hk h => h.below hk
      · intro wx hb
        refine Rg.from_of (some 80) rfl rfl fun v80 h80 => ?_
        refine Rg.from_nil fun T hT => ?_
        have h := h80
        go_wp2
        exact hT _ _ rfl (Below.refl _ _) h
      refine Rg.op_of (fun w' v => NextV pEx oneL ⟨t.id, t.x⟩ w.heap.size w' v) [8] rfl ?_ ?_ rfl (by kernel_rfl) ?_ ?_
      · exact fun w1 w2 v hk h => h.below hk
      · exact fun w1 w2 v hk h => h.below hk
      · intro wx hb
        refine Rg.from_of (some 72) rfl rfl fun v72 h72 => ?_
        refine Rg.from_nil fun T hT => ?_
        obtain ⟨v', rfl, h⟩ := h72
        go_wp2
        exact hT _ _ rfl (Below.refl _ _) h
      refine Rg.op_is (.int .i64 E) [8] rfl rfl (by kernel_rfl) ?_ ?_
      · intro wx hb
        refine Rg.from_of (some 72) rfl rfl fun v72 h72 => ?_
        refine Rg.from_nil fun T hT => ?_
        obtain ⟨v', rfl, h⟩ := h72
        rw [HE.out]
        go_wp2
        exact hT _ _ rfl (Below.refl _ _) rfl
      refine Rg.op_of (fun w' v => NextV pEx oneL ⟨t.id, t.x⟩ w.heap.size w' v) [9] rfl ?_ ?_ rfl (by kernel_rfl) ?_ ?_
      · exact fun w1 w2 v hk h => h.below hk
      · exact fun w1 w2 v hk h => h.below hk
      · intro wx hb
        refine Rg.from_of (some 81) rfl rfl fun v81 h81 => ?_
        refine Rg.from_nil fun T hT => ?_
        have h := h81
        go_wp2
        exact hT _ _ rfl (Below.refl _ _) h
      refine Rg.walk_nil [0, 1, 2, 3, 4, 5, 6, 7, 8, 9, 10, 11] (by kernel_rfl) ?_
      intro wx hb
      refine Rg.from_is (some 73) rfl rfl ?_
      refine Rg.from_is (some 74) rfl rfl ?_
      refine Rg.from_is (some 75) rfl rfl ?_
      refine Rg.from_is (some 76) rfl rfl ?_
      refine Rg.from_is (some 77) rfl rfl ?_
      refine Rg.from_is (some 78) rfl rfl ?_
      refine Rg.from_is (some 79) rfl rfl ?_
      refine Rg.from_of (some 80) rfl rfl fun v80 h80 => ?_
      refine Rg.from_of (some 72) rfl rfl fun v72 h72 => ?_
      refine Rg.from_of (some 81) rfl rfl fun v81 h81 => ?_
      refine Rg.from_is (some 82) rfl rfl ?_
      refine Rg.from_of (some 5) rfl rfl fun v5 h5 => ?_
      refine Rg.from_nil ?_
      simp only [List.map, Act.put, List.setIfInBounds_toArray, List.set_cons_zero, List.set_cons_succ]
      have hr9b := hr9.below hb
      have hx9b := hx9.below hb
      have hPb := hP.below hb
      have hGb := hG.below hb
      have hTabb := hTab.below hb
      have HKb := hid (below_next HK.out HK.out.size hb)
      have hN := h5
      clear h80 h72 h81 h5 hr9 hx9 hP hG hTab hbw HK hb
      generalize wx = wc at *
      by_cases hE0 : E = 0
      · subst hE0
        obtain ⟨A5, c5, rfl, hA5⟩ := (hN.1 HE.out).asks
        obtain ⟨b5, off5, _, _, rfl, ca5, _, _, _⟩ := hA5.at_ (k := 1) (a := ⟨t.id, t.x⟩) rfl
        clear hN hA5
        go_upto_region 8 with (fail)
        refine Rg.wp_region (l := [_, _, _, _, _, _, _, _, _, _, _, _, _, _, _, _, _, _, _, _, _, _, _, _, _, _, _, _, _, _, _, _, _, _, _, _, _, _, _, _, _, _, _]) (tail := [_]) (Rg.grows _ 44) [some 83, some 84, some 85, some 86, some 87, some 88, some 89, some 90, some 91, some 92, some 93, some 94, some 95, some 96, some 97, some 98, some 99, some 100, some 101, some 102, some 103, some 104, some 105, some 106, some 107, some 108, some 109, some 110, some 111, some 112, some 113, some 114, some 115, some 116, some 117, some 118, some 119, some 120, some 121, some 122, some 123, some 124, some 125, some 126] 213 (by kernel_rfl) (by kernel_rfl) (by kernel_rfl) rfl (Rg.grows_fair _ _) (Rg.keep_drew _) (trivial) ?_
        refine' Rg.op_is _ [] rfl rfl (by kernel_rfl) ?_ ?_
        rotate_left
        · intro wx hb
          refine Rg.from_nil fun T hT => ?_
          go_wp2
          refine hT _ _ rfl (by first | exact Rg.Keep.refl _ | exact below_of_dr hw2 | exact hw2 | exact (Below.refl _ _).alloc (Nat.le_refl _) _) ?_
          simp only [Rg.last, List.getElem?_toArray, List.getElem?_cons_succ, List.getElem?_cons_zero, Option.getD_some]
          rfl
        refine' Rg.op_is _ [] rfl rfl (by kernel_rfl) ?_ ?_
        rotate_left
        · intro wx hb
          refine Rg.from_nil fun T hT => ?_
          go_wp2
          refine hT _ _ rfl (by first | exact Rg.Keep.refl _ | exact below_of_dr hw2 | exact hw2 | exact (Below.refl _ _).alloc (Nat.le_refl _) _) ?_
          simp only [Rg.last, List.getElem?_toArray, List.getElem?_cons_succ, List.getElem?_cons_zero, Option.getD_some]
          rfl
        refine Rg.op_is (.int .i64 0) [1] rfl rfl (by kernel_rfl) ?_ ?_
        · intro wx hb
          refine Rg.from_is (some 84) rfl rfl ?_
          refine Rg.from_nil fun T hT => ?_
          have c3 := (hr9b.below hb).cell (k := 2) rfl
          go_wp2
          exact hT _ _ rfl (by first | exact Rg.Keep.refl _ | exact below_of_dr hw2 | exact hw2 | exact (Below.refl _ _).alloc (Nat.le_refl _) _) (by first | rfl | exact congrArg _ (by decide))
        refine Rg.op_is (.bool false) [0, 2] rfl rfl (by kernel_rfl) ?_ ?_
        · intro wx hb
          refine Rg.from_is (some 83) rfl rfl ?_
          refine Rg.from_is (some 85) rfl rfl ?_
          refine Rg.from_nil fun T hT => ?_
          go_wp2
          exact hT _ _ rfl (by first | exact Rg.Keep.refl _ | exact below_of_dr hw2 | exact hw2 | exact (Below.refl _ _).alloc (Nat.le_refl _) _) (by first | rfl | exact congrArg _ (by decide))
        refine Rg.op_is (.bool false) [3] rfl rfl (by kernel_rfl) ?_ ?_
        · intro wx hb
          refine Rg.from_is (some 86) rfl rfl ?_
          refine Rg.from_nil fun T hT => ?_
          go_wp2
          exact hT _ _ rfl (by first | exact Rg.Keep.refl _ | exact below_of_dr hw2 | exact hw2 | exact (Below.refl _ _).alloc (Nat.le_refl _) _) (by first | rfl | exact congrArg _ (by decide))
        refine Rg.op_is (pval pEx) [] rfl rfl (by kernel_rfl) ?_ ?_
        · intro wx hb
          refine Rg.from_nil fun T hT => ?_
          obtain ⟨p0, p1, p2, p3, p4, p5, p6, p7, p8, p9, p10, p11⟩ := par_cells (hPb.below hb)
          go_wp2
          exact hT _ _ rfl (by first | exact Rg.Keep.refl _ | exact below_of_dr hw2 | exact hw2 | exact (Below.refl _ _).alloc (Nat.le_refl _) _) (by first | rfl | exact congrArg _ (by decide))
        refine' Rg.op_is _ [] rfl rfl (by kernel_rfl) ?_ ?_
        rotate_left
        · intro wx hb
          refine Rg.from_nil fun T hT => ?_
          go_wp2
          refine hT _ _ rfl (by first | exact Rg.Keep.refl _ | exact below_of_dr hw2 | exact hw2 | exact (Below.refl _ _).alloc (Nat.le_refl _) _) ?_
          simp only [Rg.last, List.getElem?_toArray, List.getElem?_cons_succ, List.getElem?_cons_zero, Option.getD_some]
          rfl
        refine Rg.op_is (.slice (some ⟨g, 0, none⟩) 1 2) [6] rfl rfl (by kernel_rfl) ?_ ?_
        · intro wx hb
          refine Rg.from_is (some 89) rfl rfl ?_
          refine Rg.from_nil fun T hT => ?_
          go_wp2
          exact hT _ _ rfl (by first | exact Rg.Keep.refl _ | exact below_of_dr hw2 | exact hw2 | exact (Below.refl _ _).alloc (Nat.le_refl _) _) (by first | rfl | exact congrArg _ (by decide))
        refine' Rg.op_is _ [] rfl rfl (by kernel_rfl) ?_ ?_
        rotate_left
        · intro wx hb
          refine Rg.from_nil fun T hT => ?_
          go_wp2
          refine hT _ _ rfl (by first | exact Rg.Keep.refl _ | exact below_of_dr hw2 | exact hw2 | exact (Below.refl _ _).alloc (Nat.le_refl _) _) ?_
          simp only [Rg.last, List.getElem?_toArray, List.getElem?_cons_succ, List.getElem?_cons_zero, Option.getD_some]
          rfl
        refine Rg.op_is (.int .i64 t.id) [8] rfl rfl (by kernel_rfl) ?_ ?_
        · intro wx hb
          refine Rg.from_is (some 91) rfl rfl ?_
          refine Rg.from_nil fun T hT => ?_
          have c3 := (hr9b.below hb).cell (k := 0) rfl
          go_wp2
          exact hT _ _ rfl (by first | exact Rg.Keep.refl _ | exact below_of_dr hw2 | exact hw2 | exact (Below.refl _ _).alloc (Nat.le_refl _) _) (by first | rfl | exact congrArg _ (by decide))
        refine' Rg.op_is _ [] rfl rfl (by kernel_rfl) ?_ ?_
        rotate_left
        · intro wx hb
          refine Rg.from_nil fun T hT => ?_
          go_wp2
          refine hT _ _ rfl (by first | exact Rg.Keep.refl _ | exact below_of_dr hw2 | exact hw2 | exact (Below.refl _ _).alloc (Nat.le_refl _) _) ?_
          simp only [Rg.last, List.getElem?_toArray, List.getElem?_cons_succ, List.getElem?_cons_zero, Option.getD_some]
          rfl
        refine Rg.op_is (.slice A t.x.length c) [10] rfl rfl (by kernel_rfl) ?_ ?_
        · intro wx hb
          refine Rg.from_is (some 93) rfl rfl ?_
          refine Rg.from_nil fun T hT => ?_
          have c3 := (hr9b.below hb).cell (k := 1) rfl
          go_wp2
          exact hT _ _ rfl (by first | exact Rg.Keep.refl _ | exact below_of_dr hw2 | exact hw2 | exact (Below.refl _ _).alloc (Nat.le_refl _) _) (by first | rfl | exact congrArg _ (by decide))
        refine Rg.op_is (.int .i64 0) [5, 7, 9, 11] rfl rfl (by kernel_rfl) ?_ ?_
        · intro wx hb
          refine Rg.from_is (some 88) rfl rfl ?_
          refine Rg.from_is (some 90) rfl rfl ?_
          refine Rg.from_is (some 92) rfl rfl ?_
          refine Rg.from_is (some 94) rfl rfl ?_
          refine Rg.from_nil fun T hT => ?_
          go_wp2_with (fail)
          refine (aquery_c pEx pEx_ok (some ⟨g, 0, none⟩) oneL 2 t.id A t.x c _ (((hGb.below hb).asks).take 1) (askOk_of (by decide)) (hx9b.below hb) (by omega) ok2 (hTabb.below hb)).mono ?_
          rintro e w4 ⟨rfl, hw2⟩
          rw [HE.out]
          go_wp2
          exact hT _ _ rfl hw2 rfl
        refine' Rg.op_is _ [] rfl rfl (by kernel_rfl) ?_ ?_
        rotate_left
        · intro wx hb
          refine Rg.from_nil fun T hT => ?_
          go_wp2
          refine hT _ _ rfl (by first | exact Rg.Keep.refl _ | exact below_of_dr hw2 | exact hw2 | exact (Below.refl _ _).alloc (Nat.le_refl _) _) ?_
          simp only [Rg.last, List.getElem?_toArray, List.getElem?_cons_succ, List.getElem?_cons_zero, Option.getD_some]
          rfl
        refine Rg.op_is (.int .i64 0) [13] rfl rfl (by kernel_rfl) ?_ ?_
        · intro wx hb
          refine Rg.from_is (some 96) rfl rfl ?_
          refine Rg.from_nil fun T hT => ?_
          have c3 := (hr9b.below hb).cell (k := 2) rfl
          go_wp2
          exact hT _ _ rfl (by first | exact Rg.Keep.refl _ | exact below_of_dr hw2 | exact hw2 | exact (Below.refl _ _).alloc (Nat.le_refl _) _) (by first | rfl | exact congrArg _ (by decide))
        refine Rg.op_is (.bool false) [12, 14] rfl rfl (by kernel_rfl) ?_ ?_
        · intro wx hb
          refine Rg.from_is (some 95) rfl rfl ?_
          refine Rg.from_is (some 97) rfl rfl ?_
          refine Rg.from_nil fun T hT => ?_
          go_wp2
          exact hT _ _ rfl (by first | exact Rg.Keep.refl _ | exact below_of_dr hw2 | exact hw2 | exact (Below.refl _ _).alloc (Nat.le_refl _) _) (by first | rfl | exact congrArg _ (by decide))
        refine Rg.op_is (.bool false) [4, 15] rfl rfl (by kernel_rfl) ?_ ?_
        · intro wx hb
          refine Rg.from_is (some 87) rfl rfl ?_
          refine Rg.from_is (some 98) rfl rfl ?_
          refine Rg.from_nil fun T hT => ?_
          go_wp2
          exact hT _ _ rfl (by first | exact Rg.Keep.refl _ | exact below_of_dr hw2 | exact hw2 | exact (Below.refl _ _).alloc (Nat.le_refl _) _) (by first | rfl | exact congrArg _ (by decide))
        refine Rg.op_is (.bool false) [16] rfl rfl (by kernel_rfl) ?_ ?_
        · intro wx hb
          refine Rg.from_is (some 99) rfl rfl ?_
          refine Rg.from_nil fun T hT => ?_
          go_wp2
          exact hT _ _ rfl (by first | exact Rg.Keep.refl _ | exact below_of_dr hw2 | exact hw2 | exact (Below.refl _ _).alloc (Nat.le_refl _) _) (by first | rfl | exact congrArg _ (by decide))
        refine' Rg.op_is _ [] rfl rfl (by kernel_rfl) ?_ ?_
        rotate_left
        · intro wx hb
          refine Rg.from_nil fun T hT => ?_
          go_wp2
          refine hT _ _ rfl (by first | exact Rg.Keep.refl _ | exact below_of_dr hw2 | exact hw2 | exact (Below.refl _ _).alloc (Nat.le_refl _) _) ?_
          simp only [Rg.last, List.getElem?_toArray, List.getElem?_cons_succ, List.getElem?_cons_zero, Option.getD_some]
          rfl
        refine Rg.op_is (.bool false) [18] rfl rfl (by kernel_rfl) ?_ ?_
        · intro wx hb
          refine Rg.from_is (some 101) rfl rfl ?_
          refine Rg.from_nil fun T hT => ?_
          go_wp2
          exact hT _ _ rfl (by first | exact Rg.Keep.refl _ | exact below_of_dr hw2 | exact hw2 | exact (Below.refl _ _).alloc (Nat.le_refl _) _) (by first | rfl | exact congrArg _ (by decide))
        refine Rg.op_is (.bool false) [19] rfl rfl (by kernel_rfl) ?_ ?_
        · intro wx hb
          refine Rg.from_is (some 102) rfl rfl ?_
          refine Rg.from_nil fun T hT => ?_
          go_wp2
          exact hT _ _ rfl (by first | exact Rg.Keep.refl _ | exact below_of_dr hw2 | exact hw2 | exact (Below.refl _ _).alloc (Nat.le_refl _) _) (by first | rfl | exact congrArg _ (by decide))
        refine Rg.op_skip rfl ?_
        refine Rg.op_skip rfl ?_
        refine Rg.op_skip rfl ?_
        refine Rg.op_is (.bool false) [20, 23] rfl rfl (by kernel_rfl) ?_ ?_
        · intro wx hb
          refine Rg.from_is (some 103) rfl rfl ?_
          refine Rg.from_is (some 106) rfl rfl ?_
          refine Rg.from_nil fun T hT => ?_
          go_wp2
          exact hT _ _ rfl (by first | exact Rg.Keep.refl _ | exact below_of_dr hw2 | exact hw2 | exact (Below.refl _ _).alloc (Nat.le_refl _) _) (by first | rfl | exact congrArg _ (by decide))
        refine Rg.op_is (.bool false) [17, 24] rfl rfl (by kernel_rfl) ?_ ?_
        · intro wx hb
          refine Rg.from_is (some 100) rfl rfl ?_
          refine Rg.from_is (some 107) rfl rfl ?_
          refine Rg.from_nil fun T hT => ?_
          go_wp2
          exact hT _ _ rfl (by first | exact Rg.Keep.refl _ | exact below_of_dr hw2 | exact hw2 | exact (Below.refl _ _).alloc (Nat.le_refl _) _) (by first | rfl | exact congrArg _ (by decide))
        refine Rg.op_is (.bool false) [25] rfl rfl (by kernel_rfl) ?_ ?_
        · intro wx hb
          refine Rg.from_is (some 108) rfl rfl ?_
          refine Rg.from_nil fun T hT => ?_
          go_wp2
          exact hT _ _ rfl (by first | exact Rg.Keep.refl _ | exact below_of_dr hw2 | exact hw2 | exact (Below.refl _ _).alloc (Nat.le_refl _) _) (by first | rfl | exact congrArg _ (by decide))
        refine' Rg.op_is _ [] rfl rfl (by kernel_rfl) ?_ ?_
        rotate_left
        · intro wx hb
          refine Rg.from_nil fun T hT => ?_
          go_wp2
          refine hT _ _ rfl (by first | exact Rg.Keep.refl _ | exact below_of_dr hw2 | exact hw2 | exact (Below.refl _ _).alloc (Nat.le_refl _) _) ?_
          simp only [Rg.last, List.getElem?_toArray, List.getElem?_cons_succ, List.getElem?_cons_zero, Option.getD_some]
          rfl
        refine Rg.op_is (.bool true) [27] rfl rfl (by kernel_rfl) ?_ ?_
        · intro wx hb
          refine Rg.from_is (some 110) rfl rfl ?_
          refine Rg.from_nil fun T hT => ?_
          go_wp2
          exact hT _ _ rfl (by first | exact Rg.Keep.refl _ | exact below_of_dr hw2 | exact hw2 | exact (Below.refl _ _).alloc (Nat.le_refl _) _) (by first | rfl | exact congrArg _ (by decide))
        refine Rg.op_is (.bool true) [28] rfl rfl (by kernel_rfl) ?_ ?_
        · intro wx hb
          refine Rg.from_is (some 111) rfl rfl ?_
          refine Rg.from_nil fun T hT => ?_
          go_wp2
          exact hT _ _ rfl (by first | exact Rg.Keep.refl _ | exact below_of_dr hw2 | exact hw2 | exact (Below.refl _ _).alloc (Nat.le_refl _) _) (by first | rfl | exact congrArg _ (by decide))
        refine' Rg.op_is _ [] rfl rfl (by kernel_rfl) ?_ ?_
        rotate_left
        · intro wx hb
          refine Rg.from_nil fun T hT => ?_
          go_wp2
          refine hT _ _ rfl (by first | exact Rg.Keep.refl _ | exact below_of_dr hw2 | exact hw2 | exact (Below.refl _ _).alloc (Nat.le_refl _) _) ?_
          simp only [Rg.last, List.getElem?_toArray, List.getElem?_cons_succ, List.getElem?_cons_zero, Option.getD_some]
          rfl
        refine Rg.op_is (.int .i64 2) [30] rfl rfl (by kernel_rfl) ?_ ?_
        · intro wx hb
          refine Rg.from_is (some 113) rfl rfl ?_
          refine Rg.from_nil fun T hT => ?_
          go_wp2
          exact hT _ _ rfl (by first | exact Rg.Keep.refl _ | exact below_of_dr hw2 | exact hw2 | exact (Below.refl _ _).alloc (Nat.le_refl _) _) (by first | rfl | exact congrArg _ (by decide))
        refine Rg.op_is (.bool false) [31] rfl rfl (by kernel_rfl) ?_ ?_
        · intro wx hb
          refine Rg.from_is (some 114) rfl rfl ?_
          refine Rg.from_nil fun T hT => ?_
          go_wp2
          exact hT _ _ rfl (by first | exact Rg.Keep.refl _ | exact below_of_dr hw2 | exact hw2 | exact (Below.refl _ _).alloc (Nat.le_refl _) _) (by first | rfl | exact congrArg _ (by decide))
        refine Rg.op_is (.bool false) [32] rfl rfl (by kernel_rfl) ?_ ?_
        · intro wx hb
          refine Rg.from_is (some 115) rfl rfl ?_
          refine Rg.from_nil fun T hT => ?_
          go_wp2
          exact hT _ _ rfl (by first | exact Rg.Keep.refl _ | exact below_of_dr hw2 | exact hw2 | exact (Below.refl _ _).alloc (Nat.le_refl _) _) (by first | rfl | exact congrArg _ (by decide))
        refine' Rg.op_is _ [] rfl rfl (by kernel_rfl) ?_ ?_
        rotate_left
        · intro wx hb
          refine Rg.from_nil fun T hT => ?_
          go_wp2
          refine hT _ _ rfl (by first | exact Rg.Keep.refl _ | exact below_of_dr hw2 | exact hw2 | exact (Below.refl _ _).alloc (Nat.le_refl _) _) ?_
          simp only [Rg.last, List.getElem?_toArray, List.getElem?_cons_succ, List.getElem?_cons_zero, Option.getD_some]
          rfl
        refine' Rg.op_is _ [34] rfl rfl (by kernel_rfl) ?_ ?_
        rotate_left
        · intro wx hb
          refine Rg.from_is (some 117) rfl rfl ?_
          refine Rg.from_nil fun T hT => ?_
          go_wp2
          refine hT _ _ rfl (by first | exact Rg.Keep.refl _ | exact below_of_dr hw2 | exact hw2 | exact (Below.refl _ _).alloc (Nat.le_refl _) _) ?_
          simp only [Rg.last, List.getElem?_toArray, List.getElem?_cons_succ, List.getElem?_cons_zero, Option.getD_some]
          rfl
        refine' Rg.op_is _ [35] rfl rfl (by kernel_rfl) ?_ ?_
        rotate_left
        · intro wx hb
          refine Rg.from_is (some 118) rfl rfl ?_
          refine Rg.from_nil fun T hT => ?_
          go_wp2
          refine hT _ _ rfl (by first | exact Rg.Keep.refl _ | exact below_of_dr hw2 | exact hw2 | exact (Below.refl _ _).alloc (Nat.le_refl _) _) ?_
          simp only [Rg.last, List.getElem?_toArray, List.getElem?_cons_succ, List.getElem?_cons_zero, Option.getD_some]
          rfl
        refine Rg.op_is (.int .i64 t.id) [36] rfl rfl (by kernel_rfl) ?_ ?_
        · intro wx hb
          refine Rg.from_is (some 119) rfl rfl ?_
          refine Rg.from_nil fun T hT => ?_
          have c3 := (hb.cell (lt_of_cell ca5)).trans ca5
          go_wp2
          exact hT _ _ rfl (by first | exact Rg.Keep.refl _ | exact below_of_dr hw2 | exact hw2 | exact (Below.refl _ _).alloc (Nat.le_refl _) _) (by first | rfl | exact congrArg _ (by decide))
        refine' Rg.op_is _ [] rfl rfl (by kernel_rfl) ?_ ?_
        rotate_left
        · intro wx hb
          refine Rg.from_nil fun T hT => ?_
          go_wp2
          refine hT _ _ rfl (by first | exact Rg.Keep.refl _ | exact below_of_dr hw2 | exact hw2 | exact (Below.refl _ _).alloc (Nat.le_refl _) _) ?_
          simp only [Rg.last, List.getElem?_toArray, List.getElem?_cons_succ, List.getElem?_cons_zero, Option.getD_some]
          rfl
        refine Rg.op_is (.int .i64 t.id) [38] rfl rfl (by kernel_rfl) ?_ ?_
        · intro wx hb
          refine Rg.from_is (some 121) rfl rfl ?_
          refine Rg.from_nil fun T hT => ?_
          have c3 := (hr9b.below hb).cell (k := 0) rfl
          go_wp2
          exact hT _ _ rfl (by first | exact Rg.Keep.refl _ | exact below_of_dr hw2 | exact hw2 | exact (Below.refl _ _).alloc (Nat.le_refl _) _) (by first | rfl | exact congrArg _ (by decide))
        refine Rg.op_is (.bool false) [37, 39] rfl rfl (by kernel_rfl) ?_ ?_
        · intro wx hb
          refine Rg.from_is (some 120) rfl rfl ?_
          refine Rg.from_is (some 122) rfl rfl ?_
          refine Rg.from_nil fun T hT => ?_
          go_wp2
          exact hT _ _ rfl (by first | exact Rg.Keep.refl _ | exact below_of_dr hw2 | exact hw2 | exact (Below.refl _ _).alloc (Nat.le_refl _) _) (by first | rfl | exact congrArg _ (by decide))
        refine Rg.op_is (.bool false) [33, 40] rfl rfl (by kernel_rfl) ?_ ?_
        · intro wx hb
          refine Rg.from_is (some 116) rfl rfl ?_
          refine Rg.from_is (some 123) rfl rfl ?_
          refine Rg.from_nil fun T hT => ?_
          go_wp2
          exact hT _ _ rfl (by first | exact Rg.Keep.refl _ | exact below_of_dr hw2 | exact hw2 | exact (Below.refl _ _).alloc (Nat.le_refl _) _) (by first | rfl | exact congrArg _ (by decide))
        refine Rg.op_is (.bool false) [29, 41] rfl rfl (by kernel_rfl) ?_ ?_
        · intro wx hb
          refine Rg.from_is (some 112) rfl rfl ?_
          refine Rg.from_is (some 124) rfl rfl ?_
          refine Rg.from_nil fun T hT => ?_
          go_wp2
          exact hT _ _ rfl (by first | exact Rg.Keep.refl _ | exact below_of_dr hw2 | exact hw2 | exact (Below.refl _ _).alloc (Nat.le_refl _) _) (by first | rfl | exact congrArg _ (by decide))
        refine Rg.walk_nil [0, 1, 2, 3, 4, 5, 6, 7, 8, 9, 10, 11, 12, 13, 14, 15, 16, 17, 18, 19, 20, 21, 22, 23, 24, 25, 26, 27, 28, 29, 30, 31, 32, 33, 34, 35, 36, 37, 38, 39, 40, 41, 42] (by kernel_rfl) ?_
        intro wx hb
        refine Rg.from_is (some 83) rfl rfl ?_
        refine Rg.from_is (some 84) rfl rfl ?_
        refine Rg.from_is (some 85) rfl rfl ?_
        refine Rg.from_is (some 86) rfl rfl ?_
        refine Rg.from_is (some 87) rfl rfl ?_
        refine Rg.from_is (some 88) rfl rfl ?_
        refine Rg.from_is (some 89) rfl rfl ?_
        refine Rg.from_is (some 90) rfl rfl ?_
        refine Rg.from_is (some 91) rfl rfl ?_
        refine Rg.from_is (some 92) rfl rfl ?_
        refine Rg.from_is (some 93) rfl rfl ?_
        refine Rg.from_is (some 94) rfl rfl ?_
        refine Rg.from_is (some 95) rfl rfl ?_
        refine Rg.from_is (some 96) rfl rfl ?_
        refine Rg.from_is (some 97) rfl rfl ?_
        refine Rg.from_is (some 98) rfl rfl ?_
        refine Rg.from_is (some 99) rfl rfl ?_
        refine Rg.from_is (some 100) rfl rfl ?_
        refine Rg.from_is (some 101) rfl rfl ?_
        refine Rg.from_is (some 102) rfl rfl ?_
        refine Rg.from_is (some 103) rfl rfl ?_
        refine Rg.from_is (some 104) rfl rfl ?_
        refine Rg.from_is (some 105) rfl rfl ?_
        refine Rg.from_is (some 106) rfl rfl ?_
        refine Rg.from_is (some 107) rfl rfl ?_
        refine Rg.from_is (some 108) rfl rfl ?_
        refine Rg.from_is (some 109) rfl rfl ?_
        refine Rg.from_is (some 110) rfl rfl ?_
        refine Rg.from_is (some 111) rfl rfl ?_
        refine Rg.from_is (some 112) rfl rfl ?_
        refine Rg.from_is (some 113) rfl rfl ?_
        refine Rg.from_is (some 114) rfl rfl ?_
        refine Rg.from_is (some 115) rfl rfl ?_
        refine Rg.from_is (some 116) rfl rfl ?_
        refine Rg.from_is (some 117) rfl rfl ?_
        refine Rg.from_is (some 118) rfl rfl ?_
        refine Rg.from_is (some 119) rfl rfl ?_
        refine Rg.from_is (some 120) rfl rfl ?_
        refine Rg.from_is (some 121) rfl rfl ?_
        refine Rg.from_is (some 122) rfl rfl ?_
        refine Rg.from_is (some 123) rfl rfl ?_
        refine Rg.from_is (some 124) rfl rfl ?_
        refine Rg.from_is (some 125) rfl rfl ?_
        refine Rg.from_nil ?_
        simp only [List.map, Act.put, List.setIfInBounds_toArray, List.set_cons_zero, List.set_cons_succ]
        have HN := hid (below_next HKb.out HKb.out.size hb)
        clear hr9b hx9b hPb hGb hTabb HKb hb ca5
        go_wp2
        go_roundw
        case rel => exact ⟨k + 1, by go_num, by omega, HN⟩
        case measure => simp [intOf]; omega
      · have hbe : (E == 0) = false := by simpa using hE0
        have hbn : (E != 0) = true := by simpa using hE0
        obtain rfl := hN.2 (by rw [HE.out]; exact hE0)
        clear hN
        go_upto_region 8 with (fail)
        refine Rg.wp_region (l := [_, _, _, _, _, _, _, _, _, _, _, _, _, _, _, _, _, _, _, _, _, _, _, _, _, _, _, _, _, _, _, _, _, _, _, _, _, _, _, _, _, _, _]) (tail := [_]) (Rg.grows _ 44) [some 83, some 84, some 85, some 86, some 87, some 88, some 89, some 90, some 91, some 92, some 93, some 94, some 95, some 96, some 97, some 98, some 99, some 100, some 101, some 102, some 103, some 104, some 105, some 106, some 107, some 108, some 109, some 110, some 111, some 112, some 113, some 114, some 115, some 116, some 117, some 118, some 119, some 120, some 121, some 122, some 123, some 124, some 125, some 126] 213 (by kernel_rfl) (by kernel_rfl) (by kernel_rfl) rfl (Rg.grows_fair _ _) (Rg.keep_drew _) (trivial) ?_
        refine' Rg.op_is _ [] rfl rfl (by kernel_rfl) ?_ ?_
        rotate_left
        · intro wx hb
          refine Rg.from_nil fun T hT => ?_
          go_wp2
          refine hT _ _ rfl (by first | exact Rg.Keep.refl _ | exact below_of_dr hw2 | exact hw2 | exact (Below.refl _ _).alloc (Nat.le_refl _) _) ?_
          simp only [Rg.last, List.getElem?_toArray, List.getElem?_cons_succ, List.getElem?_cons_zero, Option.getD_some]
          rfl
        refine' Rg.op_is _ [] rfl rfl (by kernel_rfl) ?_ ?_
        rotate_left
        · intro wx hb
          refine Rg.from_nil fun T hT => ?_
          go_wp2
          refine hT _ _ rfl (by first | exact Rg.Keep.refl _ | exact below_of_dr hw2 | exact hw2 | exact (Below.refl _ _).alloc (Nat.le_refl _) _) ?_
          simp only [Rg.last, List.getElem?_toArray, List.getElem?_cons_succ, List.getElem?_cons_zero, Option.getD_some]
          rfl
        refine Rg.op_is (.int .i64 E) [1] rfl rfl (by kernel_rfl) ?_ ?_
        · intro wx hb
          refine Rg.from_is (some 84) rfl rfl ?_
          refine Rg.from_nil fun T hT => ?_
          have c3 := (hr9b.below hb).cell (k := 2) rfl
          go_wp2
          exact hT _ _ rfl (by first | exact Rg.Keep.refl _ | exact below_of_dr hw2 | exact hw2 | exact (Below.refl _ _).alloc (Nat.le_refl _) _) (by first | rfl | exact congrArg _ (by decide))
        refine Rg.op_is (.bool false) [0, 2] rfl rfl (by kernel_rfl) ?_ ?_
        · intro wx hb
          refine Rg.from_is (some 83) rfl rfl ?_
          refine Rg.from_is (some 85) rfl rfl ?_
          refine Rg.from_nil fun T hT => ?_
          go_wp2
          exact hT _ _ rfl (by first | exact Rg.Keep.refl _ | exact below_of_dr hw2 | exact hw2 | exact (Below.refl _ _).alloc (Nat.le_refl _) _) (by first | rfl | exact congrArg _ (by decide))
        refine Rg.op_is (.bool false) [3] rfl rfl (by kernel_rfl) ?_ ?_
        · intro wx hb
          refine Rg.from_is (some 86) rfl rfl ?_
          refine Rg.from_nil fun T hT => ?_
          go_wp2
          exact hT _ _ rfl (by first | exact Rg.Keep.refl _ | exact below_of_dr hw2 | exact hw2 | exact (Below.refl _ _).alloc (Nat.le_refl _) _) (by first | rfl | exact congrArg _ (by decide))
        refine Rg.op_is (pval pEx) [] rfl rfl (by kernel_rfl) ?_ ?_
        · intro wx hb
          refine Rg.from_nil fun T hT => ?_
          obtain ⟨p0, p1, p2, p3, p4, p5, p6, p7, p8, p9, p10, p11⟩ := par_cells (hPb.below hb)
          go_wp2
          exact hT _ _ rfl (by first | exact Rg.Keep.refl _ | exact below_of_dr hw2 | exact hw2 | exact (Below.refl _ _).alloc (Nat.le_refl _) _) (by first | rfl | exact congrArg _ (by decide))
        refine' Rg.op_is _ [] rfl rfl (by kernel_rfl) ?_ ?_
        rotate_left
        · intro wx hb
          refine Rg.from_nil fun T hT => ?_
          go_wp2
          refine hT _ _ rfl (by first | exact Rg.Keep.refl _ | exact below_of_dr hw2 | exact hw2 | exact (Below.refl _ _).alloc (Nat.le_refl _) _) ?_
          simp only [Rg.last, List.getElem?_toArray, List.getElem?_cons_succ, List.getElem?_cons_zero, Option.getD_some]
          rfl
        refine Rg.op_is (.slice (some ⟨g, 0, none⟩) 1 2) [6] rfl rfl (by kernel_rfl) ?_ ?_
        · intro wx hb
          refine Rg.from_is (some 89) rfl rfl ?_
          refine Rg.from_nil fun T hT => ?_
          go_wp2
          exact hT _ _ rfl (by first | exact Rg.Keep.refl _ | exact below_of_dr hw2 | exact hw2 | exact (Below.refl _ _).alloc (Nat.le_refl _) _) (by first | rfl | exact congrArg _ (by decide))
        refine' Rg.op_is _ [] rfl rfl (by kernel_rfl) ?_ ?_
        rotate_left
        · intro wx hb
          refine Rg.from_nil fun T hT => ?_
          go_wp2
          refine hT _ _ rfl (by first | exact Rg.Keep.refl _ | exact below_of_dr hw2 | exact hw2 | exact (Below.refl _ _).alloc (Nat.le_refl _) _) ?_
          simp only [Rg.last, List.getElem?_toArray, List.getElem?_cons_succ, List.getElem?_cons_zero, Option.getD_some]
          rfl
        refine Rg.op_is (.int .i64 t.id) [8] rfl rfl (by kernel_rfl) ?_ ?_
        · intro wx hb
          refine Rg.from_is (some 91) rfl rfl ?_
          refine Rg.from_nil fun T hT => ?_
          have c3 := (hr9b.below hb).cell (k := 0) rfl
          go_wp2
          exact hT _ _ rfl (by first | exact Rg.Keep.refl _ | exact below_of_dr hw2 | exact hw2 | exact (Below.refl _ _).alloc (Nat.le_refl _) _) (by first | rfl | exact congrArg _ (by decide))
        refine' Rg.op_is _ [] rfl rfl (by kernel_rfl) ?_ ?_
        rotate_left
        · intro wx hb
          refine Rg.from_nil fun T hT => ?_
          go_wp2
          refine hT _ _ rfl (by first | exact Rg.Keep.refl _ | exact below_of_dr hw2 | exact hw2 | exact (Below.refl _ _).alloc (Nat.le_refl _) _) ?_
          simp only [Rg.last, List.getElem?_toArray, List.getElem?_cons_succ, List.getElem?_cons_zero, Option.getD_some]
          rfl
        refine Rg.op_is (.slice A t.x.length c) [10] rfl rfl (by kernel_rfl) ?_ ?_
        · intro wx hb
          refine Rg.from_is (some 93) rfl rfl ?_
          refine Rg.from_nil fun T hT => ?_
          have c3 := (hr9b.below hb).cell (k := 1) rfl
          go_wp2
          exact hT _ _ rfl (by first | exact Rg.Keep.refl _ | exact below_of_dr hw2 | exact hw2 | exact (Below.refl _ _).alloc (Nat.le_refl _) _) (by first | rfl | exact congrArg _ (by decide))
        refine Rg.op_is (.int .i64 E) [5, 7, 9, 11] rfl rfl (by kernel_rfl) ?_ ?_
        · intro wx hb
          refine Rg.from_is (some 88) rfl rfl ?_
          refine Rg.from_is (some 90) rfl rfl ?_
          refine Rg.from_is (some 92) rfl rfl ?_
          refine Rg.from_is (some 94) rfl rfl ?_
          refine Rg.from_nil fun T hT => ?_
          go_wp2_with (fail)
          refine (aquery_c pEx pEx_ok (some ⟨g, 0, none⟩) oneL 2 t.id A t.x c _ (((hGb.below hb).asks).take 1) (askOk_of (by decide)) (hx9b.below hb) (by omega) ok2 (hTabb.below hb)).mono ?_
          rintro e w4 ⟨rfl, hw2⟩
          rw [HE.out]
          go_wp2
          exact hT _ _ rfl hw2 rfl
        refine' Rg.op_is _ [] rfl rfl (by kernel_rfl) ?_ ?_
        rotate_left
        · intro wx hb
          refine Rg.from_nil fun T hT => ?_
          go_wp2
          refine hT _ _ rfl (by first | exact Rg.Keep.refl _ | exact below_of_dr hw2 | exact hw2 | exact (Below.refl _ _).alloc (Nat.le_refl _) _) ?_
          simp only [Rg.last, List.getElem?_toArray, List.getElem?_cons_succ, List.getElem?_cons_zero, Option.getD_some]
          rfl
        refine Rg.op_is (.int .i64 E) [13] rfl rfl (by kernel_rfl) ?_ ?_
        · intro wx hb
          refine Rg.from_is (some 96) rfl rfl ?_
          refine Rg.from_nil fun T hT => ?_
          have c3 := (hr9b.below hb).cell (k := 2) rfl
          go_wp2
          exact hT _ _ rfl (by first | exact Rg.Keep.refl _ | exact below_of_dr hw2 | exact hw2 | exact (Below.refl _ _).alloc (Nat.le_refl _) _) (by first | rfl | exact congrArg _ (by decide))
        refine Rg.op_is (.bool false) [12, 14] rfl rfl (by kernel_rfl) ?_ ?_
        · intro wx hb
          refine Rg.from_is (some 95) rfl rfl ?_
          refine Rg.from_is (some 97) rfl rfl ?_
          refine Rg.from_nil fun T hT => ?_
          go_wp2
          exact hT _ _ rfl (by first | exact Rg.Keep.refl _ | exact below_of_dr hw2 | exact hw2 | exact (Below.refl _ _).alloc (Nat.le_refl _) _) (by first | rfl | exact congrArg _ (by decide))
        refine Rg.op_is (.bool false) [4, 15] rfl rfl (by kernel_rfl) ?_ ?_
        · intro wx hb
          refine Rg.from_is (some 87) rfl rfl ?_
          refine Rg.from_is (some 98) rfl rfl ?_
          refine Rg.from_nil fun T hT => ?_
          go_wp2
          exact hT _ _ rfl (by first | exact Rg.Keep.refl _ | exact below_of_dr hw2 | exact hw2 | exact (Below.refl _ _).alloc (Nat.le_refl _) _) (by first | rfl | exact congrArg _ (by decide))
        refine Rg.op_is (.bool false) [16] rfl rfl (by kernel_rfl) ?_ ?_
        · intro wx hb
          refine Rg.from_is (some 99) rfl rfl ?_
          refine Rg.from_nil fun T hT => ?_
          go_wp2
          exact hT _ _ rfl (by first | exact Rg.Keep.refl _ | exact below_of_dr hw2 | exact hw2 | exact (Below.refl _ _).alloc (Nat.le_refl _) _) (by first | rfl | exact congrArg _ (by decide))
        refine' Rg.op_is _ [] rfl rfl (by kernel_rfl) ?_ ?_
        rotate_left
        · intro wx hb
          refine Rg.from_nil fun T hT => ?_
          go_wp2
          refine hT _ _ rfl (by first | exact Rg.Keep.refl _ | exact below_of_dr hw2 | exact hw2 | exact (Below.refl _ _).alloc (Nat.le_refl _) _) ?_
          simp only [Rg.last, List.getElem?_toArray, List.getElem?_cons_succ, List.getElem?_cons_zero, Option.getD_some]
          rfl
        refine Rg.op_is (.bool true) [18] rfl rfl (by kernel_rfl) ?_ ?_
        · intro wx hb
          refine Rg.from_is (some 101) rfl rfl ?_
          refine Rg.from_nil fun T hT => ?_
          go_wp2
          exact hT _ _ rfl (by first | exact Rg.Keep.refl _ | exact below_of_dr hw2 | exact hw2 | exact (Below.refl _ _).alloc (Nat.le_refl _) _) (by first | rfl | exact congrArg _ (by decide))
        refine Rg.op_is (.bool true) [19] rfl rfl (by kernel_rfl) ?_ ?_
        · intro wx hb
          refine Rg.from_is (some 102) rfl rfl ?_
          refine Rg.from_nil fun T hT => ?_
          go_wp2
          exact hT _ _ rfl (by first | exact Rg.Keep.refl _ | exact below_of_dr hw2 | exact hw2 | exact (Below.refl _ _).alloc (Nat.le_refl _) _) (by first | rfl | exact congrArg _ (by decide))
        refine' Rg.op_is _ [] rfl rfl (by kernel_rfl) ?_ ?_
        rotate_left
        · intro wx hb
          refine Rg.from_nil fun T hT => ?_
          go_wp2
          refine hT _ _ rfl (by first | exact Rg.Keep.refl _ | exact below_of_dr hw2 | exact hw2 | exact (Below.refl _ _).alloc (Nat.le_refl _) _) ?_
          simp only [Rg.last, List.getElem?_toArray, List.getElem?_cons_succ, List.getElem?_cons_zero, Option.getD_some]
          rfl
        refine Rg.op_is (.int .i64 0) [21] rfl rfl (by kernel_rfl) ?_ ?_
        · intro wx hb
          refine Rg.from_is (some 104) rfl rfl ?_
          refine Rg.from_nil fun T hT => ?_
          go_wp2
          exact hT _ _ rfl (by first | exact Rg.Keep.refl _ | exact below_of_dr hw2 | exact hw2 | exact (Below.refl _ _).alloc (Nat.le_refl _) _) (by first | rfl | exact congrArg _ (by decide))
        refine Rg.op_is (.bool false) [22] rfl rfl (by kernel_rfl) ?_ ?_
        · intro wx hb
          refine Rg.from_is (some 105) rfl rfl ?_
          refine Rg.from_nil fun T hT => ?_
          go_wp2
          exact hT _ _ rfl (by first | exact Rg.Keep.refl _ | exact below_of_dr hw2 | exact hw2 | exact (Below.refl _ _).alloc (Nat.le_refl _) _) (by first | rfl | exact congrArg _ (by decide))
        refine Rg.op_is (.bool false) [20, 23] rfl rfl (by kernel_rfl) ?_ ?_
        · intro wx hb
          refine Rg.from_is (some 103) rfl rfl ?_
          refine Rg.from_is (some 106) rfl rfl ?_
          refine Rg.from_nil fun T hT => ?_
          go_wp2
          exact hT _ _ rfl (by first | exact Rg.Keep.refl _ | exact below_of_dr hw2 | exact hw2 | exact (Below.refl _ _).alloc (Nat.le_refl _) _) (by first | rfl | exact congrArg _ (by decide))
        refine Rg.op_is (.bool false) [17, 24] rfl rfl (by kernel_rfl) ?_ ?_
        · intro wx hb
          refine Rg.from_is (some 100) rfl rfl ?_
          refine Rg.from_is (some 107) rfl rfl ?_
          refine Rg.from_nil fun T hT => ?_
          go_wp2
          exact hT _ _ rfl (by first | exact Rg.Keep.refl _ | exact below_of_dr hw2 | exact hw2 | exact (Below.refl _ _).alloc (Nat.le_refl _) _) (by first | rfl | exact congrArg _ (by decide))
        refine Rg.op_is (.bool false) [25] rfl rfl (by kernel_rfl) ?_ ?_
        · intro wx hb
          refine Rg.from_is (some 108) rfl rfl ?_
          refine Rg.from_nil fun T hT => ?_
          go_wp2
          exact hT _ _ rfl (by first | exact Rg.Keep.refl _ | exact below_of_dr hw2 | exact hw2 | exact (Below.refl _ _).alloc (Nat.le_refl _) _) (by first | rfl | exact congrArg _ (by decide))
        refine' Rg.op_is _ [] rfl rfl (by kernel_rfl) ?_ ?_
        rotate_left
        · intro wx hb
          refine Rg.from_nil fun T hT => ?_
          go_wp2
          refine hT _ _ rfl (by first | exact Rg.Keep.refl _ | exact below_of_dr hw2 | exact hw2 | exact (Below.refl _ _).alloc (Nat.le_refl _) _) ?_
          simp only [Rg.last, List.getElem?_toArray, List.getElem?_cons_succ, List.getElem?_cons_zero, Option.getD_some]
          rfl
        refine Rg.op_is (.bool false) [27] rfl rfl (by kernel_rfl) ?_ ?_
        · intro wx hb
          refine Rg.from_is (some 110) rfl rfl ?_
          refine Rg.from_nil fun T hT => ?_
          go_wp2
          exact hT _ _ rfl (by first | exact Rg.Keep.refl _ | exact below_of_dr hw2 | exact hw2 | exact (Below.refl _ _).alloc (Nat.le_refl _) _) (by first | rfl | exact congrArg _ (by decide))
        refine Rg.op_is (.bool false) [28] rfl rfl (by kernel_rfl) ?_ ?_
        · intro wx hb
          refine Rg.from_is (some 111) rfl rfl ?_
          refine Rg.from_nil fun T hT => ?_
          go_wp2
          exact hT _ _ rfl (by first | exact Rg.Keep.refl _ | exact below_of_dr hw2 | exact hw2 | exact (Below.refl _ _).alloc (Nat.le_refl _) _) (by first | rfl | exact congrArg _ (by decide))
        refine Rg.op_skip rfl ?_
        refine Rg.op_skip rfl ?_
        refine Rg.op_skip rfl ?_
        refine Rg.op_skip rfl ?_
        refine Rg.op_skip rfl ?_
        refine Rg.op_skip rfl ?_
        refine Rg.op_skip rfl ?_
        refine Rg.op_skip rfl ?_
        refine Rg.op_skip rfl ?_
        refine Rg.op_skip rfl ?_
        refine Rg.op_skip rfl ?_
        refine Rg.op_skip rfl ?_
        refine Rg.op_is (.bool false) [29, 41] rfl rfl (by kernel_rfl) ?_ ?_
        · intro wx hb
          refine Rg.from_is (some 112) rfl rfl ?_
          refine Rg.from_is (some 124) rfl rfl ?_
          refine Rg.from_nil fun T hT => ?_
          go_wp2
          exact hT _ _ rfl (by first | exact Rg.Keep.refl _ | exact below_of_dr hw2 | exact hw2 | exact (Below.refl _ _).alloc (Nat.le_refl _) _) (by first | rfl | exact congrArg _ (by decide))
        refine Rg.walk_nil [0, 1, 2, 3, 4, 5, 6, 7, 8, 9, 10, 11, 12, 13, 14, 15, 16, 17, 18, 19, 20, 21, 22, 23, 24, 25, 26, 27, 28, 29, 30, 31, 32, 33, 34, 35, 36, 37, 38, 39, 40, 41, 42] (by kernel_rfl) ?_
        intro wx hb
        refine Rg.from_is (some 83) rfl rfl ?_
        refine Rg.from_is (some 84) rfl rfl ?_
        refine Rg.from_is (some 85) rfl rfl ?_
        refine Rg.from_is (some 86) rfl rfl ?_
        refine Rg.from_is (some 87) rfl rfl ?_
        refine Rg.from_is (some 88) rfl rfl ?_
        refine Rg.from_is (some 89) rfl rfl ?_
        refine Rg.from_is (some 90) rfl rfl ?_
        refine Rg.from_is (some 91) rfl rfl ?_
        refine Rg.from_is (some 92) rfl rfl ?_
        refine Rg.from_is (some 93) rfl rfl ?_
        refine Rg.from_is (some 94) rfl rfl ?_
        refine Rg.from_is (some 95) rfl rfl ?_
        refine Rg.from_is (some 96) rfl rfl ?_
        refine Rg.from_is (some 97) rfl rfl ?_
        refine Rg.from_is (some 98) rfl rfl ?_
        refine Rg.from_is (some 99) rfl rfl ?_
        refine Rg.from_is (some 100) rfl rfl ?_
        refine Rg.from_is (some 101) rfl rfl ?_
        refine Rg.from_is (some 102) rfl rfl ?_
        refine Rg.from_is (some 103) rfl rfl ?_
        refine Rg.from_is (some 104) rfl rfl ?_
        refine Rg.from_is (some 105) rfl rfl ?_
        refine Rg.from_is (some 106) rfl rfl ?_
        refine Rg.from_is (some 107) rfl rfl ?_
        refine Rg.from_is (some 108) rfl rfl ?_
        refine Rg.from_is (some 109) rfl rfl ?_
        refine Rg.from_is (some 110) rfl rfl ?_
        refine Rg.from_is (some 111) rfl rfl ?_
        refine Rg.from_is (some 112) rfl rfl ?_
        refine Rg.from_is (some 113) rfl rfl ?_
        refine Rg.from_is (some 114) rfl rfl ?_
        refine Rg.from_is (some 115) rfl rfl ?_
        refine Rg.from_is (some 116) rfl rfl ?_
        refine Rg.from_is (some 117) rfl rfl ?_
        refine Rg.from_is (some 118) rfl rfl ?_
        refine Rg.from_is (some 119) rfl rfl ?_
        refine Rg.from_is (some 120) rfl rfl ?_
        refine Rg.from_is (some 121) rfl rfl ?_
        refine Rg.from_is (some 122) rfl rfl ?_
        refine Rg.from_is (some 123) rfl rfl ?_
        refine Rg.from_is (some 124) rfl rfl ?_
        refine Rg.from_is (some 125) rfl rfl ?_
        refine Rg.from_nil ?_
        simp only [List.map, Act.put, List.setIfInBounds_toArray, List.set_cons_zero, List.set_cons_succ]
        have HN := hid (below_next HKb.out HKb.out.size hb)
        clear hr9b hx9b hPb hGb hTabb HKb hb
        go_wp2
        go_roundw
        case rel => exact ⟨k + 1, by go_num, by omega, HN⟩
        case measure => simp [intOf]; omega
    · rw [show (k : Int) = 10 by omega]
      have hbx := below_next HBW.out HBW.out.size HI.out
      have HP2 := hid (HP.out.below HI.out)
      have HG2 := hid (HG.out.below HI.out)
      have HX := hid hbx
      clear HI HP HG HTb HBW hbx
      generalize wr = wp at *
      go_upto_region 13 with (fail)
      go_loopw [7, 8] (fun m i wr => ∃ k : Nat, i = .int .i64 ((k : Int) + 1) ∧ k ≤ 8 ∧ Hid (OwnA wr wp.heap.size m (manyL k) ∧ Below wp.heap.size wp wr)) (fun _ i _ => 9 - (intOf i).toNat)
      case atStart => exact ⟨0, rfl, by omega, hid ⟨OwnA.nil _ _, Below.refl _ _⟩⟩
      case round =>
        obtain ⟨k, rfl, hk, HI⟩ := hrel
        rename_i m wr
        by_cases hlt : k < 8
        · have hB := Bun.nil wr
          have ho := HI.out.1
          have hbo := HI.out.2
          obtain ⟨A8, c8, rfl, hroom⟩ := ho.room
          have hbs : wp.heap.size ≤ wr.heap.size := hbo.size
          have hk1 : (k : Int) + 1 ≤ 8 := by omega
          clear HI
          go_wp2_with (first | (refine wpList_named hB rfl ?_; clear hB; intro wn gn hB hbn hg; (try rw [hg]); clear hg; replace ho := ho.below hbn; clear hbn) | (at_builtin; refine wpList_pushA _ rfl _ _ rfl wp.heap.size rfl ho (k := ⟨(k : Int) + 1, [1, 0]⟩) rfl (hB.row (i := 0) rfl) (((hB.row (i := 1) rfl).own (base := 0) (by omega) (by simp)).rowT) (by rw [manyL_len]; omega) (Nat.le_trans hbs hB.b.size) ?_; intro v7 w7 ho7 _ hb7))
          have HN := hid (And.intro (show OwnA w7 wp.heap.size v7 (manyL (k + 1)) by rw [manyL_succ]; exact ho7) ((below_next hbo hbo.size hB.b).trans hb7))
          clear ho ho7 hbo hb7 hB
          go_roundw
          case rel => exact ⟨k + 1, by go_num, by omega, HN⟩
          case measure => simp [intOf]; omega
        · have e8 : k = 8 := by omega
          rw [show (k : Int) + 1 = 9 by omega]
          subst e8
          have hbx := below_next HX.out HX.out.size HI.out.2
          have hP := HP2.out.below HI.out.2
          have hG := HG2.out.below HI.out.2
          have hTab := HT.out.below hbx
          obtain ⟨A8, c8, hv8, hA8, hr8⟩ : ∃ A c, u7 = Value.slice A (manyL 8).length c ∧ Asks wr A (manyL 8) ∧ (manyL 8).length ≤ c := by
            obtain ⟨A8, c8, h1, hA8⟩ := HI.out.1.asks
            obtain ⟨A9, c9, h2, hr8⟩ := HI.out.1.room
            rw [h1] at h2
            injection h2 with _ _ e9
            exact ⟨A8, c8, h1, hA8, by rw [e9]; exact hr8⟩
          subst hv8
          rw [manyL_len] at hr8 ⊢
          generalize g = gT at *
          clear HI HP2 HG2 HX HT
          obtain ⟨p0, p1, p2, p3, p4, p5, p6, p7, p8, p9, p10, p11⟩ := par_cells hP
          generalize wr = wq at *
          go_upto_region 16 with (fail)
          have HP3 := hid hP
          have HG3 := hid hG
          have HT3 := hid hTab
          have HB3 := hid hbx
          have HA3 := hid hA8
          clear hP hG hTab hbx hA8 p0 p1 p2 p3 p4 p5 p6 p7 p8 p9 p10 p11
          refine Rgi.wp_region (l := [_, _, _, _, _, _, _, _, _, _, _]) (tail := [_]) (⟨BoxB wq 34 (pcells pZ) (pcells pEx), [4, 5, 6, 7, 8, 9, 10]⟩) [some 138, some 139, some 140, some 141, some 9, some 10, some 11, some 12, none, none, none, none] 213 rfl (by kernel_rfl) (by kernel_rfl) rfl (BoxB.start _ _ _ _) ?_
          refine Rgi.op_is (pval pEx) [] rfl rfl (by kernel_rfl) ?_ ?_
          · intro g wx hb
            refine Rgi.from_nil fun T hT => ?_
            obtain ⟨p0, p1, p2, p3, p4, p5, p6, p7, p8, p9, p10, p11⟩ := par_cells (HP3.out.below (BoxB.b hb))
            go_wp2
            exact hT _ _ rfl hb (by first | rfl | exact congrArg _ (by decide))
          refine Rgi.op_is (pval pEx) [] rfl rfl (by kernel_rfl) ?_ ?_
          · intro g wx hb
            refine Rgi.from_nil fun T hT => ?_
            obtain ⟨p0, p1, p2, p3, p4, p5, p6, p7, p8, p9, p10, p11⟩ := par_cells (HP3.out.below (BoxB.b hb))
            go_wp2
            exact hT _ _ rfl hb (by first | rfl | exact congrArg _ (by decide))
          refine Rgi.op_is (pval pEx) [] rfl rfl (by kernel_rfl) ?_ ?_
          · intro g wx hb
            refine Rgi.from_nil fun T hT => ?_
            obtain ⟨p0, p1, p2, p3, p4, p5, p6, p7, p8, p9, p10, p11⟩ := par_cells (HP3.out.below (BoxB.b hb))
            go_wp2
            exact hT _ _ rfl hb (by first | rfl | exact congrArg _ (by decide))
          refine Rgi.op_is (pval pEx) [] rfl rfl (by kernel_rfl) ?_ ?_
          · intro g wx hb
            refine Rgi.from_nil fun T hT => ?_
            obtain ⟨p0, p1, p2, p3, p4, p5, p6, p7, p8, p9, p10, p11⟩ := par_cells (HP3.out.below (BoxB.b hb))
            go_wp2
            exact hT _ _ rfl hb (by first | rfl | exact congrArg _ (by decide))
          refine Rgi.op_sp [] rfl rfl (by kernel_rfl) ?_ ?_
          · intro g wx hb hg
            refine Rgi.from_nil fun T hT => ?_
            go_wp2
            exact hT _ _ rfl (BoxB.new hb (j := 4) (by decide) hg)
          refine Rgi.op_sp [] rfl rfl (by kernel_rfl) ?_ ?_
          · intro g wx hb hg
            refine Rgi.from_nil fun T hT => ?_
            go_wp2
            exact hT _ _ rfl (BoxB.new hb (j := 5) (by decide) hg)
          refine Rgi.op_sp [] rfl rfl (by kernel_rfl) ?_ ?_
          · intro g wx hb hg
            refine Rgi.from_nil fun T hT => ?_
            go_wp2
            exact hT _ _ rfl (BoxB.new hb (j := 6) (by decide) hg)
          refine Rgi.op_sp [] rfl rfl (by kernel_rfl) ?_ ?_
          · intro g wx hb hg
            refine Rgi.from_nil fun T hT => ?_
            go_wp2
            exact hT _ _ rfl (BoxB.new hb (j := 7) (by decide) hg)
          refine Rgi.op_sp [0, 4] rfl rfl (by kernel_rfl) ?_ ?_
          · intro g wx hb hg
            refine Rgi.from_is (some 138) rfl rfl ?_
            refine Rgi.from_sp (some 9) rfl rfl rfl fun v9 h9 => ?_
            refine Rgi.from_nil fun T hT => ?_
            obtain ⟨a, rfl, ha, hr⟩ := BoxB.box hb 4 (by decide) v9 h9 hg
            obtain ⟨z0, z1, z2, z3, z4, z5, z6, z7, z8, z9, z10, z11⟩ := par_cells hr
            obtain ⟨f0, f1, f2, f3, f4, f5, f6, f7, f8, f9, f10, f11⟩ := par_frozen hr
            go_wp2
            exact hT _ _ rfl (BoxB.laid hb (j := 4) (by decide) h9 ha hr)
          refine Rgi.op_sp [1, 5] rfl rfl (by kernel_rfl) ?_ ?_
          · intro g wx hb hg
            refine Rgi.from_is (some 139) rfl rfl ?_
            refine Rgi.from_sp (some 10) rfl rfl rfl fun v10 h10 => ?_
            refine Rgi.from_nil fun T hT => ?_
            obtain ⟨a, rfl, ha, hr⟩ := BoxB.box hb 5 (by decide) v10 h10 hg
            obtain ⟨z0, z1, z2, z3, z4, z5, z6, z7, z8, z9, z10, z11⟩ := par_cells hr
            obtain ⟨f0, f1, f2, f3, f4, f5, f6, f7, f8, f9, f10, f11⟩ := par_frozen hr
            go_wp2
            exact hT _ _ rfl (BoxB.laid hb (j := 5) (by decide) h10 ha hr)
          refine Rgi.op_sp [2, 6] rfl rfl (by kernel_rfl) ?_ ?_
          · intro g wx hb hg
            refine Rgi.from_is (some 140) rfl rfl ?_
            refine Rgi.from_sp (some 11) rfl rfl rfl fun v11 h11 => ?_
            refine Rgi.from_nil fun T hT => ?_
            obtain ⟨a, rfl, ha, hr⟩ := BoxB.box hb 6 (by decide) v11 h11 hg
            obtain ⟨z0, z1, z2, z3, z4, z5, z6, z7, z8, z9, z10, z11⟩ := par_cells hr
            obtain ⟨f0, f1, f2, f3, f4, f5, f6, f7, f8, f9, f10, f11⟩ := par_frozen hr
            go_wp2
            exact hT _ _ rfl (BoxB.laid hb (j := 6) (by decide) h11 ha hr)
          refine Rgi.walk_nil [0, 1, 2, 3, 4, 5, 6, 7, 8, 9, 10] (by kernel_rfl) ?_
          intro g wx hb
          refine Rgi.from_is (some 138) rfl rfl ?_
          refine Rgi.from_is (some 139) rfl rfl ?_
          refine Rgi.from_is (some 140) rfl rfl ?_
          refine Rgi.from_is (some 141) rfl rfl ?_
          refine Rgi.from_sp (some 9) rfl rfl rfl fun v9 h9 => ?_
          refine Rgi.from_sp (some 10) rfl rfl rfl fun v10 h10 => ?_
          refine Rgi.from_sp (some 11) rfl rfl rfl fun v11 h11 => ?_
          refine Rgi.from_sp (some 12) rfl rfl rfl fun v12 h12 => ?_
          refine Rgi.from_sp (none) rfl rfl rfl fun vx8 hx8 => ?_
          refine Rgi.from_sp (none) rfl rfl rfl fun vx9 hx9 => ?_
          refine Rgi.from_sp (none) rfl rfl rfl fun vx10 hx10 => ?_
          refine Rgi.from_nil ?_
          simp only [List.map, Act.put, List.setIfInBounds_toArray, List.set_cons_zero, List.set_cons_succ]
          obtain ⟨a4, rfl, ha4, hr4⟩ := BoxB.full hb 4 (by decide) _ _ h9 hx8
          obtain ⟨a5, rfl, ha5, hr5⟩ := BoxB.full hb 5 (by decide) _ _ h10 hx9
          obtain ⟨a6, rfl, ha6, hr6⟩ := BoxB.full hb 6 (by decide) _ _ h11 hx10
          obtain ⟨a7, rfl, ha7, hr7⟩ := BoxB.box hb 7 (by decide) _ h12 (BoxB.last hb)
          have n45 := BoxB.ne hb 4 5 (by decide) _ _ h9 h10
          have n46 := BoxB.ne hb 4 6 (by decide) _ _ h9 h11
          have n47 := BoxB.ne hb 4 7 (by decide) _ _ h9 h12
          have n56 := BoxB.ne hb 5 6 (by decide) _ _ h10 h11
          have n57 := BoxB.ne hb 5 7 (by decide) _ _ h10 h12
          have n67 := BoxB.ne hb 6 7 (by decide) _ _ h11 h12
          have hbq := parLaid_below (p := pEx) (BoxB.b hb) ha7
          have q4 := parLaid_far (p := pEx) hr4 (Ne.symm n47)
          have q5 := parLaid_far (p := pEx) hr5 (Ne.symm n57)
          have q6 := parLaid_far (p := pEx) hr6 (Ne.symm n67)
          have q7 := parLaid_row (p := pEx) hr7
          have HQ := hid (And.intro hbq (And.intro q4 (And.intro q5 (And.intro q6 q7))))
          obtain ⟨z0, z1, z2, z3, z4, z5, z6, z7, z8, z9, z10, z11⟩ := par_cells hr7
          obtain ⟨f0, f1, f2, f3, f4, f5, f6, f7, f8, f9, f10, f11⟩ := par_frozen hr7
          clear hbq q4 q5 q6 q7 hr4 hr5 hr6 hr7 hb h9 h10 h11 h12 hx8 hx9 hx10
          have HNE := hid (And.intro n45 (And.intro n46 (And.intro n47 (And.intro n56 (And.intro n57 n67)))))
          clear n45 n46 n47 n56 n57 n67
          go_upto_region 17 with (fail)
          obtain ⟨w17, hw17⟩ : ∃ w17, parLaid wx a7 pEx = w17 := ⟨_, rfl⟩
          rw [hw17] at HQ
          unfold parLaid at hw17
          rw [hw17]
          clear hw17 z0 z1 z2 z3 z4 z5 z6 z7 z8 z9 z10 z11 f0 f1 f2 f3 f4 f5 f6 f7 f8 f9 f10 f11
          obtain ⟨n45, n46, n47, n56, n57, n67⟩ := HNE.out
          obtain ⟨hbq, q4, q5, q6, q7⟩ := HQ.out
          have k4 := q4.cell (k := 8) rfl
          have k5 := q5.cell (k := 1) rfl
          have k6 := q6.cell (k := 9) rfl
          have k7 := q7.cell (k := 9) rfl
          have r4 := q4.frozen 8
          have r5 := q5.frozen 1
          have r6 := q6.frozen 9
          have r7 := q7.frozen 9
          have s4 : Row1 ((((w17.setCell ⟨a4, 8, none⟩ (.int .i64 5)).setCell ⟨a5, 1, none⟩ (.int .u64 9)).setCell ⟨a6, 9, none⟩ (.int .i64 0)).setCell ⟨a7, 9, none⟩ (.int .i64 (-1))) a4 34 (pcells pBad) :=
            (((q4.set 8 (.int .i64 5)).far (p := ⟨a5, 1, none⟩) (Ne.symm n45) _).far (p := ⟨a6, 9, none⟩) (Ne.symm n46) _).far (p := ⟨a7, 9, none⟩) (Ne.symm n47) _
          have s5 : Row1 ((((w17.setCell ⟨a4, 8, none⟩ (.int .i64 5)).setCell ⟨a5, 1, none⟩ (.int .u64 9)).setCell ⟨a6, 9, none⟩ (.int .i64 0)).setCell ⟨a7, 9, none⟩ (.int .i64 (-1))) a5 34 (pcells pOdd) :=
            (((q5.far (p := ⟨a4, 8, none⟩) n45 _).set 1 (.int .u64 9)).far (p := ⟨a6, 9, none⟩) (Ne.symm n56) _).far (p := ⟨a7, 9, none⟩) (Ne.symm n57) _
          have s6 : Row1 ((((w17.setCell ⟨a4, 8, none⟩ (.int .i64 5)).setCell ⟨a5, 1, none⟩ (.int .u64 9)).setCell ⟨a6, 9, none⟩ (.int .i64 0)).setCell ⟨a7, 9, none⟩ (.int .i64 (-1))) a6 34 (pcells pZero) :=
            (((q6.far (p := ⟨a4, 8, none⟩) n46 _).far (p := ⟨a5, 1, none⟩) n56 _).set 9 (.int .i64 0)).far (p := ⟨a7, 9, none⟩) (Ne.symm n67) _
          have s7 : Row1 ((((w17.setCell ⟨a4, 8, none⟩ (.int .i64 5)).setCell ⟨a5, 1, none⟩ (.int .u64 9)).setCell ⟨a6, 9, none⟩ (.int .i64 0)).setCell ⟨a7, 9, none⟩ (.int .i64 (-1))) a7 34 (pcells pLess) :=
            (((q7.far (p := ⟨a4, 8, none⟩) n47 _).far (p := ⟨a5, 1, none⟩) n57 _).far (p := ⟨a6, 9, none⟩) n67 _).set 9 (.int .i64 (-1))
          have sB : Below wq.heap.size wq ((((w17.setCell ⟨a4, 8, none⟩ (.int .i64 5)).setCell ⟨a5, 1, none⟩ (.int .u64 9)).setCell ⟨a6, 9, none⟩ (.int .i64 0)).setCell ⟨a7, 9, none⟩ (.int .i64 (-1))) :=
            (((hbq.setCell (p := ⟨a4, 8, none⟩) ha4 _).setCell (p := ⟨a5, 1, none⟩) ha5 _).setCell (p := ⟨a6, 9, none⟩) ha6 _).setCell (p := ⟨a7, 9, none⟩) ha7 _
          have HS := hid (And.intro sB (And.intro s4 (And.intro s5 (And.intro s6 s7))))
          clear s4 s5 s6 s7 sB q4 q5 q6 q7 hbq HQ HNE
          go_upto_region 18 with (fail)
          generalize (((w17.setCell ⟨a4, 8, none⟩ (.int .i64 5)).setCell ⟨a5, 1, none⟩ (.int .u64 9)).setCell ⟨a6, 9, none⟩ (.int .i64 0)).setCell ⟨a7, 9, none⟩ (.int .i64 (-1)) = w18 at *
          clear k4 k5 k6 k7 r4 r5 r6 r7 n45 n46 n47 n56 n57 n67
          obtain ⟨hB18, s4, s5, s6, s7⟩ := HS.out
          have hP := HP3.out.below hB18
          have hG := HG3.out.below hB18
          have hTab := HT3.out.below hB18
          have hA8 := HA3.out.below hB18
          have hA7 : Asks w18 A8 (manyL 7) := hA8.take 7
          have HBZ := hid (below_next HB3.out HB3.out.size hB18)
          have hcg : w18.cell? ⟨gT, 1, none⟩ = some (.slice (some ⟨g1, 0, none⟩) 2 2) := hG.1.cell (k := 1) rfl
          clear HS HP3 HG3 HT3 HA3 HB3 hB18
          refine Rgi.wp_region (l := [_, _, _, _, _, _, _, _, _, _, _, _, _, _, _, _, _, _, _, _, _, _, _, _, _, _, _, _, _, _, _, _, _, _, _, _, _, _, _, _, _, _, _, _, _, _, _, _, _, _, _, _, _, _, _, _, _, _, _, _, _, _, _, _, _, _, _]) (tail := [_]) (⟨LitsB w18 madeA, [2, 8, 16, 22, 51, 57, 63]⟩) [some 146, some 147, some 148, some 149, some 150, some 151, some 152, some 153, some 154, some 155, some 156, some 157, some 158, some 159, some 160, some 161, some 162, some 163, some 164, some 165, some 166, some 167, some 168, some 169, some 170, some 171, some 172, some 173, some 174, some 175, some 176, some 177, some 178, some 179, some 180, some 181, some 182, some 183, some 184, some 185, some 186, some 187, some 188, some 189, some 190, some 191, some 192, some 193, some 194, some 195, some 196, some 197, some 198, some 199, some 200, some 201, some 202, some 203, some 204, some 205, some 206, some 207, some 208, some 209, some 210, some 211, some 212, some 0] 213 rfl (by kernel_rfl) (by kernel_rfl) rfl (LitsB.start _ _) ?_
          refine Rgi.op_is (pval pEx) [] rfl rfl (by kernel_rfl) ?_ ?_
          · intro g wx hb
            refine Rgi.from_nil fun T hT => ?_
            obtain ⟨p0, p1, p2, p3, p4, p5, p6, p7, p8, p9, p10, p11⟩ := par_cells (hP.below (LitsB.b hb))
            go_wp2
            exact hT _ _ rfl hb (by first | rfl | exact congrArg _ (by decide))
          refine Rgi.op_is (.slice A8 8 c8) [] rfl rfl (by kernel_rfl) ?_ ?_
          · intro g wx hb
            refine Rgi.from_nil fun T hT => ?_
            go_wp2
            exact hT _ _ rfl hb (by first | rfl | exact congrArg _ (by decide))
          refine Rgi.op_sp [] rfl rfl (by kernel_rfl) ?_ ?_
          · intro g wx hb hg
            refine Rgi.from_nil fun T hT => ?_
            go_wp2
            exact hT _ _ rfl (LitsB.new hb (j := 2) rfl)
          refine Rgi.op_is (.int .i64 41) [0, 1, 2] rfl rfl (by kernel_rfl) ?_ ?_
          · intro g wx hb
            refine Rgi.from_is (some 146) rfl rfl ?_
            refine Rgi.from_is (some 147) rfl rfl ?_
            refine Rgi.from_sp (some 148) rfl rfl rfl fun v148 h148 => ?_
            refine Rgi.from_nil fun T hT => ?_
            obtain ⟨a, rfl, r, _⟩ := LitsB.row hb 2 _ _ rfl _ h148
            go_wp2_with (fail)
            refine (aquery_c pEx pEx_ok A8 (manyL 8) c8 9 (some ⟨a, 0, none⟩) [1, 0] 2 _ (hA8.below (LitsB.b hb)) ok8 r.cells (by decide) (i64s_of (by decide)) (hTab.below (LitsB.b hb))).mono ?_
            rintro e w4 ⟨rfl, hw2⟩
            rw [an_1]
            go_wp2
            exact hT _ _ rfl (LitsB.keep hb hw2) rfl
          refine Rgi.op_is (.bool true) [3] rfl rfl (by kernel_rfl) ?_ ?_
          · intro g wx hb
            refine Rgi.from_is (some 149) rfl rfl ?_
            refine Rgi.from_nil fun T hT => ?_
            go_wp2
            exact hT _ _ rfl hb (by first | rfl | exact congrArg _ (by decide))
          refine Rgi.op_is (.bool true) [4] rfl rfl (by kernel_rfl) ?_ ?_
          · intro g wx hb
            refine Rgi.from_is (some 150) rfl rfl ?_
            refine Rgi.from_nil fun T hT => ?_
            go_wp2
            exact hT _ _ rfl hb (by first | rfl | exact congrArg _ (by decide))
          refine Rgi.op_is (pval pEx) [] rfl rfl (by kernel_rfl) ?_ ?_
          · intro g wx hb
            refine Rgi.from_nil fun T hT => ?_
            obtain ⟨p0, p1, p2, p3, p4, p5, p6, p7, p8, p9, p10, p11⟩ := par_cells (hP.below (LitsB.b hb))
            go_wp2
            exact hT _ _ rfl hb (by first | rfl | exact congrArg _ (by decide))
          refine Rgi.op_is (.slice A8 8 c8) [] rfl rfl (by kernel_rfl) ?_ ?_
          · intro g wx hb
            refine Rgi.from_nil fun T hT => ?_
            go_wp2
            exact hT _ _ rfl hb (by first | rfl | exact congrArg _ (by decide))
          refine Rgi.op_sp [] rfl rfl (by kernel_rfl) ?_ ?_
          · intro g wx hb hg
            refine Rgi.from_nil fun T hT => ?_
            go_wp2
            exact hT _ _ rfl (LitsB.new hb (j := 8) rfl)
          refine Rgi.op_is (.int .i64 6) [6, 7, 8] rfl rfl (by kernel_rfl) ?_ ?_
          · intro g wx hb
            refine Rgi.from_is (some 152) rfl rfl ?_
            refine Rgi.from_is (some 153) rfl rfl ?_
            refine Rgi.from_sp (some 154) rfl rfl rfl fun v154 h154 => ?_
            refine Rgi.from_nil fun T hT => ?_
            obtain ⟨a, rfl, r, _⟩ := LitsB.row hb 8 _ _ rfl _ h154
            go_wp2_with (fail)
            refine (aquery_c pEx pEx_ok A8 (manyL 8) c8 8 (some ⟨a, 0, none⟩) [1, 0] 2 _ (hA8.below (LitsB.b hb)) ok8 r.cells (by decide) (i64s_of (by decide)) (hTab.below (LitsB.b hb))).mono ?_
            rintro e w4 ⟨rfl, hw2⟩
            rw [an_2]
            go_wp2
            exact hT _ _ rfl (LitsB.keep hb hw2) rfl
          refine Rgi.op_is (.bool true) [9] rfl rfl (by kernel_rfl) ?_ ?_
          · intro g wx hb
            refine Rgi.from_is (some 155) rfl rfl ?_
            refine Rgi.from_nil fun T hT => ?_
            go_wp2
            exact hT _ _ rfl hb (by first | rfl | exact congrArg _ (by decide))
          refine Rgi.op_is (.bool true) [5, 10] rfl rfl (by kernel_rfl) ?_ ?_
          · intro g wx hb
            refine Rgi.from_is (some 151) rfl rfl ?_
            refine Rgi.from_is (some 156) rfl rfl ?_
            refine Rgi.from_nil fun T hT => ?_
            go_wp2
            exact hT _ _ rfl hb (by first | rfl | exact congrArg _ (by decide))
          refine Rgi.op_is (.bool true) [11] rfl rfl (by kernel_rfl) ?_ ?_
          · intro g wx hb
            refine Rgi.from_is (some 157) rfl rfl ?_
            refine Rgi.from_nil fun T hT => ?_
            go_wp2
            exact hT _ _ rfl hb (by first | rfl | exact congrArg _ (by decide))
          refine Rgi.op_is (pval pEx) [] rfl rfl (by kernel_rfl) ?_ ?_
          · intro g wx hb
            refine Rgi.from_nil fun T hT => ?_
            obtain ⟨p0, p1, p2, p3, p4, p5, p6, p7, p8, p9, p10, p11⟩ := par_cells (hP.below (LitsB.b hb))
            go_wp2
            exact hT _ _ rfl hb (by first | rfl | exact congrArg _ (by decide))
          refine Rgi.op_is (.slice A8 8 c8) [] rfl rfl (by kernel_rfl) ?_ ?_
          · intro g wx hb
            refine Rgi.from_nil fun T hT => ?_
            go_wp2
            exact hT _ _ rfl hb (by first | rfl | exact congrArg _ (by decide))
          refine Rgi.op_is (.slice A8 7 c8) [14] rfl rfl (by kernel_rfl) ?_ ?_
          · intro g wx hb
            refine Rgi.from_is (some 160) rfl rfl ?_
            refine Rgi.from_nil fun T hT => ?_
            go_wp2
            exact hT _ _ rfl hb (by first | rfl | exact congrArg _ (by decide))
          refine Rgi.op_sp [] rfl rfl (by kernel_rfl) ?_ ?_
          · intro g wx hb hg
            refine Rgi.from_nil fun T hT => ?_
            go_wp2
            exact hT _ _ rfl (LitsB.new hb (j := 16) rfl)
          refine Rgi.op_is (.int .i64 0) [13, 15, 16] rfl rfl (by kernel_rfl) ?_ ?_
          · intro g wx hb
            refine Rgi.from_is (some 159) rfl rfl ?_
            refine Rgi.from_is (some 161) rfl rfl ?_
            refine Rgi.from_sp (some 162) rfl rfl rfl fun v162 h162 => ?_
            refine Rgi.from_nil fun T hT => ?_
            obtain ⟨a, rfl, r, _⟩ := LitsB.row hb 16 _ _ rfl _ h162
            go_wp2_with (fail)
            refine (aquery_c pEx pEx_ok A8 (manyL 7) c8 8 (some ⟨a, 0, none⟩) [1, 0] 2 _ (hA7.below (LitsB.b hb)) ok7 r.cells (by decide) (i64s_of (by decide)) (hTab.below (LitsB.b hb))).mono ?_
            rintro e w4 ⟨rfl, hw2⟩
            rw [an_3]
            go_wp2
            exact hT _ _ rfl (LitsB.keep hb hw2) rfl
          refine Rgi.op_is (.bool true) [17] rfl rfl (by kernel_rfl) ?_ ?_
          · intro g wx hb
            refine Rgi.from_is (some 163) rfl rfl ?_
            refine Rgi.from_nil fun T hT => ?_
            go_wp2
            exact hT _ _ rfl hb (by first | rfl | exact congrArg _ (by decide))
          refine Rgi.op_is (.bool true) [12, 18] rfl rfl (by kernel_rfl) ?_ ?_
          · intro g wx hb
            refine Rgi.from_is (some 158) rfl rfl ?_
            refine Rgi.from_is (some 164) rfl rfl ?_
            refine Rgi.from_nil fun T hT => ?_
            go_wp2
            exact hT _ _ rfl hb (by first | rfl | exact congrArg _ (by decide))
          refine Rgi.op_is (.bool true) [19] rfl rfl (by kernel_rfl) ?_ ?_
          · intro g wx hb
            refine Rgi.from_is (some 165) rfl rfl ?_
            refine Rgi.from_nil fun T hT => ?_
            go_wp2
            exact hT _ _ rfl hb (by first | rfl | exact congrArg _ (by decide))
          refine Rgi.op_is (pval pBad) [] rfl rfl (by kernel_rfl) ?_ ?_
          · intro g wx hb
            refine Rgi.from_nil fun T hT => ?_
            obtain ⟨p0, p1, p2, p3, p4, p5, p6, p7, p8, p9, p10, p11⟩ := par_cells (s4.below (LitsB.b hb))
            go_wp2
            exact hT _ _ rfl hb (by first | rfl | exact congrArg _ (by decide))
          refine Rgi.op_sp [] rfl rfl (by kernel_rfl) ?_ ?_
          · intro g wx hb hg
            refine Rgi.from_nil fun T hT => ?_
            go_wp2
            exact hT _ _ rfl (LitsB.new hb (j := 22) rfl)
          refine Rgi.op_is (.int .i64 4) [21, 22] rfl rfl (by kernel_rfl) ?_ ?_
          · intro g wx hb
            refine Rgi.from_is (some 167) rfl rfl ?_
            refine Rgi.from_sp (some 168) rfl rfl rfl fun v168 h168 => ?_
            refine Rgi.from_nil fun T hT => ?_
            obtain ⟨a, rfl, r, _⟩ := LitsB.row hb 22 _ _ rfl _ h168
            go_wp2_with (fail)
            refine (aquery_c pBad pBad_ok none ([]) 0 1 (some ⟨a, 0, none⟩) [1, 0, 0, 0, 0] 5 _ (asks_none _) (askOk_of (by decide)) r.cells (by decide) (i64s_of (by decide)) (hTab.below (LitsB.b hb))).mono ?_
            rintro e w4 ⟨rfl, hw2⟩
            rw [an_4]
            go_wp2
            exact hT _ _ rfl (LitsB.keep hb hw2) rfl
          refine Rgi.op_is (.bool true) [23] rfl rfl (by kernel_rfl) ?_ ?_
          · intro g wx hb
            refine Rgi.from_is (some 169) rfl rfl ?_
            refine Rgi.from_nil fun T hT => ?_
            go_wp2
            exact hT _ _ rfl hb (by first | rfl | exact congrArg _ (by decide))
          refine Rgi.op_is (.bool true) [20, 24] rfl rfl (by kernel_rfl) ?_ ?_
          · intro g wx hb
            refine Rgi.from_is (some 166) rfl rfl ?_
            refine Rgi.from_is (some 170) rfl rfl ?_
            refine Rgi.from_nil fun T hT => ?_
            go_wp2
            exact hT _ _ rfl hb (by first | rfl | exact congrArg _ (by decide))
          refine Rgi.op_is (.bool true) [25] rfl rfl (by kernel_rfl) ?_ ?_
          · intro g wx hb
            refine Rgi.from_is (some 171) rfl rfl ?_
            refine Rgi.from_nil fun T hT => ?_
            go_wp2
            exact hT _ _ rfl hb (by first | rfl | exact congrArg _ (by decide))
          refine Rgi.op_is (pval pBad) [] rfl rfl (by kernel_rfl) ?_ ?_
          · intro g wx hb
            refine Rgi.from_nil fun T hT => ?_
            obtain ⟨p0, p1, p2, p3, p4, p5, p6, p7, p8, p9, p10, p11⟩ := par_cells (s4.below (LitsB.b hb))
            go_wp2
            exact hT _ _ rfl hb (by first | rfl | exact congrArg _ (by decide))
          refine Rgi.op_is (.slice (some ⟨gT, 0, none⟩) 2 2) [] rfl rfl (by kernel_rfl) ?_ ?_
          · intro g wx hb
            refine Rgi.from_nil fun T hT => ?_
            go_wp2
            exact hT _ _ rfl hb (by first | rfl | exact congrArg _ (by decide))
          refine Rgi.op_is (.int .i64 0) [27, 28] rfl rfl (by kernel_rfl) ?_ ?_
          · intro g wx hb
            refine Rgi.from_is (some 173) rfl rfl ?_
            refine Rgi.from_is (some 174) rfl rfl ?_
            refine Rgi.from_nil fun T hT => ?_
            go_wp2_with (fail)
            refine (arank_c pBad pBad_ok (some ⟨gT, 0, none⟩) twoL 2 _ ((hG.below (LitsB.b hb)).asks) (askOk_of (by decide)) (hTab.below (LitsB.b hb))).mono ?_
            rintro e w4 ⟨rfl, hw2⟩
            rw [an_5]
            go_wp2
            exact hT _ _ rfl (LitsB.keep hb hw2) rfl
          refine Rgi.op_is (.bool true) [29] rfl rfl (by kernel_rfl) ?_ ?_
          · intro g wx hb
            refine Rgi.from_is (some 175) rfl rfl ?_
            refine Rgi.from_nil fun T hT => ?_
            go_wp2
            exact hT _ _ rfl hb (by first | rfl | exact congrArg _ (by decide))
          refine Rgi.op_is (.bool true) [26, 30] rfl rfl (by kernel_rfl) ?_ ?_
          · intro g wx hb
            refine Rgi.from_is (some 172) rfl rfl ?_
            refine Rgi.from_is (some 176) rfl rfl ?_
            refine Rgi.from_nil fun T hT => ?_
            go_wp2
            exact hT _ _ rfl hb (by first | rfl | exact congrArg _ (by decide))
          refine Rgi.op_is (.bool true) [31] rfl rfl (by kernel_rfl) ?_ ?_
          · intro g wx hb
            refine Rgi.from_is (some 177) rfl rfl ?_
            refine Rgi.from_nil fun T hT => ?_
            go_wp2
            exact hT _ _ rfl hb (by first | rfl | exact congrArg _ (by decide))
          refine Rgi.op_is (pval pOdd) [] rfl rfl (by kernel_rfl) ?_ ?_
          · intro g wx hb
            refine Rgi.from_nil fun T hT => ?_
            obtain ⟨p0, p1, p2, p3, p4, p5, p6, p7, p8, p9, p10, p11⟩ := par_cells (s5.below (LitsB.b hb))
            go_wp2
            exact hT _ _ rfl hb (by first | rfl | exact congrArg _ (by decide))
          refine Rgi.op_is (.slice (some ⟨gT, 0, none⟩) 2 2) [] rfl rfl (by kernel_rfl) ?_ ?_
          · intro g wx hb
            refine Rgi.from_nil fun T hT => ?_
            go_wp2
            exact hT _ _ rfl hb (by first | rfl | exact congrArg _ (by decide))
          refine Rgi.op_is (.int .i64 0) [33, 34] rfl rfl (by kernel_rfl) ?_ ?_
          · intro g wx hb
            refine Rgi.from_is (some 179) rfl rfl ?_
            refine Rgi.from_is (some 180) rfl rfl ?_
            refine Rgi.from_nil fun T hT => ?_
            go_wp2_with (fail)
            refine (arank_c pOdd pOdd_ok (some ⟨gT, 0, none⟩) twoL 2 _ ((hG.below (LitsB.b hb)).asks) (askOk_of (by decide)) (hTab.below (LitsB.b hb))).mono ?_
            rintro e w4 ⟨rfl, hw2⟩
            rw [an_6]
            go_wp2
            exact hT _ _ rfl (LitsB.keep hb hw2) rfl
          refine Rgi.op_is (.bool true) [35] rfl rfl (by kernel_rfl) ?_ ?_
          · intro g wx hb
            refine Rgi.from_is (some 181) rfl rfl ?_
            refine Rgi.from_nil fun T hT => ?_
            go_wp2
            exact hT _ _ rfl hb (by first | rfl | exact congrArg _ (by decide))
          refine Rgi.op_is (.bool true) [32, 36] rfl rfl (by kernel_rfl) ?_ ?_
          · intro g wx hb
            refine Rgi.from_is (some 178) rfl rfl ?_
            refine Rgi.from_is (some 182) rfl rfl ?_
            refine Rgi.from_nil fun T hT => ?_
            go_wp2
            exact hT _ _ rfl hb (by first | rfl | exact congrArg _ (by decide))
          refine Rgi.op_is (.bool true) [37] rfl rfl (by kernel_rfl) ?_ ?_
          · intro g wx hb
            refine Rgi.from_is (some 183) rfl rfl ?_
            refine Rgi.from_nil fun T hT => ?_
            go_wp2
            exact hT _ _ rfl hb (by first | rfl | exact congrArg _ (by decide))
          refine Rgi.op_is (pval pOdd) [] rfl rfl (by kernel_rfl) ?_ ?_
          · intro g wx hb
            refine Rgi.from_nil fun T hT => ?_
            obtain ⟨p0, p1, p2, p3, p4, p5, p6, p7, p8, p9, p10, p11⟩ := par_cells (s5.below (LitsB.b hb))
            go_wp2
            exact hT _ _ rfl hb (by first | rfl | exact congrArg _ (by decide))
          refine Rgi.op_is (.slice (some ⟨gT, 0, none⟩) 2 2) [] rfl rfl (by kernel_rfl) ?_ ?_
          · intro g wx hb
            refine Rgi.from_nil fun T hT => ?_
            go_wp2
            exact hT _ _ rfl hb (by first | rfl | exact congrArg _ (by decide))
          refine Rgi.op_is (.slice (some ⟨gT, 0, none⟩) 2 2) [] rfl rfl (by kernel_rfl) ?_ ?_
          · intro g wx hb
            refine Rgi.from_nil fun T hT => ?_
            go_wp2
            exact hT _ _ rfl hb (by first | rfl | exact congrArg _ (by decide))
          refine Rgi.op_is (.pointer (some ⟨gT, 0, none⟩)) [41] rfl rfl (by kernel_rfl) ?_ ?_
          · intro g wx hb
            refine Rgi.from_is (some 187) rfl rfl ?_
            refine Rgi.from_nil fun T hT => ?_
            go_wp2
            exact hT _ _ rfl hb (by first | rfl | exact congrArg _ (by decide))
          refine Rgi.op_is (.pointer (some ⟨gT, 1, none⟩)) [42] rfl rfl (by kernel_rfl) ?_ ?_
          · intro g wx hb
            refine Rgi.from_is (some 188) rfl rfl ?_
            refine Rgi.from_nil fun T hT => ?_
            go_wp2
            exact hT _ _ rfl hb (by first | rfl | exact congrArg _ (by decide))
          refine Rgi.op_is (.slice (some ⟨g1, 0, none⟩) 2 2) [43] rfl rfl (by kernel_rfl) ?_ ?_
          · intro g wx hb
            refine Rgi.from_is (some 189) rfl rfl ?_
            refine Rgi.from_nil fun T hT => ?_
            have c1 := ((LitsB.b hb).cell (lt_of_cell hcg)).trans hcg
            go_wp2
            exact hT _ _ rfl hb (by first | rfl | exact congrArg _ (by decide))
          refine Rgi.op_is (.bool false) [39, 40, 44] rfl rfl (by kernel_rfl) ?_ ?_
          · intro g wx hb
            refine Rgi.from_is (some 185) rfl rfl ?_
            refine Rgi.from_is (some 186) rfl rfl ?_
            refine Rgi.from_is (some 190) rfl rfl ?_
            refine Rgi.from_nil fun T hT => ?_
            go_wp2_with (fail)
            refine (afollows_c pOdd pOdd_ok (some ⟨gT, 0, none⟩) twoL 2 (some ⟨g1, 0, none⟩) [1, 0] 2 _ ((hG.below (LitsB.b hb)).asks) (askOk_of (by decide)) ((hG.below (LitsB.b hb)).2.1.cells) (by decide) (i64s_of (by decide)) (hTab.below (LitsB.b hb))).mono ?_
            rintro e w4 ⟨rfl, hw2⟩
            rw [an_7]
            go_wp2
            exact hT _ _ rfl (LitsB.keep hb hw2) rfl
          refine Rgi.op_is (.bool true) [45] rfl rfl (by kernel_rfl) ?_ ?_
          · intro g wx hb
            refine Rgi.from_is (some 191) rfl rfl ?_
            refine Rgi.from_nil fun T hT => ?_
            go_wp2
            exact hT _ _ rfl hb (by first | rfl | exact congrArg _ (by decide))
          refine Rgi.op_is (.bool true) [38, 46] rfl rfl (by kernel_rfl) ?_ ?_
          · intro g wx hb
            refine Rgi.from_is (some 184) rfl rfl ?_
            refine Rgi.from_is (some 192) rfl rfl ?_
            refine Rgi.from_nil fun T hT => ?_
            go_wp2
            exact hT _ _ rfl hb (by first | rfl | exact congrArg _ (by decide))
          refine Rgi.op_is (.bool true) [47] rfl rfl (by kernel_rfl) ?_ ?_
          · intro g wx hb
            refine Rgi.from_is (some 193) rfl rfl ?_
            refine Rgi.from_nil fun T hT => ?_
            go_wp2
            exact hT _ _ rfl hb (by first | rfl | exact congrArg _ (by decide))
          refine Rgi.op_is (pval pOdd) [] rfl rfl (by kernel_rfl) ?_ ?_
          · intro g wx hb
            refine Rgi.from_nil fun T hT => ?_
            obtain ⟨p0, p1, p2, p3, p4, p5, p6, p7, p8, p9, p10, p11⟩ := par_cells (s5.below (LitsB.b hb))
            go_wp2
            exact hT _ _ rfl hb (by first | rfl | exact congrArg _ (by decide))
          refine Rgi.op_is (.slice (some ⟨gT, 0, none⟩) 2 2) [] rfl rfl (by kernel_rfl) ?_ ?_
          · intro g wx hb
            refine Rgi.from_nil fun T hT => ?_
            go_wp2
            exact hT _ _ rfl hb (by first | rfl | exact congrArg _ (by decide))
          refine Rgi.op_sp [] rfl rfl (by kernel_rfl) ?_ ?_
          · intro g wx hb hg
            refine Rgi.from_nil fun T hT => ?_
            go_wp2
            exact hT _ _ rfl (LitsB.new hb (j := 51) rfl)
          refine Rgi.op_is (.int .i64 0) [49, 50, 51] rfl rfl (by kernel_rfl) ?_ ?_
          · intro g wx hb
            refine Rgi.from_is (some 195) rfl rfl ?_
            refine Rgi.from_is (some 196) rfl rfl ?_
            refine Rgi.from_sp (some 197) rfl rfl rfl fun v197 h197 => ?_
            refine Rgi.from_nil fun T hT => ?_
            obtain ⟨a, rfl, r, _⟩ := LitsB.row hb 51 _ _ rfl _ h197
            go_wp2_with (fail)
            refine (aquery_c pOdd pOdd_ok (some ⟨gT, 0, none⟩) (twoL) 2 3 (some ⟨a, 0, none⟩) [1, 1] 2 _ ((hG.below (LitsB.b hb)).asks) (askOk_of (by decide)) r.cells (by decide) (i64s_of (by decide)) (hTab.below (LitsB.b hb))).mono ?_
            rintro e w4 ⟨rfl, hw2⟩
            rw [an_8]
            go_wp2
            exact hT _ _ rfl (LitsB.keep hb hw2) rfl
          refine Rgi.op_is (.bool true) [52] rfl rfl (by kernel_rfl) ?_ ?_
          · intro g wx hb
            refine Rgi.from_is (some 198) rfl rfl ?_
            refine Rgi.from_nil fun T hT => ?_
            go_wp2
            exact hT _ _ rfl hb (by first | rfl | exact congrArg _ (by decide))
          refine Rgi.op_is (.bool true) [48, 53] rfl rfl (by kernel_rfl) ?_ ?_
          · intro g wx hb
            refine Rgi.from_is (some 194) rfl rfl ?_
            refine Rgi.from_is (some 199) rfl rfl ?_
            refine Rgi.from_nil fun T hT => ?_
            go_wp2
            exact hT _ _ rfl hb (by first | rfl | exact congrArg _ (by decide))
          refine Rgi.op_is (.bool true) [54] rfl rfl (by kernel_rfl) ?_ ?_
          · intro g wx hb
            refine Rgi.from_is (some 200) rfl rfl ?_
            refine Rgi.from_nil fun T hT => ?_
            go_wp2
            exact hT _ _ rfl hb (by first | rfl | exact congrArg _ (by decide))
          refine Rgi.op_is (pval pZero) [] rfl rfl (by kernel_rfl) ?_ ?_
          · intro g wx hb
            refine Rgi.from_nil fun T hT => ?_
            obtain ⟨p0, p1, p2, p3, p4, p5, p6, p7, p8, p9, p10, p11⟩ := par_cells (s6.below (LitsB.b hb))
            go_wp2
            exact hT _ _ rfl hb (by first | rfl | exact congrArg _ (by decide))
          refine Rgi.op_sp [] rfl rfl (by kernel_rfl) ?_ ?_
          · intro g wx hb hg
            refine Rgi.from_nil fun T hT => ?_
            go_wp2
            exact hT _ _ rfl (LitsB.new hb (j := 57) rfl)
          refine Rgi.op_is (.int .i64 22) [56, 57] rfl rfl (by kernel_rfl) ?_ ?_
          · intro g wx hb
            refine Rgi.from_is (some 202) rfl rfl ?_
            refine Rgi.from_sp (some 203) rfl rfl rfl fun v203 h203 => ?_
            refine Rgi.from_nil fun T hT => ?_
            obtain ⟨a, rfl, r, _⟩ := LitsB.row hb 57 _ _ rfl _ h203
            go_wp2_with (fail)
            refine (aquery_c pZero pZero_ok none ([]) 0 1 (some ⟨a, 0, none⟩) [0, 0] 2 _ (asks_none _) (askOk_of (by decide)) r.cells (by decide) (i64s_of (by decide)) (hTab.below (LitsB.b hb))).mono ?_
            rintro e w4 ⟨rfl, hw2⟩
            rw [an_9]
            go_wp2
            exact hT _ _ rfl (LitsB.keep hb hw2) rfl
          refine Rgi.op_is (.bool true) [58] rfl rfl (by kernel_rfl) ?_ ?_
          · intro g wx hb
            refine Rgi.from_is (some 204) rfl rfl ?_
            refine Rgi.from_nil fun T hT => ?_
            go_wp2
            exact hT _ _ rfl hb (by first | rfl | exact congrArg _ (by decide))
          refine Rgi.op_is (.bool true) [55, 59] rfl rfl (by kernel_rfl) ?_ ?_
          · intro g wx hb
            refine Rgi.from_is (some 201) rfl rfl ?_
            refine Rgi.from_is (some 205) rfl rfl ?_
            refine Rgi.from_nil fun T hT => ?_
            go_wp2
            exact hT _ _ rfl hb (by first | rfl | exact congrArg _ (by decide))
          refine Rgi.op_is (.bool true) [60] rfl rfl (by kernel_rfl) ?_ ?_
          · intro g wx hb
            refine Rgi.from_is (some 206) rfl rfl ?_
            refine Rgi.from_nil fun T hT => ?_
            go_wp2
            exact hT _ _ rfl hb (by first | rfl | exact congrArg _ (by decide))
          refine Rgi.op_is (pval pLess) [] rfl rfl (by kernel_rfl) ?_ ?_
          · intro g wx hb
            refine Rgi.from_nil fun T hT => ?_
            obtain ⟨p0, p1, p2, p3, p4, p5, p6, p7, p8, p9, p10, p11⟩ := par_cells (s7.below (LitsB.b hb))
            go_wp2
            exact hT _ _ rfl hb (by first | rfl | exact congrArg _ (by decide))
          refine Rgi.op_sp [] rfl rfl (by kernel_rfl) ?_ ?_
          · intro g wx hb hg
            refine Rgi.from_nil fun T hT => ?_
            go_wp2
            exact hT _ _ rfl (LitsB.new hb (j := 63) rfl)
          refine Rgi.op_is (.int .i64 22) [62, 63] rfl rfl (by kernel_rfl) ?_ ?_
          · intro g wx hb
            refine Rgi.from_is (some 208) rfl rfl ?_
            refine Rgi.from_sp (some 209) rfl rfl rfl fun v209 h209 => ?_
            refine Rgi.from_nil fun T hT => ?_
            obtain ⟨a, rfl, r, _⟩ := LitsB.row hb 63 _ _ rfl _ h209
            go_wp2_with (fail)
            refine (aquery_c pLess pLess_ok none ([]) 0 1 (some ⟨a, 0, none⟩) [1, 0] 2 _ (asks_none _) (askOk_of (by decide)) r.cells (by decide) (i64s_of (by decide)) (hTab.below (LitsB.b hb))).mono ?_
            rintro e w4 ⟨rfl, hw2⟩
            rw [an_10]
            go_wp2
            exact hT _ _ rfl (LitsB.keep hb hw2) rfl
          refine Rgi.op_is (.bool true) [64] rfl rfl (by kernel_rfl) ?_ ?_
          · intro g wx hb
            refine Rgi.from_is (some 210) rfl rfl ?_
            refine Rgi.from_nil fun T hT => ?_
            go_wp2
            exact hT _ _ rfl hb (by first | rfl | exact congrArg _ (by decide))
          refine Rgi.op_is (.bool true) [61, 65] rfl rfl (by kernel_rfl) ?_ ?_
          · intro g wx hb
            refine Rgi.from_is (some 207) rfl rfl ?_
            refine Rgi.from_is (some 211) rfl rfl ?_
            refine Rgi.from_nil fun T hT => ?_
            go_wp2
            exact hT _ _ rfl hb (by first | rfl | exact congrArg _ (by decide))
          refine Rgi.walk_nil [0, 1, 2, 3, 4, 5, 6, 7, 8, 9, 10, 11, 12, 13, 14, 15, 16, 17, 18, 19, 20, 21, 22, 23, 24, 25, 26, 27, 28, 29, 30, 31, 32, 33, 34, 35, 36, 37, 38, 39, 40, 41, 42, 43, 44, 45, 46, 47, 48, 49, 50, 51, 52, 53, 54, 55, 56, 57, 58, 59, 60, 61, 62, 63, 64, 65, 66] (by kernel_rfl) ?_
          intro g wx hb
          refine Rgi.from_is (some 146) rfl rfl ?_
          refine Rgi.from_is (some 147) rfl rfl ?_
          refine Rgi.from_sp (some 148) rfl rfl rfl fun v148 h148 => ?_
          refine Rgi.from_is (some 149) rfl rfl ?_
          refine Rgi.from_is (some 150) rfl rfl ?_
          refine Rgi.from_is (some 151) rfl rfl ?_
          refine Rgi.from_is (some 152) rfl rfl ?_
          refine Rgi.from_is (some 153) rfl rfl ?_
          refine Rgi.from_sp (some 154) rfl rfl rfl fun v154 h154 => ?_
          refine Rgi.from_is (some 155) rfl rfl ?_
          refine Rgi.from_is (some 156) rfl rfl ?_
          refine Rgi.from_is (some 157) rfl rfl ?_
          refine Rgi.from_is (some 158) rfl rfl ?_
          refine Rgi.from_is (some 159) rfl rfl ?_
          refine Rgi.from_is (some 160) rfl rfl ?_
          refine Rgi.from_is (some 161) rfl rfl ?_
          refine Rgi.from_sp (some 162) rfl rfl rfl fun v162 h162 => ?_
          refine Rgi.from_is (some 163) rfl rfl ?_
          refine Rgi.from_is (some 164) rfl rfl ?_
          refine Rgi.from_is (some 165) rfl rfl ?_
          refine Rgi.from_is (some 166) rfl rfl ?_
          refine Rgi.from_is (some 167) rfl rfl ?_
          refine Rgi.from_sp (some 168) rfl rfl rfl fun v168 h168 => ?_
          refine Rgi.from_is (some 169) rfl rfl ?_
          refine Rgi.from_is (some 170) rfl rfl ?_
          refine Rgi.from_is (some 171) rfl rfl ?_
          refine Rgi.from_is (some 172) rfl rfl ?_
          refine Rgi.from_is (some 173) rfl rfl ?_
          refine Rgi.from_is (some 174) rfl rfl ?_
          refine Rgi.from_is (some 175) rfl rfl ?_
          refine Rgi.from_is (some 176) rfl rfl ?_
          refine Rgi.from_is (some 177) rfl rfl ?_
          refine Rgi.from_is (some 178) rfl rfl ?_
          refine Rgi.from_is (some 179) rfl rfl ?_
          refine Rgi.from_is (some 180) rfl rfl ?_
          refine Rgi.from_is (some 181) rfl rfl ?_
          refine Rgi.from_is (some 182) rfl rfl ?_
          refine Rgi.from_is (some 183) rfl rfl ?_
          refine Rgi.from_is (some 184) rfl rfl ?_
          refine Rgi.from_is (some 185) rfl rfl ?_
          refine Rgi.from_is (some 186) rfl rfl ?_
          refine Rgi.from_is (some 187) rfl rfl ?_
          refine Rgi.from_is (some 188) rfl rfl ?_
          refine Rgi.from_is (some 189) rfl rfl ?_
          refine Rgi.from_is (some 190) rfl rfl ?_
          refine Rgi.from_is (some 191) rfl rfl ?_
          refine Rgi.from_is (some 192) rfl rfl ?_
          refine Rgi.from_is (some 193) rfl rfl ?_
          refine Rgi.from_is (some 194) rfl rfl ?_
          refine Rgi.from_is (some 195) rfl rfl ?_
          refine Rgi.from_is (some 196) rfl rfl ?_
          refine Rgi.from_sp (some 197) rfl rfl rfl fun v197 h197 => ?_
          refine Rgi.from_is (some 198) rfl rfl ?_
          refine Rgi.from_is (some 199) rfl rfl ?_
          refine Rgi.from_is (some 200) rfl rfl ?_
          refine Rgi.from_is (some 201) rfl rfl ?_
          refine Rgi.from_is (some 202) rfl rfl ?_
          refine Rgi.from_sp (some 203) rfl rfl rfl fun v203 h203 => ?_
          refine Rgi.from_is (some 204) rfl rfl ?_
          refine Rgi.from_is (some 205) rfl rfl ?_
          refine Rgi.from_is (some 206) rfl rfl ?_
          refine Rgi.from_is (some 207) rfl rfl ?_
          refine Rgi.from_is (some 208) rfl rfl ?_
          refine Rgi.from_sp (some 209) rfl rfl rfl fun v209 h209 => ?_
          refine Rgi.from_is (some 210) rfl rfl ?_
          refine Rgi.from_is (some 211) rfl rfl ?_
          refine Rgi.from_is (some 212) rfl rfl ?_
          refine Rgi.from_nil ?_
          simp only [List.map, Act.put, List.setIfInBounds_toArray, List.set_cons_zero, List.set_cons_succ]
          have hbz := below_next HBZ.out HBZ.out.size (LitsB.b hb)
          clear hb h148 h154 h162 h168 h197 h203 h209
          go_wp2
          go_ret
          exact ⟨rfl, hbz⟩
end Go.Proofs.YtmmmdidbnjcooaaDoor
