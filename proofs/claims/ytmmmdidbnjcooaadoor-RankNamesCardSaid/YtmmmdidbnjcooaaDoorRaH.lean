/-
  PROVED HERE: RankNames: the examples, rows of nothing, numbers above q, and what q may not be.
-/
import Derived.Test.YtmmmdidbnjcooaaDoorRaG
namespace Go.Proofs.YtmmmdidbnjcooaaDoor
open Go Go.RowKit Go.Maps Go.Shelf Go.Proofs

attribute [local go_sem] Oper.semAt_some

theorem badq_u : U64s badq := u64s_of (by decide)
set_option maxRecDepth 100000 in
set_option maxHeartbeats 4000000 in
theorem rankNames_c (w : World) (hT : Tabs w) [DecidableEq Lit] : Calls Tryd.prog 3 #[] w fun e w' => e = .returned (.bool true) ∧ Below w.heap.size w w' := by
  go_enter Tryd.func3, Tryd.ntmps3
  have hbw := Below.refl w.heap.size w
  have hB := Bun.nil w
  go_wp2_with (fail)
  have hs := hB.b
  refine (works_c _ (hT.below hbw)).mono ?_
  rintro e x0 ⟨rfl, hb⟩
  replace hbw := below_next hbw hbw.size hb
  clear hb hs hB
  have hB := Bun.nil x0
  go_wp2_with (refine wpList_named hB rfl ?_; clear hB; intro wn gn hB hbn hg; (try rw [hg]); clear hg)
  have hs := hB.b
  replace hbw := below_next hbw hbw.size hs
  refine (rank_c _ [] 0 7 _ (grid_none _) (rowsOk_of (by decide)) (⟨by decide, by decide⟩) (hT.below hbw)).mono ?_
  rintro e x1 ⟨rfl, hb⟩
  rw [rn1]
  replace hbw := below_next hbw hbw.size hb
  clear hb hs hB
  have hB := Bun.nil x1
  go_wp2_with (refine wpList_named hB rfl ?_; clear hB; intro wn gn hB hbn hg; (try rw [hg]); clear hg)
  have hs := hB.b
  replace hbw := below_next hbw hbw.size hs
  refine (rank_c _ [[], []] 2 7 _ (grid_of (f := [[], []]) (hB.row (i := 0) rfl) ⟨⟨_, _, rfl, (hB.row (i := 1) rfl).cells, by decide⟩, rowV_none _, trivial⟩) (rowsOk_of (by decide)) (⟨by decide, by decide⟩) (hT.below hbw)).mono ?_
  rintro e x2 ⟨rfl, hb⟩
  rw [rn2]
  replace hbw := below_next hbw hbw.size hb
  clear hb hs hB
  have hB := Bun.nil x2
  go_wp2_with (refine wpList_named hB rfl ?_; clear hB; intro wn gn hB hbn hg; (try rw [hg]); clear hg)
  have hs := hB.b
  replace hbw := below_next hbw hbw.size hs
  refine (rank_c _ [[7, 14]] 1 7 _ (grid_of (hB.row (i := 0) rfl) ⟨rowV_at [7, 14] (hB.row (i := 1) rfl) (by decide), trivial⟩) (rowsOk_of (by decide)) (⟨by decide, by decide⟩) (hT.below hbw)).mono ?_
  rintro e x3 ⟨rfl, hb⟩
  rw [rn3]
  replace hbw := below_next hbw hbw.size hb
  clear hb hs hB
  have hB := Bun.nil x3
  go_wp2_with (refine wpList_named hB rfl ?_; clear hB; intro wn gn hB hbn hg; (try rw [hg]); clear hg)
  have hs := hB.b
  replace hbw := below_next hbw hbw.size hs
  refine (rank_c _ [[1], [0, 1], [0, 0, 1]] 3 2 _ (grid_of (hB.row (i := 0) rfl) ⟨rowV_at [1] (hB.row (i := 3) rfl) (by decide), rowV_at [0, 1] (hB.row (i := 2) rfl) (by decide), rowV_at [0, 0, 1] (hB.row (i := 1) rfl) (by decide), trivial⟩) (rowsOk_of (by decide)) (⟨by decide, by decide⟩) (hT.below hbw)).mono ?_
  rintro e x4 ⟨rfl, hb⟩
  rw [rn4]
  replace hbw := below_next hbw hbw.size hb
  clear hb hs hB
  have hB := Bun.nil x4
  go_wp2_with (refine wpList_named hB rfl ?_; clear hB; intro wn gn hB hbn hg; (try rw [hg]); clear hg)
  have hs := hB.b
  replace hbw := below_next hbw hbw.size hs
  refine (rank_c _ [[1, 1], [1, 2305843009213693953]] 2 3 _ (grid_of (hB.row (i := 0) rfl) ⟨rowV_at [1, 1] (hB.row (i := 2) rfl) (by decide), rowV_at [1, 2305843009213693953] (hB.row (i := 1) rfl) (by decide), trivial⟩) (rowsOk_of (by decide)) (⟨by decide, by decide⟩) (hT.below hbw)).mono ?_
  rintro e x5 ⟨rfl, hb⟩
  rw [rn5]
  replace hbw := below_next hbw hbw.size hb
  clear hb hs hB
  have hB := Bun.nil x5
  go_wp2_with (refine wpList_named hB rfl ?_; clear hB; intro wn gn hB hbn hg; (try rw [hg]); clear hg)
  have hs := hB.b
  replace hbw := below_next hbw hbw.size hs
  have hq8 := hB.row (i := 0) rfl
  clear hB hs
  rename_i gq
  obtain ⟨wo, hwo⟩ : ∃ wo, wn = wo := ⟨_, rfl⟩
  rw [hwo] at hq8 hbw ⊢
  clear hwo
  have HQ8 := hid hq8
  clear hq8
  go_loopw [54] (fun i wr => ∃ k : Nat, i = .int .i64 (k : Int) ∧ k ≤ 8 ∧ Hid (Below wo.heap.size wo wr)) (fun i _ => 8 - (intOf i).toNat)
  case atStart => exact ⟨0, rfl, by omega, hid (Below.refl _ _)⟩
  case round =>
    obtain ⟨k, rfl, hk, HI⟩ := hrel
    rename_i wr
    by_cases hlt : k < 8
    · obtain ⟨q, hq⟩ := get_of_lt (l := badq) (k := k) hlt
      have hqm := List.mem_of_getElem? hq
      have hqu := badq_u q hqm
      have HQP := hid (badq_no q hqm)
      have hcq := ((HQ8.out).below HI.out).cell (k := k) (u := .int .u64 q) (by
        have : (badq.map (Value.int .u64))[k]? = some (.int .u64 q) := by rw [List.getElem?_map, hq]; rfl
        exact this)
      have hbw := below_next hbw hbw.size HI.out
      have hbl := HI.out
      clear hq hqm HI
      have hB := Bun.nil wr
      go_wp2_with (refine wpList_named hB rfl ?_; clear hB; intro wn gn hB hbn hg; (try rw [hg]); clear hg)
      have hs := hB.b
      replace hbw := below_next hbw hbw.size hs
      replace hbl := below_next hbl hbl.size hs
      refine (solve_c _ [[1]] 1 _ [1] 1 q _ (grid_of (hB.row (i := 1) rfl) ⟨rowV_at [1] (hB.row (i := 2) rfl) (by decide), trivial⟩) (rowsOk_of (by decide)) ((hB.row (i := 0) rfl).cells) (by decide) (u64s_of (by decide)) (hqu) (hT.below hbw) (by decide) (by decide)).mono ?_
      rintro e x6 hn
      rw [solveV_no HQP.out] at hn
      obtain ⟨A6, c6, rfl, hc6, hb⟩ := hn.own
      clear hn
      replace hbw := below_next hbw hbw.size hb
      replace hbl := below_next hbl hbl.size hb
      clear hb hs hB
      clear hc6
      have hB := Bun.nil x6
      go_wp2_with (refine wpList_named hB rfl ?_; clear hB; intro wn gn hB hbn hg; (try rw [hg]); clear hg)
      have hs := hB.b
      replace hbw := below_next hbw hbw.size hs
      replace hbl := below_next hbl hbl.size hs
      refine (rank_c _ [[1]] 1 q _ (grid_of (hB.row (i := 0) rfl) ⟨rowV_at [1] (hB.row (i := 1) rfl) (by decide), trivial⟩) (rowsOk_of (by decide)) (hqu) (hT.below hbw)).mono ?_
      rintro e x7 ⟨rfl, hb⟩
      rw [rankV_no HQP.out]
      replace hbw := below_next hbw hbw.size hb
      replace hbl := below_next hbl hbl.size hb
      clear hb hs hB
      have hB := Bun.nil x7
      go_wp2_with (refine wpList_named hB rfl ?_; clear hB; intro wn gn hB hbn hg; (try rw [hg]); clear hg)
      have hs := hB.b
      replace hbw := below_next hbw hbw.size hs
      replace hbl := below_next hbl hbl.size hs
      refine (hangs_c _ [[1]] 1 _ [1] 1 q _ (grid_of (hB.row (i := 1) rfl) ⟨rowV_at [1] (hB.row (i := 2) rfl) (by decide), trivial⟩) (rowsOk_of (by decide)) ((hB.row (i := 0) rfl).cells) (by decide) (u64s_of (by decide)) (hqu) (hT.below hbw)).mono ?_
      rintro e x8 ⟨rfl, hb⟩
      rw [hangsV_no HQP.out]
      replace hbw := below_next hbw hbw.size hb
      replace hbl := below_next hbl hbl.size hb
      clear hb hs hB
      have hB := Bun.nil x8
      go_wp2_with (refine wpList_named hB rfl ?_; clear hB; intro wn gn hB hbn hg; (try rw [hg]); clear hg)
      have hs := hB.b
      replace hbw := below_next hbw hbw.size hs
      replace hbl := below_next hbl hbl.size hs
      refine (hangs_c _ [] 0 _ [] 0 q _ (grid_none _) (rowsOk_of (by decide)) (.inl rfl) (by decide) (u64s_of (by decide)) (hqu) (hT.below hbw)).mono ?_
      rintro e x9 ⟨rfl, hb⟩
      rw [hangsV_no HQP.out]
      replace hbw := below_next hbw hbw.size hb
      replace hbl := below_next hbl hbl.size hb
      clear hb hs hB
      go_wp2
      go_roundw
      case rel => exact ⟨k + 1, by go_num, by omega, hid hbl⟩
      case measure => simp [intOf]; omega
    · obtain rfl : k = 8 := by omega
      replace hbw := below_next hbw hbw.size HI.out
      clear HI HQ8 hlt hk
      have hB := Bun.nil wr
      go_wp2_with (refine wpList_named hB rfl ?_; clear hB; intro wn gn hB hbn hg; (try rw [hg]); clear hg)
      have hs := hB.b
      replace hbw := below_next hbw hbw.size hs
      refine (solve_c _ [] 0 _ [] 0 5 _ (grid_none _) (rowsOk_of (by decide)) (.inl rfl) (by decide) (u64s_of (by decide)) (⟨by decide, by decide⟩) (hT.below hbw) (by decide) (by decide)).mono ?_
      rintro e x10 hn
      rw [sn1] at hn
      obtain ⟨A10, c10, rfl, hc10, hb⟩ := hn.own
      clear hn
      replace hbw := below_next hbw hbw.size hb
      clear hb hs hB
      clear hc10
      have hB := Bun.nil x10
      go_wp2_with (refine wpList_named hB rfl ?_; clear hB; intro wn gn hB hbn hg; (try rw [hg]); clear hg)
      have hs := hB.b
      replace hbw := below_next hbw hbw.size hs
      refine (solve_c _ [] 0 _ [0] 1 5 _ (grid_none _) (rowsOk_of (by decide)) ((hB.row (i := 0) rfl).cells) (by decide) (u64s_of (by decide)) (⟨by decide, by decide⟩) (hT.below hbw) (by decide) (by decide)).mono ?_
      rintro e x11 hn
      rw [sn2] at hn
      obtain ⟨A11, c11, rfl, hc11, hb⟩ := hn.own
      clear hn
      replace hbw := below_next hbw hbw.size hb
      clear hb hs hB
      clear hc11
      have hB := Bun.nil x11
      go_wp2_with (refine wpList_named hB rfl ?_; clear hB; intro wn gn hB hbn hg; (try rw [hg]); clear hg)
      have hs := hB.b
      replace hbw := below_next hbw hbw.size hs
      refine (solve_c _ [[1, 1, 0], [0, 0, 2]] 2 _ [4] 1 5 _ (grid_of (hB.row (i := 1) rfl) ⟨rowV_at [1, 1, 0] (hB.row (i := 3) rfl) (by decide), rowV_at [0, 0, 2] (hB.row (i := 2) rfl) (by decide), trivial⟩) (rowsOk_of (by decide)) ((hB.row (i := 0) rfl).cells) (by decide) (u64s_of (by decide)) (⟨by decide, by decide⟩) (hT.below hbw) (by decide) (by decide)).mono ?_
      rintro e x12 hn
      rw [sn3] at hn
      obtain ⟨A12, c12, rfl, hc12, hb⟩ := hn.own
      clear hn
      replace hbw := below_next hbw hbw.size hb
      clear hb hs hB
      have ky := hc12
      clear hc12
      have hB := Bun.nil x12
      go_wp2_with (refine wpList_named hB rfl ?_; clear hB; intro wn gn hB hbn hg; (try rw [hg]); clear hg)
      have hs := hB.b
      replace ky := ky.below hs
      replace hbw := below_next hbw hbw.size hs
      refine (solve_c _ [[0, 0]] 1 _ [1] 1 5 _ (grid_of (hB.row (i := 1) rfl) ⟨rowV_at [0, 0] (hB.row (i := 2) rfl) (by decide), trivial⟩) (rowsOk_of (by decide)) ((hB.row (i := 0) rfl).cells) (by decide) (u64s_of (by decide)) (⟨by decide, by decide⟩) (hT.below hbw) (by decide) (by decide)).mono ?_
      rintro e x13 hn
      rw [sn4] at hn
      obtain ⟨A13, c13, rfl, hc13, hb⟩ := hn.own
      clear hn
      replace ky := ky.below hb
      replace hbw := below_next hbw hbw.size hb
      clear hb hs hB
      clear hc13
      have hB := Bun.nil x13
      go_wp2_with (refine wpList_named hB rfl ?_; clear hB; intro wn gn hB hbn hg; (try rw [hg]); clear hg)
      have hs := hB.b
      replace ky := ky.below hs
      replace hbw := below_next hbw hbw.size hs
      refine (solve_c _ [[3]] 1 _ [1] 1 2305843009213693951 _ (grid_of (hB.row (i := 1) rfl) ⟨rowV_at [3] (hB.row (i := 2) rfl) (by decide), trivial⟩) (rowsOk_of (by decide)) ((hB.row (i := 0) rfl).cells) (by decide) (u64s_of (by decide)) (⟨by decide, by decide⟩) (hT.below hbw) (by decide) (by decide)).mono ?_
      rintro e x14 hn
      rw [sn5] at hn
      obtain ⟨A14, c14, rfl, hc14, hb⟩ := hn.own
      clear hn
      replace ky := ky.below hb
      replace hbw := below_next hbw hbw.size hb
      clear hb hs hB
      have kz := hc14
      clear hc14
      have hB := Bun.nil x14
      go_wp2_with (refine wpList_named hB rfl ?_; clear hB; intro wn gn hB hbn hg; (try rw [hg]); clear hg)
      have hs := hB.b
      replace ky := ky.below hs
      replace kz := kz.below hs
      replace hbw := below_next hbw hbw.size hs
      refine (nums_b _ _ [4, 0, 0] [4, 0, 0] _ 3 _ ky ((hB.row (i := 0) rfl).cells) (by decide) (by decide)).mono ?_
      rintro e x15 ⟨rfl, hb⟩
      rw [show decide (([4, 0, 0] : List Int) = [4, 0, 0]) = true from by decide]
      replace ky := ky.below hb
      replace kz := kz.below hb
      replace hbw := below_next hbw hbw.size hb
      clear hb hs hB
      obtain ⟨bz, oz, rfl, cz⟩ := kz.at_map (k := 0) (x := 1537228672809129301) rfl
      rw [Nat.add_zero] at cz
      go_wp2_with (fail)
      refine (mul_c 1537228672809129301 3 2305843009213693951 ⟨by decide, by decide⟩ ⟨by decide, by decide⟩ ⟨by decide, by decide⟩ _).mono ?_
      rintro e yz ⟨rfl, hd⟩
      rw [show mMul 1537228672809129301 3 2305843009213693951 = 1 from by decide]
      replace hbw := below_dr hbw hd
      clear hd
      go_wp2
      go_ret
      exact ⟨rfl, hbw⟩
end Go.Proofs.YtmmmdidbnjcooaaDoor
