/-
  PROVED HERE: DiskNames: the examples, the limits, the row of errors, and what is asked of nil.
-/
import Derived.Test.YtnniiokpngdgkaaDkX
namespace Go.Proofs.Ytnniiokpngdgkaa
open Go.ChangeShapes Go.WideShapes Go.ChangeAt Go.RowKit Go.Maps Go.Shelf Go.Proofs

set_option maxRecDepth 100000 in
set_option maxHeartbeats 4000000 in
theorem diskNames_c (w : World) [DecidableEq Lit] :
    Calls Try.prog 7 #[] w fun e w' => e = .returned (.bool true) ∧ Below w.heap.size w w' := by
  have z0 : ((0 : Int) != 0) = false := rfl
  have z1 : ((1 : Int) != 1) = false := rfl
  have z2 : ((2 : Int) != 2) = false := rfl
  have z10 : ((10 : Int) != 10) = false := rfl
  have z42 : ((42 : Int) != 42) = false := rfl
  go_enter Try.func7, Try.ntmps7
  go_wp2_with (fail)
  refine (fuse_nil 1 w).mono ?_
  rintro e _ ⟨rfl, rfl⟩
  go_wp2_with (fail)
  refine (crash_nil none 0 0 0 w).mono ?_
  rintro e _ ⟨rfl, rfl⟩
  go_wp2_with (fail)
  refine (start_nil w).mono ?_
  rintro e _ ⟨rfl, rfl⟩
  go_wp2_with (fail)
  refine (works_c w).mono ?_
  rintro e w1 ⟨rfl, hb⟩
  go_wp2_with (fail)
  refine (write_nil 0 ⟨#[]⟩ w1).mono ?_
  rintro e _ ⟨rfl, rfl⟩
  go_wp2_with (fail)
  refine (sync_nil w1).mono ?_
  rintro e _ ⟨rfl, rfl⟩
  go_wp2_with (fail)
  refine (read_nil 0 w1).mono ?_
  rintro e w2 ⟨rfl, hb2⟩
  replace hb := below_next hb hb.size hb2
  clear hb2
  go_wp2_with (fail)
  refine (platter_nil 0 w2).mono ?_
  rintro e _ ⟨rfl, rfl⟩
  go_wp2_with (fail)
  refine (waits_nil w2).mono ?_
  rintro e _ ⟨rfl, rfl⟩
  go_wp2_with (fail)
  refine (used_nil w2).mono ?_
  rintro e _ ⟨rfl, rfl⟩
  go_wp2_with (fail)
  refine (dead_nil w2).mono ?_
  rintro e _ ⟨rfl, rfl⟩
  go_wp2_with (fail)
  refine (copy_nil w2).mono ?_
  rintro e _ ⟨rfl, rfl⟩
  have hM : Many w w2 [] := Many.nil hb
  clear hb
  go_wp2_with (fail)
  refine (dnew_c _).mono ?_
  rintro e w3 ⟨g, gm, rfl, hD, h1, h2, hb⟩
  replace hM : Many w w3 [⟨g, gm, (.slice none 0 0), dk0⟩] := hM.add hD h1 h2 (fun b h => by cases h) hb
  clear hD h1 h2 hb
  go_wp2_with (fail)
  refine (fuse_c g gm _ dk0 0 _ (hM.at_ 0 rfl) ⟨by omega, by omega⟩).mono ?_
  rintro e w4 ⟨rfl, hD, hT⟩
  replace hM : Many w w4 [⟨g, gm, (.slice none 0 0), n0⟩] := hM.set 0 rfl hD Then.refl hT
  clear hD hT
  go_wp2_with (fail)
  refine (write_c g gm _ n0 _ (-1) ⟨#[]⟩ _ (hM.at_ 0 rfl) n0_ok (by omega) ⟨by omega, by omega⟩ (by decide)).mono ?_
  rintro e w5 ⟨v5, rfl, hD, hTh, hT⟩
  rw [show Dk.writeE (n0) (-1) ⟨#[]⟩ = 1 from rfl]
  replace hM : Many w w5 [⟨g, gm, v5, n1⟩] := hM.set 0 rfl hD hTh hT
  clear hD hTh hT
  go_wp2_with (fail)
  refine (zeros_c 513 _ (by omega)).mono ?_
  rintro e w6 ⟨rfl, hb⟩
  replace hM := hM.below hb
  clear hb
  have hz := zs_size 513
  go_wp2_with (fail)
  refine (write_c g gm _ n1 _ 0 (zs 513) _ (hM.at_ 0 rfl) n1_ok (by omega) ⟨by omega, by omega⟩ (by rw [zs_size]; omega)).mono ?_
  rintro e w7 ⟨v7, rfl, hD, hTh, hT⟩
  rw [show Dk.writeE (n1) 0 (zs 513) = 10 from (by rw [n1_eq]; simp [Dk.writeE, isS, zs_size])]
  replace hM : Many w w7 [⟨g, gm, v7, n2⟩] := hM.set 0 rfl hD hTh hT
  clear hD hTh hT
  go_wp2_with (fail)
  refine (dead_c g gm _ n2 _ (hM.at_ 0 rfl)).mono ?_
  rintro e _ ⟨rfl, rfl⟩
  rw [show Dk.de (n2) = false from (by rw [n2_eq])]
  go_wp2_with (fail)
  refine (write_c g gm _ n2 _ 0 ⟨#[97]⟩ _ (hM.at_ 0 rfl) n2_ok (by omega) ⟨by omega, by omega⟩ (by decide)).mono ?_
  rintro e w8 ⟨v8, rfl, hD, hTh, hT⟩
  rw [show Dk.writeE (n2) 0 ⟨#[97]⟩ = 42 from (by rw [n2_eq]; rfl)]
  replace hM : Many w w8 [⟨g, gm, v8, n3⟩] := hM.set 0 rfl hD hTh hT
  clear hD hTh hT
  go_wp2_with (fail)
  refine (dead_c g gm _ n3 _ (hM.at_ 0 rfl)).mono ?_
  rintro e _ ⟨rfl, rfl⟩
  rw [show Dk.de (n3) = true from (by rw [n3_eq])]
  go_wp2_with (fail)
  refine (write_c g gm _ n3 _ (-1) ⟨#[]⟩ _ (hM.at_ 0 rfl) n3_ok (by omega) ⟨by omega, by omega⟩ (by decide)).mono ?_
  rintro e w9 ⟨v9, rfl, hD, hTh, hT⟩
  rw [show Dk.writeE (n3) (-1) ⟨#[]⟩ = 42 from (by rw [n3_eq]; rfl)]
  replace hM : Many w w9 [⟨g, gm, v9, n4⟩] := hM.set 0 rfl hD hTh hT
  clear hD hTh hT
  go_wp2_with (fail)
  refine (sync_c g gm _ n4 _ _ (hM.at_ 0 rfl) n4_ok (by omega)).mono ?_
  rintro e w10 ⟨v10, rfl, hD, hTh, hT⟩
  rw [show Dk.syncE (n4) = 42 from (by rw [n4_eq]; rfl)]
  replace hM : Many w w10 [⟨g, gm, v10, n5⟩] := hM.set 0 rfl hD hTh hT
  clear hD hTh hT
  go_wp2_with (fail)
  refine (fuse_c g gm _ n5 5 _ (hM.at_ 0 rfl) ⟨by omega, by omega⟩).mono ?_
  rintro e w11 ⟨rfl, hD, hT⟩
  replace hM : Many w w11 [⟨g, gm, v10, n6⟩] := hM.set 0 rfl hD Then.refl hT
  clear hD hT
  go_wp2_with (fail)
  refine (dead_c g gm _ n6 _ (hM.at_ 0 rfl)).mono ?_
  rintro e _ ⟨rfl, rfl⟩
  rw [show Dk.de (n6) = true from (by rw [n6_eq])]
  go_wp2_with (fail)
  refine (platter_c g gm _ n6 0 _ (hM.at_ 0 rfl) ⟨by omega, by omega⟩).mono ?_
  rintro e w12 ⟨rfl, hb⟩
  rw [show Dk.plat (n6) 0 = zs 512 from (by rw [n6_eq]; rfl)]
  replace hM := hM.below hb
  clear hb
  go_wp2_with (fail)
  refine (zeros_c 512 _ (by omega)).mono ?_
  rintro e w13 ⟨rfl, hb⟩
  replace hM := hM.below hb
  clear hb
  have hz := zs_size 512
  go_wp2_with (fail)
  refine (platter_c g gm _ n6 (-1) _ (hM.at_ 0 rfl) ⟨by omega, by omega⟩).mono ?_
  rintro e w14 ⟨rfl, hb⟩
  rw [show Dk.plat (n6) (-1) = ⟨#[]⟩ from (by rw [n6_eq]; rfl)]
  replace hM := hM.below hb
  clear hb
  go_wp2_with (fail)
  refine (platter_c g gm _ n6 65536 _ (hM.at_ 0 rfl) ⟨by omega, by omega⟩).mono ?_
  rintro e w15 ⟨rfl, hb⟩
  rw [show Dk.plat (n6) 65536 = ⟨#[]⟩ from (by rw [n6_eq]; rfl)]
  replace hM := hM.below hb
  clear hb
  go_wp2_with (fail)
  refine (used_c g gm _ n6 _ _ (hM.at_ 0 rfl) n6_ok (by omega)).mono ?_
  rintro e w16 ⟨v', us, rfl, hu, hO, hb⟩
  obtain rfl := uses_eq hu (uses_nil (by rw [n6_eq]) (by rw [n6_eq]))
  obtain ⟨Au, cu, rfl, -⟩ := hO.cellsI
  clear hu hO
  replace hM := hM.below hb
  clear hb
  go_wp2_with (fail)
  refine (start_c g gm _ n6 _ (hM.at_ 0 rfl)).mono ?_
  rintro e w17 ⟨rfl, hD, hT⟩
  replace hM : Many w w17 [⟨g, gm, v10, n7⟩] := hM.set 0 rfl hD Then.refl hT
  clear hD hT
  go_wp2_with (fail)
  refine (fuse_c g gm _ n7 0 _ (hM.at_ 0 rfl) ⟨by omega, by omega⟩).mono ?_
  rintro e w18 ⟨rfl, hD, hT⟩
  replace hM : Many w w18 [⟨g, gm, v10, n8⟩] := hM.set 0 rfl hD Then.refl hT
  clear hD hT
  go_wp2_with (fail)
  refine (fuse_c g gm _ n8 (-1) _ (hM.at_ 0 rfl) ⟨by omega, by omega⟩).mono ?_
  rintro e w19 ⟨rfl, hD, hT⟩
  replace hM : Many w w19 [⟨g, gm, v10, n9⟩] := hM.set 0 rfl hD Then.refl hT
  clear hD hT
  go_wp2_with (fail)
  refine (write_c g gm _ n9 _ 65535 ⟨#[108, 97, 115, 116]⟩ _ (hM.at_ 0 rfl) n9_ok (by omega) ⟨by omega, by omega⟩ (by decide)).mono ?_
  rintro e w20 ⟨v20, rfl, hD, hTh, hT⟩
  rw [show Dk.writeE (n9) 65535 ⟨#[108, 97, 115, 116]⟩ = 0 from (by rw [n9_eq]; rfl)]
  replace hM : Many w w20 [⟨g, gm, v20, n10⟩] := hM.set 0 rfl hD hTh hT
  clear hD hTh hT
  go_wp2_with (fail)
  refine (read_c g gm _ n10 65535 _ (hM.at_ 0 rfl) ⟨by omega, by omega⟩ (by have := (n10_ok).len; omega)).mono ?_
  rintro e w21 ⟨rfl, hb⟩
  rw [show Dk.read (n10) 65535 = pad sLast from (by rw [n10_eq]; rfl)]
  replace hM := hM.below hb
  clear hb
  have hp1 : (pad sLast).size = 512 := pad_size (by decide)
  have hp2 : (pad sLast).extract 0 4 = sLast := pad_cut4 sLast
  go_wp2_with (fail)
  refine (read_c g gm _ n10 65536 _ (hM.at_ 0 rfl) ⟨by omega, by omega⟩ (by have := (n10_ok).len; omega)).mono ?_
  rintro e w22 ⟨rfl, hb⟩
  rw [show Dk.read (n10) 65536 = ⟨#[]⟩ from (by rw [n10_eq]; rfl)]
  replace hM := hM.below hb
  clear hb
  go_wp2_with (fail)
  refine (read_c g gm _ n10 (-1) _ (hM.at_ 0 rfl) ⟨by omega, by omega⟩ (by have := (n10_ok).len; omega)).mono ?_
  rintro e w23 ⟨rfl, hb⟩
  rw [show Dk.read (n10) (-1) = ⟨#[]⟩ from (by rw [n10_eq]; rfl)]
  replace hM := hM.below hb
  clear hb
  clear hp1 hp2
  go_wp2_with (fail)
  refine (sync_c g gm _ n10 _ _ (hM.at_ 0 rfl) n10_ok (by omega)).mono ?_
  rintro e w24 ⟨v24, rfl, hD, hTh, hT⟩
  rw [show Dk.syncE (n10) = 0 from (by rw [n10_eq]; rfl)]
  replace hM : Many w w24 [⟨g, gm, v24, n11⟩] := hM.set 0 rfl hD hTh hT
  clear hD hTh hT
  go_wp2_with (fail)
  refine (write_c g gm _ n11 _ 65535 ⟨#[]⟩ _ (hM.at_ 0 rfl) n11_ok (by omega) ⟨by omega, by omega⟩ (by decide)).mono ?_
  rintro e w25 ⟨v25, rfl, hD, hTh, hT⟩
  rw [show Dk.writeE (n11) 65535 ⟨#[]⟩ = 0 from (by rw [n11_eq]; rfl)]
  replace hM : Many w w25 [⟨g, gm, v25, n12⟩] := hM.set 0 rfl hD hTh hT
  clear hD hTh hT
  go_wp2_with (fail)
  refine (used_c g gm _ n12 _ _ (hM.at_ 0 rfl) n12_ok (by omega)).mono ?_
  rintro e w26 ⟨v', us, rfl, hu, hO, hb⟩
  obtain rfl := uses_eq hu n12_uses
  obtain ⟨Au, cu, rfl, -⟩ := hO.cellsI
  clear hu hO
  replace hM := hM.below hb
  clear hb
  go_wp2_with (fail)
  refine (sync_c g gm _ n12 _ _ (hM.at_ 0 rfl) n12_ok (by omega)).mono ?_
  rintro e w27 ⟨v27, rfl, hD, hTh, hT⟩
  rw [show Dk.syncE (n12) = 0 from (by rw [n12_eq]; rfl)]
  replace hM : Many w w27 [⟨g, gm, v27, n13⟩] := hM.set 0 rfl hD hTh hT
  clear hD hTh hT
  go_wp2_with (fail)
  refine (used_c g gm _ n13 _ _ (hM.at_ 0 rfl) n13_ok (by omega)).mono ?_
  rintro e w28 ⟨v', us, rfl, hu, hO, hb⟩
  obtain rfl := uses_eq hu (uses_nil (by rw [n13_eq]) (by rw [n13_eq]))
  obtain ⟨Au, cu, rfl, -⟩ := hO.cellsI
  clear hu hO
  replace hM := hM.below hb
  clear hb
  have hr := row1_new w28 [.string ⟨#[97, 97, 97, 97]⟩, .string ⟨#[98, 98, 98, 98]⟩, .string ⟨#[99, 99]⟩, .string ⟨#[100, 100, 100, 100]⟩] 9
  have hb := below_alloc w28 (.cells #[.string ⟨#[97, 97, 97, 97]⟩, .string ⟨#[98, 98, 98, 98]⟩, .string ⟨#[99, 99]⟩, .string ⟨#[100, 100, 100, 100]⟩] 9)
  replace hM := hM.below hb
  clear hb
  go_wp2
  generalize w28.heap.size = gs at hr ⊢
  generalize w28.alloc _ = wa at *
  go_loopw [184] (fun i wq => ∃ (k : Nat) (v : Value), i = .int .i64 k ∧ k ≤ 4 ∧ Many w wq [⟨g, gm, v, bs k⟩] ∧ Row1 wq gs 9 [.string ⟨#[97, 97, 97, 97]⟩, .string ⟨#[98, 98, 98, 98]⟩, .string ⟨#[99, 99]⟩, .string ⟨#[100, 100, 100, 100]⟩]) (fun i _ => 4 - (intOf i).toNat)
  case atStart => exact ⟨0, v27, rfl, by omega, hM, hr⟩
  case round =>
    obtain ⟨k, v, rfl, hk, hMr, hrr⟩ := hrel
    clear hM hr
    by_cases hlt : k < 4
    · have hq := hrr.cell (k := k) (u := .string (sx k)) (by match k, hlt with | 0, _ => rfl | 1, _ => rfl | 2, _ => rfl | 3, _ => rfl)
      have hsx := sx_size k
      have HC := hid (write_c g gm v (bs k) _ 7 (sx k) wr (hMr.at_ 0 rfl) (bs_ok k) (by omega) ⟨by omega, by omega⟩ (by omega))
      rw [bs_E k] at HC
      go_wp2_with (fail)
      refine HC.out.mono ?_
      rintro e wx ⟨v', rfl, hD, hTh, hT⟩
      have hM' : Many w wx [⟨g, gm, v', bs (k + 1)⟩] := hMr.set 0 rfl hD hTh hT
      have hrr2 := row1_tch hrr (hMr.at_ 0 rfl) hT (by decide) (by decide)
      clear HC hD hTh hT hMr hrr
      go_wp2
      go_roundw
      case rel => exact ⟨k + 1, v', by go_num, by omega, hM', hrr2⟩
      case measure => simp [intOf]; omega
    · obtain rfl : k = 4 := by omega
      have hM := hMr
      clear hMr hrr hk hlt
      generalize hwr : wr = w29 at *
      clear hwr
      go_wp2_with (fail)
      refine (copy_c g gm _ (bs 4) _ _ (hM.at_ 0 rfl) (bs_ok 4) (by omega)).mono ?_
      rintro e w30 ⟨gc, gmc, v30, rfl, hD, h1, h2, h3, hb⟩
      replace hM : Many w w30 [⟨gc, gmc, v30, (bs 4)⟩, ⟨g, gm, v, (bs 4)⟩] := hM.add hD h1 h2 h3 hb
      clear hD h1 h2 h3 hb
      have hr := row1_new w30 [.bool true, .bool false, .bool true] 4
      have hb := below_alloc w30 (.cells #[.bool true, .bool false, .bool true] 4)
      replace hM := hM.below hb
      clear hb
      have hO : Own (w30.alloc (.cells #[.bool true, .bool false, .bool true] 4)) w30.heap.size 4 (.slice (some ⟨w30.heap.size, 0, none⟩) 3 3) [.bool true, .bool false, .bool true] := hr.own (Nat.le_refl _) (by decide)
      clear hr
      go_wp2_with (fail)
      refine (crash_any_c g gm _ (bs 4) _ (some ⟨w30.heap.size, 0, none⟩) [true, false, true] 3 2 _ (hM.at_ 1 rfl) (bs_ok 4) (by omega) (fun wr hT => (hO.tch (hM.at_ 1 rfl) hT (by decide) (by decide)).cells_of) (by decide) ⟨by omega, by omega⟩).mono ?_
      rintro e w31 ⟨v31, rfl, hD, hTh, hT⟩
      replace hM : Many w w31 [⟨gc, gmc, v30, (bs 4)⟩, ⟨g, gm, v31, ((bs 4).crash [true, false, true] 2)⟩] := hM.set 1 rfl hD hTh hT
      clear hD hTh hT hO
      have hr := row1_new w31 [.bool true] 4
      have hb := below_alloc w31 (.cells #[.bool true] 4)
      replace hM := hM.below hb
      clear hb
      have hO : Own (w31.alloc (.cells #[.bool true] 4)) w31.heap.size 4 (.slice (some ⟨w31.heap.size, 0, none⟩) 1 1) [.bool true] := hr.own (Nat.le_refl _) (by decide)
      clear hr
      go_wp2_with (fail)
      refine (crash_any_c gc gmc _ (bs 4) _ (some ⟨w31.heap.size, 0, none⟩) [true] 1 2 _ (hM.at_ 0 rfl) (bs_ok 4) (by omega) (fun wr hT => (hO.tch (hM.at_ 0 rfl) hT (by decide) (by decide)).cells_of) (by decide) ⟨by omega, by omega⟩).mono ?_
      rintro e w32 ⟨v32, rfl, hD, hTh, hT⟩
      replace hM : Many w w32 [⟨gc, gmc, v32, ((bs 4).crash [true] 2)⟩, ⟨g, gm, v31, ((bs 4).crash [true, false, true] 2)⟩] := hM.set 0 rfl hD hTh hT
      clear hD hTh hT hO
      go_wp2_with (fail)
      refine (platter_c g gm _ ((bs 4).crash [true, false, true] 2) 7 _ (hM.at_ 1 rfl) ⟨by omega, by omega⟩).mono ?_
      rintro e w33 ⟨rfl, hb⟩
      rw [show Dk.plat (((bs 4).crash [true, false, true] 2)) 7 = s2c ++ zs 510 from d_plat]
      replace hM := hM.below hb
      clear hb
      go_wp2_with (fail)
      refine (zeros_c 510 _ (by omega)).mono ?_
      rintro e w34 ⟨rfl, hb⟩
      replace hM := hM.below hb
      clear hb
      have hz := zs_size 510
      go_wp2_with (fail)
      refine (platter_c gc gmc _ ((bs 4).crash [true] 2) 7 _ (hM.at_ 0 rfl) ⟨by omega, by omega⟩).mono ?_
      rintro e w35 ⟨rfl, hb⟩
      rw [show Dk.plat (((bs 4).crash [true] 2)) 7 = (⟨#[98, 98, 97, 97]⟩ : ByteArray) ++ zs 508 from c_plat]
      replace hM := hM.below hb
      clear hb
      go_wp2_with (fail)
      refine (zeros_c 508 _ (by omega)).mono ?_
      rintro e w36 ⟨rfl, hb⟩
      replace hM := hM.below hb
      clear hb
      have hz := zs_size 508
      go_wp2_with (fail)
      refine (waits_c g gm _ ((bs 4).crash [true, false, true] 2) _ (hM.at_ 1 rfl)).mono ?_
      rintro e _ ⟨rfl, rfl⟩
      rw [show Dk.C (((bs 4).crash [true, false, true] 2)) = [] from rfl]
      replace hM := hM.drop.drop
      go_wp2_with (fail)
      refine (dnew_c _).mono ?_
      rintro e w37 ⟨ge, gme, rfl, hD, h1, h2, hb⟩
      replace hM : Many w w37 [⟨ge, gme, (.slice none 0 0), dk0⟩] := hM.add hD h1 h2 (fun b h => by cases h) hb
      clear hD h1 h2 hb
      go_wp2_with (fail)
      refine (write_c ge gme _ dk0 _ 1 ⟨#[120]⟩ _ (hM.at_ 0 rfl) dk0_ok (by omega) ⟨by omega, by omega⟩ (by decide)).mono ?_
      rintro e w38 ⟨v38, rfl, hD, hTh, hT⟩
      replace hM : Many w w38 [⟨ge, gme, v38, e1⟩] := hM.set 0 rfl hD hTh hT
      clear hD hTh hT
      go_wp2_with (fail)
      refine (crash_any_c ge gme _ e1 _ none [] 0 999 _ (hM.at_ 0 rfl) e1_ok (by omega) (fun _ _ => .inl rfl) (by decide) ⟨by omega, by omega⟩).mono ?_
      rintro e w39 ⟨v39, rfl, hD, hTh, hT⟩
      replace hM : Many w w39 [⟨ge, gme, v39, (e1.crash [] 999)⟩] := hM.set 0 rfl hD hTh hT
      clear hD hTh hT
      go_wp2_with (fail)
      refine (dnew_c _).mono ?_
      rintro e w40 ⟨gf, gmf, rfl, hD, h1, h2, hb⟩
      replace hM : Many w w40 [⟨gf, gmf, (.slice none 0 0), dk0⟩, ⟨ge, gme, v39, (e1.crash [] 999)⟩] := hM.add hD h1 h2 (fun b h => by cases h) hb
      clear hD h1 h2 hb
      go_wp2_with (fail)
      refine (write_c gf gmf _ dk0 _ 1 ⟨#[120]⟩ _ (hM.at_ 0 rfl) dk0_ok (by omega) ⟨by omega, by omega⟩ (by decide)).mono ?_
      rintro e w41 ⟨v41, rfl, hD, hTh, hT⟩
      replace hM : Many w w41 [⟨gf, gmf, v41, e1⟩, ⟨ge, gme, v39, (e1.crash [] 999)⟩] := hM.set 0 rfl hD hTh hT
      clear hD hTh hT
      go_wp2_with (fail)
      refine (crash_any_c gf gmf _ e1 _ none [] 0 (-3) _ (hM.at_ 0 rfl) e1_ok (by omega) (fun _ _ => .inl rfl) (by decide) ⟨by omega, by omega⟩).mono ?_
      rintro e w42 ⟨v42, rfl, hD, hTh, hT⟩
      replace hM : Many w w42 [⟨gf, gmf, v42, (e1.crash [] (-3))⟩, ⟨ge, gme, v39, (e1.crash [] 999)⟩] := hM.set 0 rfl hD hTh hT
      clear hD hTh hT
      go_wp2_with (fail)
      refine (platter_c ge gme _ (e1.crash [] 999) 1 _ (hM.at_ 1 rfl) ⟨by omega, by omega⟩).mono ?_
      rintro e w43 ⟨rfl, hb⟩
      rw [show Dk.plat ((e1.crash [] 999)) 1 = sX ++ zs 511 from e_plat]
      replace hM := hM.below hb
      clear hb
      go_wp2_with (fail)
      refine (zeros_c 511 _ (by omega)).mono ?_
      rintro e w44 ⟨rfl, hb⟩
      replace hM := hM.below hb
      clear hb
      have hz := zs_size 511
      go_wp2_with (fail)
      refine (platter_c gf gmf _ (e1.crash [] (-3)) 1 _ (hM.at_ 0 rfl) ⟨by omega, by omega⟩).mono ?_
      rintro e w45 ⟨rfl, hb⟩
      rw [show Dk.plat ((e1.crash [] (-3))) 1 = zs 512 from f_plat]
      replace hM := hM.below hb
      clear hb
      go_wp2_with (fail)
      refine (zeros_c 512 _ (by omega)).mono ?_
      rintro e w46 ⟨rfl, hb⟩
      replace hM := hM.below hb
      clear hb
      have hz := zs_size 512
      go_wp2_with (fail)
      refine (read_c ge gme _ (e1.crash [] 999) 1 _ (hM.at_ 1 rfl) ⟨by omega, by omega⟩ (by have := (e1_ok.crash [] 999).len; omega)).mono ?_
      rintro e w47 ⟨rfl, hb⟩
      rw [show Dk.read ((e1.crash [] 999)) 1 = ⟨#[]⟩ from rfl]
      replace hM := hM.below hb
      clear hb
      go_wp2
      go_ret
      exact ⟨rfl, hM.b⟩
set_option maxRecDepth 100000 in
theorem diskNames_lifted (os : Os) (started : os.Started) (H : Type) (enc : TypeId × Value → H) :
    ReturnsInHanded {} Try.checked os 7 .any (Rows.diskNamesSpec.pre6 enc Try.prog Try.f7 Rows.diskNamesRow.domain false) (Rows.diskNamesSpec.post enc Try.prog Try.f7 false true false false) := by
  haveI : DecidableEq Lit := fun a b => Classical.propDecidable (a = b)
  refine returnsInHanded_of_change (C := Try.checked) Try.own started (by kernel_rfl) Try.func7
    (ChangeSpec.witness6 (enc := enc) (C := Try.checked) false ⟨#[], #[], []⟩ 8 (by kernel_rfl) (by kernel_rfl) (by kernel_rfl) (by kernel_rfl)) ?_
  intro W base args ds gs before hval0 hW hcnd _
  have hW' := hW
  obtain ⟨p, q, hA0, hV, rfl, hfz, hnd⟩ := hW
  have hA : DataW.TrodAll enc Try.prog W 0 (fun _ => true) true Try.f7.params.toList args.toList ds p := hA0
  rw [Try.params7] at hA
  obtain ⟨rfl, rfl⟩ := trodVars_none hV
  obtain ⟨l⟩ := args
  obtain ⟨rfl, rfl, rfl⟩ := trodAll_end hA
  clear hA0 hval0
  refine (diskNames_c W).mono fun e W' ⟨he, hb⟩ => ?_
  subst he
  exact ⟨_, rfl, post_true hW' hb Try.laidOut (by kernel_rfl) rfl rfl rfl rfl rfl Try.underlying4⟩

theorem diskNames_holds : Rows.DiskNamesSaid :=
  OpenClaim.holds_of_wide 7 Try.f7 rfl rfl rfl rfl rfl rfl rfl ⟨rfl, rfl, rfl, rfl, rfl⟩ rfl rfl rfl rfl rfl (by kernel_rfl) Try.func7 (by kernel_rfl)
    (of_decide_eq_true (by kernel_rfl)) (by unfold Func.isWrapper; first | (rw [if_pos (by decide +kernel)]; kernel_rfl) | (rw [if_neg (by decide +kernel)]; exact ⟨rfl, rfl⟩))
    (fun os started H enc _ => diskNames_lifted os started H enc)
#print axioms diskNames_holds
end Go.Proofs.Ytnniiokpngdgkaa
