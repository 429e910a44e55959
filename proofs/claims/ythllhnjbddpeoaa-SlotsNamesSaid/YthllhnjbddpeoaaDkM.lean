/-
  The examples of layer 10.
-/
import Derived.Test.YthllhnjbddpeoaaDkL
namespace Go.Proofs.Ythllhnjbddpeoaa
open Go.RowKit Go.Maps Go.Shelf Go.Proofs

theorem zs_data (n : Nat) : (zs n).data.toList = List.replicate n 0 := rfl
theorem bytes_ext {a b : ByteArray} (h : a.data.toList = b.data.toList) : a = b := by
  apply ByteArray.ext
  exact Array.ext' h
theorem cut_data (s t : ByteArray) (n : Nat) : (cut s t n).data.toList = s.data.toList.take n ++ (t.data.toList.take 512).drop n := by
  unfold cut
  simp only [ByteArray.data_append, ByteArray.data_extract, Array.toList_append, Array.toList_extract, List.extract_eq_take_drop, List.drop_zero, Nat.sub_zero]
  rw [List.drop_take]
theorem pad_data (s : ByteArray) : (pad s).data.toList = s.data.toList ++ List.replicate (512 - s.size) 0 := by
  unfold pad
  simp [zs]
theorem blk_data : blk.data.toList = List.replicate 512 0 := rfl

abbrev sAB : ByteArray := ⟨#[97, 98]⟩
abbrev sX : ByteArray := ⟨#[120]⟩
def k1 : Dk := dk0.write 3 sAB
def k2 : Dk := k1.crash [] 1
def k4 : Dk := k2.start.fuse 1
def k5 : Dk := k4.write 0 sX
def k6 : Dk := k5.sync
def k7 : Dk := k6.start
def k8 : Dk := k7.write 0 (zs 513)
theorem k1_eq : k1 = ⟨[], [⟨3, pad sAB⟩], false, 0, false⟩ := rfl
theorem k1_ok : k1.Ok 1 := dk0_ok.write 3 sAB
theorem k1_read : k1.read 3 = sAB ++ zs 510 := rfl
theorem k1_plat : k1.plat 3 = zs 512 := rfl
theorem k1_uses : Uses k1 [3] := by
  refine ⟨List.pairwise_singleton _ _, fun a => ?_⟩
  rw [k1_eq]
  simp [eq_comm]
theorem cut_ab : cut (pad sAB) blk 1 = ⟨#[97]⟩ ++ zs 511 := by
  apply bytes_ext
  rw [cut_data, pad_data, blk_data, List.take_of_length_le (l := List.replicate 512 (0 : UInt8)) (by rw [List.length_replicate]; omega), List.drop_replicate]
  simp only [ByteArray.data_append, Array.toList_append, zs_data]
  rfl
theorem ab_ne : cut (pad sAB) blk 1 ≠ blk := by
  rw [cut_ab]
  intro e
  have := congrArg (fun s : ByteArray => s.data.toList.head?) e
  simp only [ByteArray.data_append, Array.toList_append, blk_data] at this
  change some 97 = (List.replicate (511 + 1) (0 : UInt8)).head? at this
  rw [List.replicate_succ] at this
  exact absurd (Option.some.inj this) (by decide)
theorem k2_eq : k2 = ⟨[⟨3, cut (pad sAB) blk 1⟩], [], false, 0, true⟩ := by
  unfold k2
  rw [k1_eq]
  have h1 : (clamp 1).toNat = 1 := by decide
  simp [Dk.crash, h1, crashS, setP, getP, ab_ne]
theorem k2_plat : k2.plat 3 = ⟨#[97]⟩ ++ zs 511 := by
  rw [k2_eq, ← cut_ab]
  simp [Dk.plat, getP, isS]
theorem k2_ok : k2.Ok 1 := k1_ok.crash [] 1
theorem k4_ok : k4.Ok 1 := k2_ok.start.fuse_ ⟨by omega, by omega⟩
theorem k4_eq : k4 = ⟨[⟨3, cut (pad sAB) blk 1⟩], [], true, 1, false⟩ := by unfold k4; rw [k2_eq]; rfl
theorem k5_ok : k5.Ok 2 := k4_ok.write 0 sX
theorem k5_eq : k5 = ⟨[⟨3, cut (pad sAB) blk 1⟩], [⟨0, pad sX⟩], true, 0, false⟩ := by unfold k5; rw [k4_eq]; rfl
theorem k6_ok : k6.Ok 2 := k5_ok.sync
theorem k6_eq : k6 = ⟨[⟨3, cut (pad sAB) blk 1⟩], [⟨0, pad sX⟩], true, 0, true⟩ := by unfold k6; rw [k5_eq]; rfl
theorem k7_ok : k7.Ok 2 := k6_ok.start
theorem k7_eq : k7 = ⟨[⟨3, cut (pad sAB) blk 1⟩], [⟨0, pad sX⟩], false, 0, false⟩ := by unfold k7; rw [k6_eq]; rfl
theorem k8_ok : k8.Ok 3 := k7_ok.write 0 (zs 513)
theorem k8_eq : k8 = k7 := by unfold k8; rw [k7_eq]; simp [Dk.write, isS, zs_size]

theorem Base.dr {w0 w w' : World} {g gm : Nat} {v : Value} (h : Base w0 w g gm v) (hd : Dr w w') : Base w0 w' g gm v := ⟨below_dr h.b hd, h.g, h.gm, h.v⟩

set_option maxRecDepth 100000 in
set_option maxHeartbeats 2000000 in
theorem works_c (w : World) [DecidableEq Lit] : Calls Try.prog 15 #[] w fun e w' => e = .returned (.bool true) ∧ Below w.heap.size w w' := by
  have z0 : ((0 : Int) != 0) = false := rfl
  have z42 : ((42 : Int) != 42) = false := rfl
  have q10 : ((10 : Int) == 10) = true := rfl
  have q1 : ((1 : Int) == 1) = true := rfl
  go_enter Try.func15, Try.ntmps15
  go_wp2_with (fail)
  refine (dnew_c w).mono ?_
  rintro e w1 ⟨g, gm, rfl, hD, hg, hgm, hb⟩
  have hB : Base w w1 g gm (.slice none 0 0) := ⟨hb, hg, hgm, (fun b h => by cases h)⟩
  clear hb hg hgm
  go_wp2_with (fail)
  refine (write_c g gm _ dk0 0 3 sAB _ hD dk0_ok (by omega) ⟨by omega, by omega⟩ (by decide)).mono ?_
  rintro e w2 ⟨v1, rfl, hD, hTh, hT⟩
  replace hB := hB.step hTh hT
  rw [show dk0.writeE 3 sAB = 0 from rfl]
  change Dsk w2 g gm v1 k1 at hD
  clear hTh hT
  go_wp2_with (fail)
  refine (read_c g gm _ k1 3 _ hD ⟨by omega, by omega⟩ (by have := k1_ok.len; omega)).mono ?_
  rintro e w3 ⟨rfl, hb⟩
  rw [k1_read]
  replace hD := hD.below hb
  replace hB := hB.below hb
  clear hb
  go_wp2_with (fail)
  refine (zeros_c 510 _ (by omega)).mono ?_
  rintro e w4 ⟨rfl, hb⟩
  replace hD := hD.below hb
  replace hB := hB.below hb
  clear hb
  have h510 := zs_size 510
  go_wp2_with (fail)
  refine (platter_c g gm _ k1 3 _ hD ⟨by omega, by omega⟩).mono ?_
  rintro e w5 ⟨rfl, hb⟩
  rw [k1_plat]
  replace hD := hD.below hb
  replace hB := hB.below hb
  clear hb
  go_wp2_with (fail)
  refine (zeros_c 512 _ (by omega)).mono ?_
  rintro e w6 ⟨rfl, hb⟩
  replace hD := hD.below hb
  replace hB := hB.below hb
  clear hb
  go_wp2_with (fail)
  refine (used_c g gm _ k1 1 _ hD k1_ok (by omega)).mono ?_
  rintro e w7 ⟨v', us, rfl, hu, hO, hb⟩
  obtain rfl := uses_eq hu k1_uses
  obtain ⟨A7, cap7, rfl, hc7⟩ := hO.cellsI
  replace hD := hD.below hb
  replace hB := hB.below hb
  clear hb hu hO
  have hr8 := row1_new w7 [.int .i64 3] 3
  have hb8 := below_alloc w7 (.cells #[.int .i64 3] 3)
  replace hc7 := Cells.below hc7 hb8
  replace hD := hD.below hb8
  replace hB := hB.below hb8
  clear hb8
  go_wp2_with (fail)
  refine (ints_c A7 _ [3] [3] cap7 1 _ hc7 hr8.cells (by decide) (by decide)).mono ?_
  rintro e w8 ⟨rfl, hd8⟩
  rw [show decide (([3] : List Int) = [3]) = true from rfl]
  replace hD := hD.dr hd8
  replace hB := hB.dr hd8
  clear hc7 hr8 hd8
  go_wp2_with (fail)
  refine (crash_c w g gm _ k1 1 none [] 0 1 _ hD k1_ok (by omega) hB (.inl rfl) (by decide) ⟨by omega, by omega⟩).mono ?_
  rintro e w9 ⟨v2, rfl, hD, hTh, hT⟩
  replace hB := hB.step hTh hT
  change Dsk w9 g gm v2 k2 at hD
  clear hTh hT
  go_wp2_with (fail)
  refine (platter_c g gm _ k2 3 _ hD ⟨by omega, by omega⟩).mono ?_
  rintro e w10 ⟨rfl, hb⟩
  rw [k2_plat]
  replace hD := hD.below hb
  replace hB := hB.below hb
  clear hb h510
  go_wp2_with (fail)
  refine (zeros_c 511 _ (by omega)).mono ?_
  rintro e w11 ⟨rfl, hb⟩
  replace hD := hD.below hb
  replace hB := hB.below hb
  have h511 := zs_size 511
  clear hb
  go_wp2_with (fail)
  refine (dead_c g gm _ k2 _ hD).mono ?_
  rintro e _ ⟨rfl, rfl⟩
  rw [show k2.de = true by rw [k2_eq]]
  go_wp2_with (fail)
  refine (start_c g gm _ k2 _ hD).mono ?_
  rintro e w12 ⟨rfl, hD, hT⟩
  replace hB := hB.step Then.refl hT
  clear hT h511
  go_wp2_with (fail)
  refine (fuse_c g gm _ k2.start 1 _ hD ⟨by omega, by omega⟩).mono ?_
  rintro e w13 ⟨rfl, hD, hT⟩
  replace hB := hB.step Then.refl hT
  change Dsk w13 g gm v2 k4 at hD
  clear hT
  go_wp2_with (fail)
  refine (dead_c g gm _ k4 _ hD).mono ?_
  rintro e _ ⟨rfl, rfl⟩
  rw [show k4.de = false by rw [k4_eq]]
  go_wp2_with (fail)
  refine (write_c g gm _ k4 1 0 sX _ hD k4_ok (by omega) ⟨by omega, by omega⟩ (by decide)).mono ?_
  rintro e w14 ⟨v3, rfl, hD, hTh, hT⟩
  replace hB := hB.step hTh hT
  rw [show k4.writeE 0 sX = 0 by rw [k4_eq]; rfl]
  change Dsk w14 g gm v3 k5 at hD
  clear hTh hT
  go_wp2_with (fail)
  refine (sync_c g gm _ k5 2 _ hD k5_ok (by omega)).mono ?_
  rintro e w15 ⟨v4, rfl, hD, hTh, hT⟩
  replace hB := hB.step hTh hT
  rw [show k5.syncE = 42 by rw [k5_eq]; rfl]
  change Dsk w15 g gm v4 k6 at hD
  clear hTh hT
  go_wp2_with (fail)
  refine (read_c g gm _ k6 0 _ hD ⟨by omega, by omega⟩ (by have := k6_ok.len; omega)).mono ?_
  rintro e w16 ⟨rfl, hb⟩
  rw [show k6.read 0 = ⟨#[]⟩ by rw [k6_eq]; rfl]
  replace hD := hD.below hb
  replace hB := hB.below hb
  clear hb
  go_wp2_with (fail)
  refine (start_c g gm _ k6 _ hD).mono ?_
  rintro e w17 ⟨rfl, hD, hT⟩
  replace hB := hB.step Then.refl hT
  change Dsk w17 g gm v4 k7 at hD
  clear hT
  go_wp2_with (fail)
  refine (zeros_c 513 _ (by omega)).mono ?_
  rintro e w18 ⟨rfl, hb⟩
  replace hD := hD.below hb
  replace hB := hB.below hb
  clear hb
  go_wp2_with (fail)
  refine (write_c g gm _ k7 2 0 (zs 513) _ hD k7_ok (by omega) ⟨by omega, by omega⟩ (by rw [zs_size]; omega)).mono ?_
  rintro e w19 ⟨v5, rfl, hD, hTh, hT⟩
  replace hB := hB.step hTh hT
  rw [show k7.writeE 0 (zs 513) = 10 by rw [k7_eq]; simp [Dk.writeE, isS, zs_size]]
  change Dsk w19 g gm v5 k8 at hD
  clear hTh hT
  go_wp2_with (fail)
  refine (write_c g gm _ k8 3 65536 ⟨#[]⟩ _ hD k8_ok (by omega) ⟨by omega, by omega⟩ (by decide)).mono ?_
  rintro e w20 ⟨v6, rfl, hD, hTh, hT⟩
  replace hB := hB.step hTh hT
  rw [show k8.writeE 65536 ⟨#[]⟩ = 1 by rw [k8_eq, k7_eq]; rfl]
  clear hTh hT
  go_wp2
  go_ret
  exact ⟨rfl, hB.b⟩
end Go.Proofs.Ythllhnjbddpeoaa
