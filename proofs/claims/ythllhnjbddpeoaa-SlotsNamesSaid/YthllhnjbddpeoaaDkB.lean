/-
  A disk's platter: a sector is set; what a sector has.
-/
import Derived.Test.YthllhnjbddpeoaaDkA
import Derived.Test.YthllhnjbddpeoaaWaysD
import Derived.Deep.Cut
namespace Go.Proofs.Ythllhnjbddpeoaa
open Go.RowKit Go.Maps

theorem setP_map {P : List Pt} {p : Pt} [DecidableEq Lit] : (P.filter fun c => decide (dM.key c ≠ dM.key p)) = P.filter fun c => decide (c.1 ≠ p.1) :=
  List.filter_congr fun c _ => by simp [dM]
theorem str_iff {a b : ByteArray} : (a.toList == b.toList) = true ↔ a = b := by
  rw [beq_iff_eq, ByteArray.toList_eq, ByteArray.toList_eq]
  constructor
  · intro h
    cases a; cases b
    simp at h
    rw [h]
  · rintro rfl; rfl
theorem str_no {a b : ByteArray} : (a.toList == b.toList) = false ↔ a ≠ b := by
  rw [← Bool.not_eq_true, str_iff]
theorem Dsk.map_turn {w w' : World} {g gm : Nat} {v : Value} {d : Dk} {P' : List Pt} (h : Dsk w g gm v d) (hm : MapAt dM w' gm P') (hg : w.grownBy w' (some gm)) : Dsk w' g gm v { d with P := P' } :=
  ⟨h.row.but hg h.lt.2.2, hm, h.own.keep fun b e => hg.block b (h.vlt e).1 fun e1 => (h.vlt e).2.2 (Option.some.inj e1)⟩
theorem MapAt.ok_all {w : World} {b : Nat} {L : List Pt} (h : MapAt dM w b L) {p : Pt} (hp : p ∈ L) : I64 p.1 := h.ok p hp

set_option maxRecDepth 100000 in
set_option maxHeartbeats 1000000 in
theorem set_c (g gm : Nat) (v : Value) (d : Dk) (p : Pt) (w : World) (h : Dsk w g gm v d) (hp : I64 p.1) (hl : d.P.length ≤ 1000000) [DecidableEq Lit] :
    Calls Try.prog 68 #[.pointer (some ⟨g, 0, none⟩), pval p] w fun e w' => e = .returned (.tuple #[]) ∧ Dsk w' g gm v { d with P := setP d.P p } ∧ Tch w w' g gm v := by
  have HL := hid hl
  have HP := hid hp
  clear hl hp
  go_enter Try.func68, Try.ntmps68
  go_wp2
  have hRow := row1_new w (pcl p) 80
  have hB0 := below_alloc w (.cells (pcl p).toArray 80)
  simp only [List.toArray] at hRow hB0
  have hD := h.below hB0
  have hTc : Tch w (w.alloc (.cells #[.int .i64 p.1, .string p.2] 80)) g gm v := .of_below hB0
  have hgp : w.heap.size ≠ g := by have := h.lt; omega
  clear h hB0
  generalize w.alloc _ = w1 at *
  generalize w.heap.size = gp at *
  refine Rgd.wp_region (l := [_, _, _]) (tail := [_]) (Rgd.keep w1 [] [(0, 0), (0, 0), (0, 0)]) [some 4, some 5, some 6, some 7] 22 rfl [[], [0], []] (by kernel_rfl) (by kernel_rfl) (by kernel_rfl) (by kernel_rfl) (by kernel_rfl) rfl (Rgd.keep_fair) (Rgd.keep_start _) ?_
  refine' Rgd.op_is _ [] 0 0 rfl rfl rfl (by kernel_rfl) ?_ ?_
  rotate_left
  · intro p wx hp1 hp2 hb
    obtain rfl : p = 0 := by omega
    refine Rgd.from_nil fun T hT => ?_
    go_wp2
    refine hT _ _ rfl (by first | exact Rgd.Keep.refl _ | exact below_of_dr hw2 | exact hw2 | exact (Below.refl _ _).alloc (Nat.le_refl _) _) ?_
    simp only [Rgd.last, List.getElem?_toArray, List.getElem?_cons_succ, List.getElem?_cons_zero, Option.getD_some]
    rfl
  refine' Rgd.op_is _ [0] 0 0 rfl rfl rfl (by kernel_rfl) ?_ ?_
  rotate_left
  · intro p wx hp1 hp2 hb
    obtain rfl : p = 0 := by omega
    refine Rgd.from_is (some 4) rfl rfl ?_
    refine Rgd.from_nil fun T hT => ?_
    have c1 := (hRow.below hb).cell (k := 1) rfl
    go_wp2
    refine hT _ _ rfl (by first | exact Rgd.Keep.refl _ | exact below_of_dr hw2 | exact hw2 | exact (Below.refl _ _).alloc (Nat.le_refl _) _) ?_
    simp only [Rgd.last, List.getElem?_toArray, List.getElem?_cons_succ, List.getElem?_cons_zero, Option.getD_some]
    rfl
  refine Rgd.op_is (.string blk) [] 0 0 rfl rfl rfl (by kernel_rfl) ?_ ?_
  · intro p wx hp1 hp2 hb
    obtain rfl : p = 0 := by omega
    refine Rgd.from_nil fun T hT => ?_
    go_wp2_with (fail)
    refine (blank_c _).mono ?_
    rintro e wy ⟨rfl, hk⟩
    go_wp2
    exact hT _ _ rfl hk rfl
  refine Rgd.walk_nil [0, 1, 2] (by kernel_rfl) ?_
  intro wx hb
  refine Rgd.from_is (some 4) rfl rfl ?_
  refine Rgd.from_is (some 5) rfl rfl ?_
  refine Rgd.from_is (some 6) rfl rfl ?_
  refine Rgd.from_nil ?_
  simp only [List.map, Act.put, List.setIfInBounds_toArray, List.set_cons_zero, List.set_cons_succ]
  have hD2 := hD.below hb
  have hTc2 := hTc.next hb
  have hRow2 := hRow.below hb
  clear hb hD hTc hRow
  go_wp2
  · have hpb : p.2 = blk := str_iff.1 (by assumption)
    have e1 : setP d.P p = d.P.filter fun c => decide (c.1 ≠ p.1) := by unfold setP; rw [if_pos hpb]
    have E1 := hid e1
    clear e1 hpb
    refine Rgd.wp_region (l := [_, _, _, _, _, _]) (tail := [_]) (Rgd.keep wx [] [(0, 0), (0, 0), (0, 0), (0, 0), (0, 0), (0, 0)]) [some 8, some 9, some 10, some 11, some 12, some 13, none] 22 rfl [[], [0], [0, 1], [0, 1, 2], [], [4]] (by kernel_rfl) (by kernel_rfl) (by kernel_rfl) (by kernel_rfl) (by kernel_rfl) rfl (Rgd.keep_fair) (Rgd.keep_start _) ?_
    refine' Rgd.op_is _ [] 0 0 rfl rfl rfl (by kernel_rfl) ?_ ?_
    rotate_left
    · intro p wx hp1 hp2 hb
      obtain rfl : p = 0 := by omega
      refine Rgd.from_nil fun T hT => ?_
      go_wp2
      refine hT _ _ rfl (by first | exact Rgd.Keep.refl _ | exact below_of_dr hw2 | exact hw2 | exact (Below.refl _ _).alloc (Nat.le_refl _) _) ?_
      simp only [Rgd.last, List.getElem?_toArray, List.getElem?_cons_succ, List.getElem?_cons_zero, Option.getD_some]
      rfl
    refine' Rgd.op_is _ [0] 0 0 rfl rfl rfl (by kernel_rfl) ?_ ?_
    rotate_left
    · intro p wx hp1 hp2 hb
      obtain rfl : p = 0 := by omega
      refine Rgd.from_is (some 8) rfl rfl ?_
      refine Rgd.from_nil fun T hT => ?_
      go_wp2
      refine hT _ _ rfl (by first | exact Rgd.Keep.refl _ | exact below_of_dr hw2 | exact hw2 | exact (Below.refl _ _).alloc (Nat.le_refl _) _) ?_
      simp only [Rgd.last, List.getElem?_toArray, List.getElem?_cons_succ, List.getElem?_cons_zero, Option.getD_some]
      rfl
    refine' Rgd.op_is _ [1] 0 0 rfl rfl rfl (by kernel_rfl) ?_ ?_
    rotate_left
    · intro p wx hp1 hp2 hb
      obtain rfl : p = 0 := by omega
      refine Rgd.from_is (some 9) rfl rfl ?_
      refine Rgd.from_nil fun T hT => ?_
      go_wp2
      refine hT _ _ rfl (by first | exact Rgd.Keep.refl _ | exact below_of_dr hw2 | exact hw2 | exact (Below.refl _ _).alloc (Nat.le_refl _) _) ?_
      simp only [Rgd.last, List.getElem?_toArray, List.getElem?_cons_succ, List.getElem?_cons_zero, Option.getD_some]
      rfl
    refine' Rgd.op_is _ [2] 0 0 rfl rfl rfl (by kernel_rfl) ?_ ?_
    rotate_left
    · intro p wx hp1 hp2 hb
      obtain rfl : p = 0 := by omega
      refine Rgd.from_is (some 10) rfl rfl ?_
      refine Rgd.from_nil fun T hT => ?_
      obtain ⟨c0, -, -, -, -⟩ := (hD2.below hb).cells
      go_wp2
      refine hT _ _ rfl (by first | exact Rgd.Keep.refl _ | exact below_of_dr hw2 | exact hw2 | exact (Below.refl _ _).alloc (Nat.le_refl _) _) ?_
      simp only [Rgd.last, List.getElem?_toArray, List.getElem?_cons_succ, List.getElem?_cons_zero, Option.getD_some]
      rfl
    refine' Rgd.op_is _ [] 0 0 rfl rfl rfl (by kernel_rfl) ?_ ?_
    rotate_left
    · intro p wx hp1 hp2 hb
      obtain rfl : p = 0 := by omega
      refine Rgd.from_nil fun T hT => ?_
      go_wp2
      refine hT _ _ rfl (by first | exact Rgd.Keep.refl _ | exact below_of_dr hw2 | exact hw2 | exact (Below.refl _ _).alloc (Nat.le_refl _) _) ?_
      simp only [Rgd.last, List.getElem?_toArray, List.getElem?_cons_succ, List.getElem?_cons_zero, Option.getD_some]
      rfl
    refine' Rgd.op_is _ [4] 0 0 rfl rfl rfl (by kernel_rfl) ?_ ?_
    rotate_left
    · intro p wx hp1 hp2 hb
      obtain rfl : p = 0 := by omega
      refine Rgd.from_is (some 12) rfl rfl ?_
      refine Rgd.from_nil fun T hT => ?_
      have c0 := (hRow2.below hb).cell (k := 0) rfl
      go_wp2
      refine hT _ _ rfl (by first | exact Rgd.Keep.refl _ | exact below_of_dr hw2 | exact hw2 | exact (Below.refl _ _).alloc (Nat.le_refl _) _) ?_
      simp only [Rgd.last, List.getElem?_toArray, List.getElem?_cons_succ, List.getElem?_cons_zero, Option.getD_some]
      rfl
    refine Rgd.walk_nil [0, 1, 2, 3, 4, 5] (by kernel_rfl) ?_
    intro wx hb
    refine Rgd.from_is (some 8) rfl rfl ?_
    refine Rgd.from_is (some 9) rfl rfl ?_
    refine Rgd.from_is (some 10) rfl rfl ?_
    refine Rgd.from_is (some 11) rfl rfl ?_
    refine Rgd.from_is (some 12) rfl rfl ?_
    refine Rgd.from_is (some 13) rfl rfl ?_
    refine Rgd.from_nil ?_
    simp only [List.map, Act.put, List.setIfInBounds_toArray, List.set_cons_zero, List.set_cons_succ]
    have hD3 := hD2.below hb
    have hTc3 := hTc2.next hb
    refine wpList_drop_tab _ rfl _ _ _ (by rfl) 9 Try.underlying82 (by rfl) hD3.map (kv := .int .i64 p.1) (by rfl) (keyOf_int_mk Try.underlying3 (wf_i64 HP.out)) ?_
    intro w4 hm4 hg4
    have hD4 := hD3.map_turn hm4 hg4
    have hT4 := hTc3.grown hg4 (.inr (.inl rfl))
    rw [show (d.P.filter fun c => decide (dM.key c ≠ Lit.int .i64 p.1)) = d.P.filter fun c => decide (c.1 ≠ p.1) from setP_map, ← E1.out] at hD4
    clear hD3 hTc3 hm4 hg4 hb
    go_frame
    go_wp2
    refine bodyPost_ret (results_none rfl _ _ _) rfl ?_
    exact ⟨rfl, hD4, hT4⟩
  · have hpb : p.2 ≠ blk := str_no.1 (by assumption)
    have e1 : setP d.P p = p :: d.P.filter fun c => decide (c.1 ≠ p.1) := by unfold setP; rw [if_neg hpb]
    have E1 := hid e1
    clear e1 hpb
    refine Rgd.wp_region (l := [_, _, _, _, _, _, _, _]) (tail := [_]) (Rgd.keep wx [] [(0, 0), (0, 0), (0, 0), (0, 0), (0, 0), (0, 0), (0, 0), (0, 0)]) [some 14, some 15, some 16, some 17, some 18, some 19, some 20, some 21, none] 22 rfl [[], [0], [0, 1], [0, 1, 2], [], [4], [], [6]] (by kernel_rfl) (by kernel_rfl) (by kernel_rfl) (by kernel_rfl) (by kernel_rfl) rfl (Rgd.keep_fair) (Rgd.keep_start _) ?_
    refine' Rgd.op_is _ [] 0 0 rfl rfl rfl (by kernel_rfl) ?_ ?_
    rotate_left
    · intro p wx hp1 hp2 hb
      obtain rfl : p = 0 := by omega
      refine Rgd.from_nil fun T hT => ?_
      go_wp2
      refine hT _ _ rfl (by first | exact Rgd.Keep.refl _ | exact below_of_dr hw2 | exact hw2 | exact (Below.refl _ _).alloc (Nat.le_refl _) _) ?_
      simp only [Rgd.last, List.getElem?_toArray, List.getElem?_cons_succ, List.getElem?_cons_zero, Option.getD_some]
      rfl
    refine' Rgd.op_is _ [0] 0 0 rfl rfl rfl (by kernel_rfl) ?_ ?_
    rotate_left
    · intro p wx hp1 hp2 hb
      obtain rfl : p = 0 := by omega
      refine Rgd.from_is (some 14) rfl rfl ?_
      refine Rgd.from_nil fun T hT => ?_
      go_wp2
      refine hT _ _ rfl (by first | exact Rgd.Keep.refl _ | exact below_of_dr hw2 | exact hw2 | exact (Below.refl _ _).alloc (Nat.le_refl _) _) ?_
      simp only [Rgd.last, List.getElem?_toArray, List.getElem?_cons_succ, List.getElem?_cons_zero, Option.getD_some]
      rfl
    refine' Rgd.op_is _ [1] 0 0 rfl rfl rfl (by kernel_rfl) ?_ ?_
    rotate_left
    · intro p wx hp1 hp2 hb
      obtain rfl : p = 0 := by omega
      refine Rgd.from_is (some 15) rfl rfl ?_
      refine Rgd.from_nil fun T hT => ?_
      go_wp2
      refine hT _ _ rfl (by first | exact Rgd.Keep.refl _ | exact below_of_dr hw2 | exact hw2 | exact (Below.refl _ _).alloc (Nat.le_refl _) _) ?_
      simp only [Rgd.last, List.getElem?_toArray, List.getElem?_cons_succ, List.getElem?_cons_zero, Option.getD_some]
      rfl
    refine' Rgd.op_is _ [2] 0 0 rfl rfl rfl (by kernel_rfl) ?_ ?_
    rotate_left
    · intro p wx hp1 hp2 hb
      obtain rfl : p = 0 := by omega
      refine Rgd.from_is (some 16) rfl rfl ?_
      refine Rgd.from_nil fun T hT => ?_
      obtain ⟨c0, -, -, -, -⟩ := (hD2.below hb).cells
      go_wp2
      refine hT _ _ rfl (by first | exact Rgd.Keep.refl _ | exact below_of_dr hw2 | exact hw2 | exact (Below.refl _ _).alloc (Nat.le_refl _) _) ?_
      simp only [Rgd.last, List.getElem?_toArray, List.getElem?_cons_succ, List.getElem?_cons_zero, Option.getD_some]
      rfl
    refine' Rgd.op_is _ [] 0 0 rfl rfl rfl (by kernel_rfl) ?_ ?_
    rotate_left
    · intro p wx hp1 hp2 hb
      obtain rfl : p = 0 := by omega
      refine Rgd.from_nil fun T hT => ?_
      go_wp2
      refine hT _ _ rfl (by first | exact Rgd.Keep.refl _ | exact below_of_dr hw2 | exact hw2 | exact (Below.refl _ _).alloc (Nat.le_refl _) _) ?_
      simp only [Rgd.last, List.getElem?_toArray, List.getElem?_cons_succ, List.getElem?_cons_zero, Option.getD_some]
      rfl
    refine' Rgd.op_is _ [4] 0 0 rfl rfl rfl (by kernel_rfl) ?_ ?_
    rotate_left
    · intro p wx hp1 hp2 hb
      obtain rfl : p = 0 := by omega
      refine Rgd.from_is (some 18) rfl rfl ?_
      refine Rgd.from_nil fun T hT => ?_
      have c0 := (hRow2.below hb).cell (k := 0) rfl
      go_wp2
      refine hT _ _ rfl (by first | exact Rgd.Keep.refl _ | exact below_of_dr hw2 | exact hw2 | exact (Below.refl _ _).alloc (Nat.le_refl _) _) ?_
      simp only [Rgd.last, List.getElem?_toArray, List.getElem?_cons_succ, List.getElem?_cons_zero, Option.getD_some]
      rfl
    refine' Rgd.op_is _ [] 0 0 rfl rfl rfl (by kernel_rfl) ?_ ?_
    rotate_left
    · intro p wx hp1 hp2 hb
      obtain rfl : p = 0 := by omega
      refine Rgd.from_nil fun T hT => ?_
      go_wp2
      refine hT _ _ rfl (by first | exact Rgd.Keep.refl _ | exact below_of_dr hw2 | exact hw2 | exact (Below.refl _ _).alloc (Nat.le_refl _) _) ?_
      simp only [Rgd.last, List.getElem?_toArray, List.getElem?_cons_succ, List.getElem?_cons_zero, Option.getD_some]
      rfl
    refine' Rgd.op_is _ [6] 0 0 rfl rfl rfl (by kernel_rfl) ?_ ?_
    rotate_left
    · intro p wx hp1 hp2 hb
      obtain rfl : p = 0 := by omega
      refine Rgd.from_is (some 20) rfl rfl ?_
      refine Rgd.from_nil fun T hT => ?_
      have c0 := (hRow2.below hb).cell (k := 1) rfl
      go_wp2
      refine hT _ _ rfl (by first | exact Rgd.Keep.refl _ | exact below_of_dr hw2 | exact hw2 | exact (Below.refl _ _).alloc (Nat.le_refl _) _) ?_
      simp only [Rgd.last, List.getElem?_toArray, List.getElem?_cons_succ, List.getElem?_cons_zero, Option.getD_some]
      rfl
    refine Rgd.walk_nil [0, 1, 2, 3, 4, 5, 6, 7] (by kernel_rfl) ?_
    intro wx hb
    refine Rgd.from_is (some 14) rfl rfl ?_
    refine Rgd.from_is (some 15) rfl rfl ?_
    refine Rgd.from_is (some 16) rfl rfl ?_
    refine Rgd.from_is (some 17) rfl rfl ?_
    refine Rgd.from_is (some 18) rfl rfl ?_
    refine Rgd.from_is (some 19) rfl rfl ?_
    refine Rgd.from_is (some 20) rfl rfl ?_
    refine Rgd.from_is (some 21) rfl rfl ?_
    refine Rgd.from_nil ?_
    simp only [List.map, Act.put, List.setIfInBounds_toArray, List.set_cons_zero, List.set_cons_succ]
    have hD3 := hD2.below hb
    have hTc3 := hTc2.next hb
    refine wpList_store_tab _ rfl _ _ _ _ (by rfl) 9 Try.underlying82 (by rfl) hD3.map (by have := HL.out; unfold maxLen; omega) (u := p) HP.out (by rfl) (by rfl) ?_
    intro w4 hm4 hg4
    have hD4 := hD3.map_turn hm4 hg4
    have hT4 := hTc3.grown hg4 (.inr (.inl rfl))
    rw [setP_map, ← E1.out] at hD4
    clear hD3 hTc3 hm4 hg4 hb
    go_wp2
    go_end0
    exact ⟨rfl, hD4, hT4⟩
end Go.Proofs.Ythllhnjbddpeoaa
