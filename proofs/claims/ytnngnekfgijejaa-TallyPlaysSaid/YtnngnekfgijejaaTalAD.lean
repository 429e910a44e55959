/-
  Is a tally like the document's? Each answer is compared; what was told is spoilt.
-/
import Derived.Test.YtnngnekfgijejaaTalAC
namespace Go.Proofs.Ytnngnekfgijejaa
open Go.RowKit Go.Maps Go.Shelf Go.Proofs

/-- a row of so many cells. -/
def Blk (w : World) (g : Nat) (ty : TypeId) (q : Nat) : Prop := ∃ cur, w.heap[g]? = some (.cells cur ty (0, 0)) ∧ cur.size = q
theorem Blk.cell {w : World} {g q : Nat} {ty : TypeId} (h : Blk w g ty q) {k : Nat} (hk : k < q) : ∃ u, w.cell? ⟨g, k, none⟩ = some u := by
  obtain ⟨cur, h1, h2⟩ := h
  rw [cell_of_row w g k _ ty (0, 0) h1]
  exact ⟨_, Array.getElem?_eq_getElem (by omega)⟩
theorem Blk.frozen {w : World} {g q : Nat} {ty : TypeId} (h : Blk w g ty q) (k : Nat) : w.frozen? ⟨g, k, none⟩ = false := by
  obtain ⟨cur, h1, h2⟩ := h
  simp [World.frozen?, h1]
theorem Blk.set {w : World} {g q : Nat} {ty : TypeId} (h : Blk w g ty q) (k : Nat) (u : Value) : Blk (w.setCell ⟨g, k, none⟩ u) g ty q := by
  obtain ⟨cur, h1, h2⟩ := h
  refine ⟨cur.setIfInBounds k u, ?_, by simpa using h2⟩
  simp [World.setCell, Array.getElem?_modify, h1]
/-- n elements of k cells, in memory from B on. -/
def Spoil (w : World) (B : Nat) (A : Option Addr) (n k : Nat) (ty : TypeId) : Prop := n = 0 ∨ ∃ g q, A = some ⟨g, 0, none⟩ ∧ B ≤ g ∧ n * k ≤ q ∧ Blk w g ty q
theorem Spoil.far {w : World} {B : Nat} {A : Option Addr} {n k g' q' : Nat} {ty ty' : TypeId} (h : Spoil w B A n k ty) (hk : Blk w g' ty' q') (hne : ty ≠ ty') (i : Nat) (u : Value) : Spoil (w.setCell ⟨g', i, none⟩ u) B A n k ty := by
  rcases h with h | ⟨g, q, h1, h2, h3, cur, h4, h5⟩
  · exact .inl h
  · refine .inr ⟨g, q, h1, h2, h3, cur, ?_, h5⟩
    rw [Below.heap_setCell w ⟨g', i, none⟩ u g ?_, h4]
    show g ≠ g'
    rintro rfl
    obtain ⟨cur', h6, -⟩ := hk
    rw [h4] at h6
    simp only [Option.some.injEq, Obj.cells.injEq] at h6
    exact hne h6.2.1
theorem spoil_votes {w : World} {B c : Nat} {ty : TypeId} {A : Option Addr} {l : Nat} {L : List Vt} (h : OwnV w B ty (.slice A l c) L) : Spoil w B A L.length 5 ty := by
  rcases h.2 with ⟨_, h0⟩ | ⟨g, cap, cur, he, hb, hg, hn, -, hs, -⟩
  · exact .inl h0
  · simp only [Value.slice.injEq] at he
    exact .inr ⟨g, cap * 5, he.1, hb, Nat.mul_le_mul_right 5 hn, cur, hg, hs⟩
theorem spoil_ints {w : World} {B c : Nat} {ty : TypeId} {A : Option Addr} {l : Nat} {L : List Int} (h : Own w B ty (.slice A l c) (L.map (.int .i64))) : Spoil w B A L.length 1 ty := by
  rcases h.2 with ⟨_, h0⟩ | ⟨g, cap, cur, he, hb, hg, hn, -, hs, -⟩
  · exact .inl (by simpa using h0)
  · simp only [Value.slice.injEq] at he
    rw [List.length_map] at hn
    exact .inr ⟨g, cap * 1, he.1, hb, Nat.mul_le_mul_right 1 hn, cur, hg, hs⟩
theorem own_cells {w : World} {B : Nat} {e : TypeId} {A : Option Addr} {l c : Nat} {xs : List Value} (h : Own w B e (.slice A l c) xs) : Cells w A xs := by
  obtain ⟨A', c', he, hc⟩ := h.form
  simp only [Value.slice.injEq] at he
  rw [he.1]
  exact hc
theorem propV_form (L : List Vt) (r f : Int) : ∃ p b, propV L r f = .tuple #[vval p, .bool b] := ⟨_, _, rfl⟩
theorem RTly.row_at {w : World} {g gl : Nat} {n : Int} {L : List Vt} (h : RTly w g gl n L) : ∃ A c, w.cell? ⟨g, 1, none⟩ = some (.slice A L.length c) ∧ CellsV w A L := by
  obtain ⟨A, c, hr, hc, -⟩ := h
  exact ⟨A, c, hr.cell (k := 1) rfl, hc⟩

/-- votes held together. -/
theorem eql_rvote (a b : Vt) (W : World) : (binOp .eql 56 (vval a) (vval b)).run Try.prog W = .ok (.bool ((a.fr == b.fr) && (a.rd == b.rd) && (a.kd == b.kd) && (a.va == b.va) && (a.tx.toList == b.tx.toList))) W := by
  have u3 := Try.underlying3
  have a3 := Try.isAgg3
  have z3 := Try.sizeOf3
  have u5 := Try.underlying5
  have a5 := Try.isAgg5
  have z5 := Try.sizeOf5
  have u9 := Try.underlying9
  have a9 := Try.isAgg9
  have z9 := Try.sizeOf9
  have hS : Try.prog.underlying 56 = some (.struct (Try.prog.fieldsOf 56)) := by kernel_rfl
  have hp : Try.prog.stoodInHeld 56 = false := by kernel_rfl
  rw [run_eql_struct, show (10000 : Nat) = 9999 + 1 from rfl, run_equalIn_agg W 9999 56 _ _ hS hp]
  simp only [Program.fieldsOf, Try.underlying56]
  go_simp
  cases h1 : (a.fr == b.fr) <;> cases h2 : (a.rd == b.rd) <;> cases h3 : (a.kd == b.kd) <;> cases h4 : (a.va == b.va) <;> cases h5 : (a.tx.toList == b.tx.toList) <;> simp_all

theorem eql_rsame (a : Vt) (W : World) : (binOp .eql 56 (vval a) (vval a)).run Try.prog W = .ok (.bool true) W := by
  rw [eql_rvote]; simp
set_option maxRecDepth 100000 in
set_option maxHeartbeats 4000000 in
theorem like_c (g gm : Nat) (n : Int) (L : List Vt) (h gl : Nat) (m : Int) (v : Vt) (w : World) (hTl : Tly w g gm n L) (hR : RTly w h gl m L) (hv : v.Ok) :
    Calls Try.prog 27 #[.pointer (some ⟨g, 0, none⟩), .pointer (some ⟨h, 0, none⟩), vval v] w fun e w' => e = .returned (.bool true) ∧ Below w.heap.size w w' := by
  have hlen := hTl.len
  have hB := below_alloc w (.cells (vcl v).toArray 30)
  have hV := row1_new w (vcl v) 30
  replace hTl := hTl.below hB
  replace hR := hR.below hB
  simp only [List.toArray] at hV hTl hR hB
  go_enter Try.func27, Try.ntmps27
  go_wp2_with (fail)
  generalize w.alloc (.cells #[.int .i64 v.fr, .int .i64 v.rd, .int .u8 v.kd, .int .i64 v.va, .string v.tx] 30) = w1 at *
  have hsz1 := hB.size
  refine (votes_c g gm n L w1 hTl).mono ?_
  rintro e w2 ⟨v7, rfl, ho7, hb⟩
  obtain ⟨A7, c7, rfl, -⟩ := ho7.form
  replace hTl := hTl.below hb
  replace hR := hR.below hb
  replace hV := hV.below hb
  replace hB := below_next hB hB.size hb
  clear hb
  go_wp2_with (fail)
  have hsz2 := hB.size
  refine (rounds_c g gm n L w2 hTl).mono ?_
  rintro e w3 ⟨v8, rfl, ho8, hb⟩
  obtain ⟨A8, c8, rfl, -⟩ := ho8.form
  rw [List.length_map] at ho8 ⊢
  replace hTl := hTl.below hb
  replace hR := hR.below hb
  replace hV := hV.below hb
  replace ho7 := ho7.below hb
  replace hB := below_next hB hB.size hb
  clear hb
  obtain ⟨x0, x1, x2, x3, x4⟩ := hV.five
  go_wp2_with (fail)
  refine (tprop_c g gm n L v.rd v.fr w3 hTl hv.rd hv.fr).mono ?_
  rintro e w4 ⟨rfl, hb⟩
  obtain ⟨p, pb, hp⟩ := propV_form L v.rd v.fr
  rw [hp]
  have HP := hid hp
  replace hTl := hTl.below hb
  replace hR := hR.below hb
  replace hV := hV.below hb
  replace ho7 := ho7.below hb
  replace ho8 := ho8.below hb
  replace hB := below_next hB hB.size hb
  clear hb x0 x1 x2 x3 x4 hp
  have hP4 := row1_new w4 (vcl p) 30
  have hb4 := below_alloc w4 (.cells (vcl p).toArray 30)
  simp only [List.toArray] at hP4 hb4
  replace hTl := hTl.below hb4
  replace hR := hR.below hb4
  replace hV := hV.below hb4
  replace ho7 := ho7.below hb4
  replace ho8 := ho8.below hb4
  replace hB := below_next hB hB.size hb4
  obtain ⟨x0, x1, x2, x3, x4⟩ := hV.five
  clear hb4
  go_wp2_with (fail)
  generalize w4.alloc (.cells #[.int .i64 p.fr, .int .i64 p.rd, .int .u8 p.kd, .int .i64 p.va, .string p.tx] 30) = w5 at *
  refine (rprop_c h gl m L v.rd v.fr w5 hR hlen).mono ?_
  rintro e w6 ⟨rfl, hb⟩
  rw [HP.out]
  replace hTl := hTl.below hb
  replace hR := hR.below hb
  replace hV := hV.below hb
  replace ho7 := ho7.below hb
  replace ho8 := ho8.below hb
  replace hP4 := hP4.below hb
  replace hB := below_next hB hB.size hb
  clear hb x0 x1 x2 x3 x4
  have hQ := row1_new w6 (vcl p) 56
  have hb6 := below_alloc w6 (.cells (vcl p).toArray 56)
  simp only [List.toArray] at hQ hb6
  replace hTl := hTl.below hb6
  replace hR := hR.below hb6
  replace hV := hV.below hb6
  replace ho7 := ho7.below hb6
  replace ho8 := ho8.below hb6
  replace hP4 := hP4.below hb6
  replace hB := below_next hB hB.size hb6
  clear hb6
  have hpb : (pb == pb) = true := beq_self_eq_true pb
  · go_wp2
    generalize w6.alloc (.cells #[.int .i64 p.fr, .int .i64 p.rd, .int .u8 p.kd, .int .i64 p.va, .string p.tx] 56) = w7 at *
    obtain ⟨AR, cR, dR, hcR⟩ := hR.row_at
    have hhlt := hR.lt
    have hc7 := ho7.cellsV
    have hc8 := own_cells ho8
    have hrl : (rndL L).length ≤ 9223372036854775807 := by have := rndTo_len L L.length; rw [rndTo_all] at this; omega
    refine Rgb.wp_region (l := [_, _, _, _, _, _, _, _, _, _, _, _, _, _, _, _, _, _, _, _, _, _, _, _, _, _, _, _, _, _, _, _, _, _, _, _, _, _, _, _, _, _, _, _, _, _, _, _, _, _, _, _, _, _, _, _, _, _, _, _, _, _, _, _, _, _, _]) (tail := [_, _]) (Rgb.grows _ 69) [some 38, some 39, some 40, some 41, some 42, some 43, some 44, some 45, some 46, some 47, some 48, some 49, some 50, some 51, some 52, some 53, some 54, some 55, some 56, some 57, some 58, some 59, some 60, some 61, some 62, some 63, some 64, some 65, some 66, some 67, some 68, some 69, some 70, some 71, some 72, some 73, some 74, some 75, some 76, some 77, some 78, some 79, some 80, some 81, some 82, some 83, some 84, some 85, some 86, some 87, some 88, some 89, some 90, some 91, some 92, some 93, some 94, some 95, some 96, some 97, some 98, some 99, some 100, some 101, some 102, some 103, some 104, some 105, some 13] 126 (by kernel_rfl) (by kernel_rfl) (by kernel_rfl) rfl (Rgb.grows_fair _ _) (Rgb.keep_drew _) (trivial) ?_
    refine' Rgb.op_is _ [] rfl rfl (by kernel_rfl) ?_ ?_
    rotate_left
    · intro wx hb
      refine Rgb.from_nil fun T hT => ?_
      go_wp2
      refine hT _ _ rfl (by first | exact Rgb.Keep.refl _ | exact below_of_dr hw2 | exact hw2 | exact (Below.refl _ _).alloc (Nat.le_refl _) _) ?_
      simp only [Rgb.last, List.getElem?_toArray, List.getElem?_cons_succ, List.getElem?_cons_zero, Option.getD_some]
      rfl
    refine Rgb.op_of (fun W u => ∃ A c, u = .slice A L.length c ∧ CellsV W A L) [0] rfl ?_ ?_ rfl (by kernel_rfl) ?_ ?_
    · exact fun W W' u hk ⟨A, c, h1, h2⟩ => ⟨A, c, h1, h2.below hk⟩
    · exact fun W W' u hk ⟨A, c, h1, h2⟩ => ⟨A, c, h1, h2.below hk⟩
    · intro wx hb
      refine Rgb.from_is (some 38) rfl rfl ?_
      refine Rgb.from_nil fun T hT => ?_
      go_wp2_with (go_at_call 29; refine (told_c A7 L c7 _ (hc7.below hb) hlen).mono ?_; rintro e w9 ⟨v9, rfl, ho9, hw9⟩)
      obtain ⟨A9, c9, rfl, hc9⟩ := ho9.form
      exact hT _ _ rfl hw9 ⟨A9, c9, rfl, hc9⟩
    refine' Rgb.op_is _ [] rfl rfl (by kernel_rfl) ?_ ?_
    rotate_left
    · intro wx hb
      refine Rgb.from_nil fun T hT => ?_
      go_wp2
      refine hT _ _ rfl (by first | exact Rgb.Keep.refl _ | exact below_of_dr hw2 | exact hw2 | exact (Below.refl _ _).alloc (Nat.le_refl _) _) ?_
      simp only [Rgb.last, List.getElem?_toArray, List.getElem?_cons_succ, List.getElem?_cons_zero, Option.getD_some]
      rfl
    refine' Rgb.op_is _ [2] rfl rfl (by kernel_rfl) ?_ ?_
    rotate_left
    · intro wx hb
      refine Rgb.from_is (some 40) rfl rfl ?_
      refine Rgb.from_nil fun T hT => ?_
      go_wp2
      refine hT _ _ rfl (by first | exact Rgb.Keep.refl _ | exact below_of_dr hw2 | exact hw2 | exact (Below.refl _ _).alloc (Nat.le_refl _) _) ?_
      simp only [Rgb.last, List.getElem?_toArray, List.getElem?_cons_succ, List.getElem?_cons_zero, Option.getD_some]
      rfl
    refine' Rgb.op_is _ [3] rfl rfl (by kernel_rfl) ?_ ?_
    rotate_left
    · intro wx hb
      refine Rgb.from_is (some 41) rfl rfl ?_
      refine Rgb.from_nil fun T hT => ?_
      go_wp2
      refine hT _ _ rfl (by first | exact Rgb.Keep.refl _ | exact below_of_dr hw2 | exact hw2 | exact (Below.refl _ _).alloc (Nat.le_refl _) _) ?_
      simp only [Rgb.last, List.getElem?_toArray, List.getElem?_cons_succ, List.getElem?_cons_zero, Option.getD_some]
      rfl
    refine Rgb.op_is (.slice AR L.length cR) [4] rfl rfl (by kernel_rfl) ?_ ?_
    · intro wx hb
      refine Rgb.from_is (some 42) rfl rfl ?_
      refine Rgb.from_nil fun T hT => ?_
      have c1 := (hb.cell (p := ⟨h, 1, none⟩) hhlt).trans dR
      go_wp2
      exact hT _ _ rfl (by first | exact Rgb.Keep.refl _ | exact below_of_dr hw2 | exact hw2 | exact (Below.refl _ _).alloc (Nat.le_refl _) _) (by first | rfl | exact congrArg _ (by decide))
    refine Rgb.op_is (.bool true) [1, 5] rfl rfl (by kernel_rfl) ?_ ?_
    · intro wx hb
      refine Rgb.from_of (some 39) rfl rfl fun v39 h39 => ?_
      refine Rgb.from_is (some 43) rfl rfl ?_
      refine Rgb.from_nil fun T hT => ?_
      obtain ⟨A9, c9, rfl, hc9⟩ := h39
      go_wp2_with (go_at_call 28; refine (same15_c A9 AR L L c9 cR _ hc9 (hcR.below hb) (by omega) (by omega)).mono ?_; rintro e w9 ⟨rfl, hw9⟩; rw [decide_eq_true (rfl : L = L)])
      exact hT _ _ rfl (below_of_dr hw9) rfl
    refine Rgb.op_is (.bool true) [6] rfl rfl (by kernel_rfl) ?_ ?_
    · intro wx hb
      refine Rgb.from_is (some 44) rfl rfl ?_
      refine Rgb.from_nil fun T hT => ?_
      go_wp2
      exact hT _ _ rfl (by first | exact Rgb.Keep.refl _ | exact below_of_dr hw2 | exact hw2 | exact (Below.refl _ _).alloc (Nat.le_refl _) _) (by first | rfl | exact congrArg _ (by decide))
    refine' Rgb.op_is _ [] rfl rfl (by kernel_rfl) ?_ ?_
    rotate_left
    · intro wx hb
      refine Rgb.from_nil fun T hT => ?_
      go_wp2
      refine hT _ _ rfl (by first | exact Rgb.Keep.refl _ | exact below_of_dr hw2 | exact hw2 | exact (Below.refl _ _).alloc (Nat.le_refl _) _) ?_
      simp only [Rgb.last, List.getElem?_toArray, List.getElem?_cons_succ, List.getElem?_cons_zero, Option.getD_some]
      rfl
    refine' Rgb.op_is _ [] rfl rfl (by kernel_rfl) ?_ ?_
    rotate_left
    · intro wx hb
      refine Rgb.from_nil fun T hT => ?_
      go_wp2
      refine hT _ _ rfl (by first | exact Rgb.Keep.refl _ | exact below_of_dr hw2 | exact hw2 | exact (Below.refl _ _).alloc (Nat.le_refl _) _) ?_
      simp only [Rgb.last, List.getElem?_toArray, List.getElem?_cons_succ, List.getElem?_cons_zero, Option.getD_some]
      rfl
    refine Rgb.op_of (fun W u => ∃ A c, u = .slice A (rndL L).length c ∧ Cells W A ((rndL L).map (.int .i64))) [9] rfl ?_ ?_ rfl (by kernel_rfl) ?_ ?_
    · exact fun W W' u hk ⟨A, c, h1, h2⟩ => ⟨A, c, h1, h2.below hk⟩
    · exact fun W W' u hk ⟨A, c, h1, h2⟩ => ⟨A, c, h1, h2.below hk⟩
    · intro wx hb
      refine Rgb.from_is (some 47) rfl rfl ?_
      refine Rgb.from_nil fun T hT => ?_
      go_wp2_with (go_at_call 46; refine (rrounds_c h gl m L _ (hR.below hb) hlen).mono ?_; rintro e w9 ⟨v9, rfl, ho9, hw9⟩)
      obtain ⟨A9, c9, rfl, hc9⟩ := ho9.form
      exact hT _ _ rfl hw9 ⟨A9, c9, by rw [List.length_map]; rfl, hc9⟩
    refine Rgb.op_is (.bool true) [8, 10] rfl rfl (by kernel_rfl) ?_ ?_
    · intro wx hb
      refine Rgb.from_is (some 46) rfl rfl ?_
      refine Rgb.from_of (some 48) rfl rfl fun v48 h48 => ?_
      refine Rgb.from_nil fun T hT => ?_
      obtain ⟨A9, c9, rfl, hc9⟩ := h48
      go_wp2_with (go_at_call 23; refine (ints_c _ A9 (rndL L) (rndL L) c8 c9 _ (hc8.below hb) hc9 hrl hrl).mono ?_; rintro e w9 ⟨rfl, hw9⟩; rw [decide_eq_true (rfl : rndL L = rndL L)])
      exact hT _ _ rfl (below_of_dr hw9) rfl
    refine Rgb.op_is (.bool true) [7, 11] rfl rfl (by kernel_rfl) ?_ ?_
    · intro wx hb
      refine Rgb.from_is (some 45) rfl rfl ?_
      refine Rgb.from_is (some 49) rfl rfl ?_
      refine Rgb.from_nil fun T hT => ?_
      go_wp2
      exact hT _ _ rfl (by first | exact Rgb.Keep.refl _ | exact below_of_dr hw2 | exact hw2 | exact (Below.refl _ _).alloc (Nat.le_refl _) _) (by first | rfl | exact congrArg _ (by decide))
    refine Rgb.op_is (.bool true) [12] rfl rfl (by kernel_rfl) ?_ ?_
    · intro wx hb
      refine Rgb.from_is (some 50) rfl rfl ?_
      refine Rgb.from_nil fun T hT => ?_
      go_wp2
      exact hT _ _ rfl (by first | exact Rgb.Keep.refl _ | exact below_of_dr hw2 | exact hw2 | exact (Below.refl _ _).alloc (Nat.le_refl _) _) (by first | rfl | exact congrArg _ (by decide))
    refine' Rgb.op_is _ [] rfl rfl (by kernel_rfl) ?_ ?_
    rotate_left
    · intro wx hb
      refine Rgb.from_nil fun T hT => ?_
      go_wp2
      refine hT _ _ rfl (by first | exact Rgb.Keep.refl _ | exact below_of_dr hw2 | exact hw2 | exact (Below.refl _ _).alloc (Nat.le_refl _) _) ?_
      simp only [Rgb.last, List.getElem?_toArray, List.getElem?_cons_succ, List.getElem?_cons_zero, Option.getD_some]
      rfl
    refine' Rgb.op_is _ [] rfl rfl (by kernel_rfl) ?_ ?_
    rotate_left
    · intro wx hb
      refine Rgb.from_nil fun T hT => ?_
      go_wp2
      refine hT _ _ rfl (by first | exact Rgb.Keep.refl _ | exact below_of_dr hw2 | exact hw2 | exact (Below.refl _ _).alloc (Nat.le_refl _) _) ?_
      simp only [Rgb.last, List.getElem?_toArray, List.getElem?_cons_succ, List.getElem?_cons_zero, Option.getD_some]
      rfl
    refine Rgb.op_is (.bool true) [14, 15] rfl rfl (by kernel_rfl) ?_ ?_
    · intro wx hb
      refine Rgb.from_is (some 52) rfl rfl ?_
      refine Rgb.from_is (some 53) rfl rfl ?_
      refine Rgb.from_nil fun T hT => ?_
      go_wp2
      exact hT _ _ rfl (by first | exact Rgb.Keep.refl _ | exact below_of_dr hw2 | exact hw2 | exact (Below.refl _ _).alloc (Nat.le_refl _) _) (by first | rfl | exact congrArg _ (by decide))
    refine Rgb.op_is (.bool true) [13, 16] rfl rfl (by kernel_rfl) ?_ ?_
    · intro wx hb
      refine Rgb.from_is (some 51) rfl rfl ?_
      refine Rgb.from_is (some 54) rfl rfl ?_
      refine Rgb.from_nil fun T hT => ?_
      go_wp2
      exact hT _ _ rfl (by first | exact Rgb.Keep.refl _ | exact below_of_dr hw2 | exact hw2 | exact (Below.refl _ _).alloc (Nat.le_refl _) _) (by first | rfl | exact congrArg _ (by decide))
    refine Rgb.op_is (.bool true) [17] rfl rfl (by kernel_rfl) ?_ ?_
    · intro wx hb
      refine Rgb.from_is (some 55) rfl rfl ?_
      refine Rgb.from_nil fun T hT => ?_
      go_wp2
      exact hT _ _ rfl (by first | exact Rgb.Keep.refl _ | exact below_of_dr hw2 | exact hw2 | exact (Below.refl _ _).alloc (Nat.le_refl _) _) (by first | rfl | exact congrArg _ (by decide))
    refine Rgb.op_is (vval p) [] rfl rfl (by kernel_rfl) ?_ ?_
    · intro wx hb
      refine Rgb.from_nil fun T hT => ?_
      obtain ⟨y0, y1, y2, y3, y4⟩ := (hP4.below hb).five
      go_wp2
      exact hT _ _ rfl (by first | exact Rgb.Keep.refl _ | exact below_of_dr hw2 | exact hw2 | exact (Below.refl _ _).alloc (Nat.le_refl _) _) (by first | rfl | exact congrArg _ (by decide))
    refine Rgb.op_is (vval p) [] rfl rfl (by kernel_rfl) ?_ ?_
    · intro wx hb
      refine Rgb.from_nil fun T hT => ?_
      obtain ⟨y0, y1, y2, y3, y4⟩ := (hQ.below hb).five
      go_wp2
      exact hT _ _ rfl (by first | exact Rgb.Keep.refl _ | exact below_of_dr hw2 | exact hw2 | exact (Below.refl _ _).alloc (Nat.le_refl _) _) (by first | rfl | exact congrArg _ (by decide))
    refine Rgb.op_is (.bool true) [19, 20] rfl rfl (by kernel_rfl) ?_ ?_
    · intro wx hb
      refine Rgb.from_is (some 57) rfl rfl ?_
      refine Rgb.from_is (some 58) rfl rfl ?_
      refine Rgb.from_nil fun T hT => ?_
      have he := eql_rsame p wx
      go_wp2
      exact hT _ _ rfl (by first | exact Rgb.Keep.refl _ | exact below_of_dr hw2 | exact hw2 | exact (Below.refl _ _).alloc (Nat.le_refl _) _) (by first | rfl | exact congrArg _ (by decide))
    refine Rgb.op_is (.bool true) [18, 21] rfl rfl (by kernel_rfl) ?_ ?_
    · intro wx hb
      refine Rgb.from_is (some 56) rfl rfl ?_
      refine Rgb.from_is (some 59) rfl rfl ?_
      refine Rgb.from_nil fun T hT => ?_
      go_wp2
      exact hT _ _ rfl (by first | exact Rgb.Keep.refl _ | exact below_of_dr hw2 | exact hw2 | exact (Below.refl _ _).alloc (Nat.le_refl _) _) (by first | rfl | exact congrArg _ (by decide))
    refine Rgb.op_is (.bool true) [22] rfl rfl (by kernel_rfl) ?_ ?_
    · intro wx hb
      refine Rgb.from_is (some 60) rfl rfl ?_
      refine Rgb.from_nil fun T hT => ?_
      go_wp2
      exact hT _ _ rfl (by first | exact Rgb.Keep.refl _ | exact below_of_dr hw2 | exact hw2 | exact (Below.refl _ _).alloc (Nat.le_refl _) _) (by first | rfl | exact congrArg _ (by decide))
    refine' Rgb.op_is _ [] rfl rfl (by kernel_rfl) ?_ ?_
    rotate_left
    · intro wx hb
      refine Rgb.from_nil fun T hT => ?_
      go_wp2
      refine hT _ _ rfl (by first | exact Rgb.Keep.refl _ | exact below_of_dr hw2 | exact hw2 | exact (Below.refl _ _).alloc (Nat.le_refl _) _) ?_
      simp only [Rgb.last, List.getElem?_toArray, List.getElem?_cons_succ, List.getElem?_cons_zero, Option.getD_some]
      rfl
    refine' Rgb.op_is _ [] rfl rfl (by kernel_rfl) ?_ ?_
    rotate_left
    · intro wx hb
      refine Rgb.from_nil fun T hT => ?_
      go_wp2
      refine hT _ _ rfl (by first | exact Rgb.Keep.refl _ | exact below_of_dr hw2 | exact hw2 | exact (Below.refl _ _).alloc (Nat.le_refl _) _) ?_
      simp only [Rgb.last, List.getElem?_toArray, List.getElem?_cons_succ, List.getElem?_cons_zero, Option.getD_some]
      rfl
    refine Rgb.op_is (.int .i64 v.rd) [25] rfl rfl (by kernel_rfl) ?_ ?_
    · intro wx hb
      refine Rgb.from_is (some 63) rfl rfl ?_
      refine Rgb.from_nil fun T hT => ?_
      obtain ⟨y0, y1, y2, y3, y4⟩ := (hV.below hb).five
      go_wp2
      exact hT _ _ rfl (by first | exact Rgb.Keep.refl _ | exact below_of_dr hw2 | exact hw2 | exact (Below.refl _ _).alloc (Nat.le_refl _) _) (by first | rfl | exact congrArg _ (by decide))
    refine' Rgb.op_is _ [] rfl rfl (by kernel_rfl) ?_ ?_
    rotate_left
    · intro wx hb
      refine Rgb.from_nil fun T hT => ?_
      go_wp2
      refine hT _ _ rfl (by first | exact Rgb.Keep.refl _ | exact below_of_dr hw2 | exact hw2 | exact (Below.refl _ _).alloc (Nat.le_refl _) _) ?_
      simp only [Rgb.last, List.getElem?_toArray, List.getElem?_cons_succ, List.getElem?_cons_zero, Option.getD_some]
      rfl
    refine Rgb.op_is (.int .u8 v.kd) [27] rfl rfl (by kernel_rfl) ?_ ?_
    · intro wx hb
      refine Rgb.from_is (some 65) rfl rfl ?_
      refine Rgb.from_nil fun T hT => ?_
      obtain ⟨y0, y1, y2, y3, y4⟩ := (hV.below hb).five
      go_wp2
      exact hT _ _ rfl (by first | exact Rgb.Keep.refl _ | exact below_of_dr hw2 | exact hw2 | exact (Below.refl _ _).alloc (Nat.le_refl _) _) (by first | rfl | exact congrArg _ (by decide))
    refine' Rgb.op_is _ [] rfl rfl (by kernel_rfl) ?_ ?_
    rotate_left
    · intro wx hb
      refine Rgb.from_nil fun T hT => ?_
      go_wp2
      refine hT _ _ rfl (by first | exact Rgb.Keep.refl _ | exact below_of_dr hw2 | exact hw2 | exact (Below.refl _ _).alloc (Nat.le_refl _) _) ?_
      simp only [Rgb.last, List.getElem?_toArray, List.getElem?_cons_succ, List.getElem?_cons_zero, Option.getD_some]
      rfl
    refine Rgb.op_is (.string v.tx) [29] rfl rfl (by kernel_rfl) ?_ ?_
    · intro wx hb
      refine Rgb.from_is (some 67) rfl rfl ?_
      refine Rgb.from_nil fun T hT => ?_
      obtain ⟨y0, y1, y2, y3, y4⟩ := (hV.below hb).five
      go_wp2
      exact hT _ _ rfl (by first | exact Rgb.Keep.refl _ | exact below_of_dr hw2 | exact hw2 | exact (Below.refl _ _).alloc (Nat.le_refl _) _) (by first | rfl | exact congrArg _ (by decide))
    refine Rgb.op_is (.int .i64 (cntN (pCnt v.rd v.kd v.tx) L)) [24, 26, 28, 30] rfl rfl (by kernel_rfl) ?_ ?_
    · intro wx hb
      refine Rgb.from_is (some 62) rfl rfl ?_
      refine Rgb.from_is (some 64) rfl rfl ?_
      refine Rgb.from_is (some 66) rfl rfl ?_
      refine Rgb.from_is (some 68) rfl rfl ?_
      refine Rgb.from_nil fun T hT => ?_
      go_wp2_with (go_at_call 15; refine (tcount_c g gm n L v.rd v.kd v.tx _ (hTl.below hb)).mono ?_; rintro e w9 ⟨rfl, hw9⟩)
      exact hT _ _ rfl hw9 rfl
    refine' Rgb.op_is _ [] rfl rfl (by kernel_rfl) ?_ ?_
    rotate_left
    · intro wx hb
      refine Rgb.from_nil fun T hT => ?_
      go_wp2
      refine hT _ _ rfl (by first | exact Rgb.Keep.refl _ | exact below_of_dr hw2 | exact hw2 | exact (Below.refl _ _).alloc (Nat.le_refl _) _) ?_
      simp only [Rgb.last, List.getElem?_toArray, List.getElem?_cons_succ, List.getElem?_cons_zero, Option.getD_some]
      rfl
    refine' Rgb.op_is _ [] rfl rfl (by kernel_rfl) ?_ ?_
    rotate_left
    · intro wx hb
      refine Rgb.from_nil fun T hT => ?_
      go_wp2
      refine hT _ _ rfl (by first | exact Rgb.Keep.refl _ | exact below_of_dr hw2 | exact hw2 | exact (Below.refl _ _).alloc (Nat.le_refl _) _) ?_
      simp only [Rgb.last, List.getElem?_toArray, List.getElem?_cons_succ, List.getElem?_cons_zero, Option.getD_some]
      rfl
    refine Rgb.op_is (.int .i64 v.rd) [33] rfl rfl (by kernel_rfl) ?_ ?_
    · intro wx hb
      refine Rgb.from_is (some 71) rfl rfl ?_
      refine Rgb.from_nil fun T hT => ?_
      obtain ⟨y0, y1, y2, y3, y4⟩ := (hV.below hb).five
      go_wp2
      exact hT _ _ rfl (by first | exact Rgb.Keep.refl _ | exact below_of_dr hw2 | exact hw2 | exact (Below.refl _ _).alloc (Nat.le_refl _) _) (by first | rfl | exact congrArg _ (by decide))
    refine' Rgb.op_is _ [] rfl rfl (by kernel_rfl) ?_ ?_
    rotate_left
    · intro wx hb
      refine Rgb.from_nil fun T hT => ?_
      go_wp2
      refine hT _ _ rfl (by first | exact Rgb.Keep.refl _ | exact below_of_dr hw2 | exact hw2 | exact (Below.refl _ _).alloc (Nat.le_refl _) _) ?_
      simp only [Rgb.last, List.getElem?_toArray, List.getElem?_cons_succ, List.getElem?_cons_zero, Option.getD_some]
      rfl
    refine Rgb.op_is (.int .u8 v.kd) [35] rfl rfl (by kernel_rfl) ?_ ?_
    · intro wx hb
      refine Rgb.from_is (some 73) rfl rfl ?_
      refine Rgb.from_nil fun T hT => ?_
      obtain ⟨y0, y1, y2, y3, y4⟩ := (hV.below hb).five
      go_wp2
      exact hT _ _ rfl (by first | exact Rgb.Keep.refl _ | exact below_of_dr hw2 | exact hw2 | exact (Below.refl _ _).alloc (Nat.le_refl _) _) (by first | rfl | exact congrArg _ (by decide))
    refine' Rgb.op_is _ [] rfl rfl (by kernel_rfl) ?_ ?_
    rotate_left
    · intro wx hb
      refine Rgb.from_nil fun T hT => ?_
      go_wp2
      refine hT _ _ rfl (by first | exact Rgb.Keep.refl _ | exact below_of_dr hw2 | exact hw2 | exact (Below.refl _ _).alloc (Nat.le_refl _) _) ?_
      simp only [Rgb.last, List.getElem?_toArray, List.getElem?_cons_succ, List.getElem?_cons_zero, Option.getD_some]
      rfl
    refine Rgb.op_is (.string v.tx) [37] rfl rfl (by kernel_rfl) ?_ ?_
    · intro wx hb
      refine Rgb.from_is (some 75) rfl rfl ?_
      refine Rgb.from_nil fun T hT => ?_
      obtain ⟨y0, y1, y2, y3, y4⟩ := (hV.below hb).five
      go_wp2
      exact hT _ _ rfl (by first | exact Rgb.Keep.refl _ | exact below_of_dr hw2 | exact hw2 | exact (Below.refl _ _).alloc (Nat.le_refl _) _) (by first | rfl | exact congrArg _ (by decide))
    refine Rgb.op_is (.int .i64 (cntN (pCnt v.rd v.kd v.tx) L)) [32, 34, 36, 38] rfl rfl (by kernel_rfl) ?_ ?_
    · intro wx hb
      refine Rgb.from_is (some 70) rfl rfl ?_
      refine Rgb.from_is (some 72) rfl rfl ?_
      refine Rgb.from_is (some 74) rfl rfl ?_
      refine Rgb.from_is (some 76) rfl rfl ?_
      refine Rgb.from_nil fun T hT => ?_
      go_wp2_with (go_at_call 47; refine (rcount_c h gl m L v.rd v.kd v.tx _ (hR.below hb) hlen).mono ?_; rintro e w9 ⟨rfl, rfl⟩)
      exact hT _ _ rfl (Below.refl _ _) rfl
    refine Rgb.op_is (.bool true) [31, 39] rfl rfl (by kernel_rfl) ?_ ?_
    · intro wx hb
      refine Rgb.from_is (some 69) rfl rfl ?_
      refine Rgb.from_is (some 77) rfl rfl ?_
      refine Rgb.from_nil fun T hT => ?_
      go_wp2
      exact hT _ _ rfl (by first | exact Rgb.Keep.refl _ | exact below_of_dr hw2 | exact hw2 | exact (Below.refl _ _).alloc (Nat.le_refl _) _) (by first | rfl | exact congrArg _ (by decide))
    refine Rgb.op_is (.bool true) [23, 40] rfl rfl (by kernel_rfl) ?_ ?_
    · intro wx hb
      refine Rgb.from_is (some 61) rfl rfl ?_
      refine Rgb.from_is (some 78) rfl rfl ?_
      refine Rgb.from_nil fun T hT => ?_
      go_wp2
      exact hT _ _ rfl (by first | exact Rgb.Keep.refl _ | exact below_of_dr hw2 | exact hw2 | exact (Below.refl _ _).alloc (Nat.le_refl _) _) (by first | rfl | exact congrArg _ (by decide))
    refine Rgb.op_is (.bool true) [41] rfl rfl (by kernel_rfl) ?_ ?_
    · intro wx hb
      refine Rgb.from_is (some 79) rfl rfl ?_
      refine Rgb.from_nil fun T hT => ?_
      go_wp2
      exact hT _ _ rfl (by first | exact Rgb.Keep.refl _ | exact below_of_dr hw2 | exact hw2 | exact (Below.refl _ _).alloc (Nat.le_refl _) _) (by first | rfl | exact congrArg _ (by decide))
    refine' Rgb.op_is _ [] rfl rfl (by kernel_rfl) ?_ ?_
    rotate_left
    · intro wx hb
      refine Rgb.from_nil fun T hT => ?_
      go_wp2
      refine hT _ _ rfl (by first | exact Rgb.Keep.refl _ | exact below_of_dr hw2 | exact hw2 | exact (Below.refl _ _).alloc (Nat.le_refl _) _) ?_
      simp only [Rgb.last, List.getElem?_toArray, List.getElem?_cons_succ, List.getElem?_cons_zero, Option.getD_some]
      rfl
    refine' Rgb.op_is _ [] rfl rfl (by kernel_rfl) ?_ ?_
    rotate_left
    · intro wx hb
      refine Rgb.from_nil fun T hT => ?_
      go_wp2
      refine hT _ _ rfl (by first | exact Rgb.Keep.refl _ | exact below_of_dr hw2 | exact hw2 | exact (Below.refl _ _).alloc (Nat.le_refl _) _) ?_
      simp only [Rgb.last, List.getElem?_toArray, List.getElem?_cons_succ, List.getElem?_cons_zero, Option.getD_some]
      rfl
    refine Rgb.op_is (.int .i64 v.rd) [44] rfl rfl (by kernel_rfl) ?_ ?_
    · intro wx hb
      refine Rgb.from_is (some 82) rfl rfl ?_
      refine Rgb.from_nil fun T hT => ?_
      obtain ⟨y0, y1, y2, y3, y4⟩ := (hV.below hb).five
      go_wp2
      exact hT _ _ rfl (by first | exact Rgb.Keep.refl _ | exact below_of_dr hw2 | exact hw2 | exact (Below.refl _ _).alloc (Nat.le_refl _) _) (by first | rfl | exact congrArg _ (by decide))
    refine' Rgb.op_is _ [] rfl rfl (by kernel_rfl) ?_ ?_
    rotate_left
    · intro wx hb
      refine Rgb.from_nil fun T hT => ?_
      go_wp2
      refine hT _ _ rfl (by first | exact Rgb.Keep.refl _ | exact below_of_dr hw2 | exact hw2 | exact (Below.refl _ _).alloc (Nat.le_refl _) _) ?_
      simp only [Rgb.last, List.getElem?_toArray, List.getElem?_cons_succ, List.getElem?_cons_zero, Option.getD_some]
      rfl
    refine Rgb.op_is (.int .u8 v.kd) [46] rfl rfl (by kernel_rfl) ?_ ?_
    · intro wx hb
      refine Rgb.from_is (some 84) rfl rfl ?_
      refine Rgb.from_nil fun T hT => ?_
      obtain ⟨y0, y1, y2, y3, y4⟩ := (hV.below hb).five
      go_wp2
      exact hT _ _ rfl (by first | exact Rgb.Keep.refl _ | exact below_of_dr hw2 | exact hw2 | exact (Below.refl _ _).alloc (Nat.le_refl _) _) (by first | rfl | exact congrArg _ (by decide))
    refine Rgb.op_is (.int .i64 (cntN (pAll v.rd v.kd) L)) [43, 45, 47] rfl rfl (by kernel_rfl) ?_ ?_
    · intro wx hb
      refine Rgb.from_is (some 81) rfl rfl ?_
      refine Rgb.from_is (some 83) rfl rfl ?_
      refine Rgb.from_is (some 85) rfl rfl ?_
      refine Rgb.from_nil fun T hT => ?_
      go_wp2_with (go_at_call 17; refine (tall_c g gm n L v.rd v.kd _ (hTl.below hb)).mono ?_; rintro e w9 ⟨rfl, hw9⟩)
      exact hT _ _ rfl hw9 rfl
    refine' Rgb.op_is _ [] rfl rfl (by kernel_rfl) ?_ ?_
    rotate_left
    · intro wx hb
      refine Rgb.from_nil fun T hT => ?_
      go_wp2
      refine hT _ _ rfl (by first | exact Rgb.Keep.refl _ | exact below_of_dr hw2 | exact hw2 | exact (Below.refl _ _).alloc (Nat.le_refl _) _) ?_
      simp only [Rgb.last, List.getElem?_toArray, List.getElem?_cons_succ, List.getElem?_cons_zero, Option.getD_some]
      rfl
    refine' Rgb.op_is _ [] rfl rfl (by kernel_rfl) ?_ ?_
    rotate_left
    · intro wx hb
      refine Rgb.from_nil fun T hT => ?_
      go_wp2
      refine hT _ _ rfl (by first | exact Rgb.Keep.refl _ | exact below_of_dr hw2 | exact hw2 | exact (Below.refl _ _).alloc (Nat.le_refl _) _) ?_
      simp only [Rgb.last, List.getElem?_toArray, List.getElem?_cons_succ, List.getElem?_cons_zero, Option.getD_some]
      rfl
    refine Rgb.op_is (.int .i64 v.rd) [50] rfl rfl (by kernel_rfl) ?_ ?_
    · intro wx hb
      refine Rgb.from_is (some 88) rfl rfl ?_
      refine Rgb.from_nil fun T hT => ?_
      obtain ⟨y0, y1, y2, y3, y4⟩ := (hV.below hb).five
      go_wp2
      exact hT _ _ rfl (by first | exact Rgb.Keep.refl _ | exact below_of_dr hw2 | exact hw2 | exact (Below.refl _ _).alloc (Nat.le_refl _) _) (by first | rfl | exact congrArg _ (by decide))
    refine' Rgb.op_is _ [] rfl rfl (by kernel_rfl) ?_ ?_
    rotate_left
    · intro wx hb
      refine Rgb.from_nil fun T hT => ?_
      go_wp2
      refine hT _ _ rfl (by first | exact Rgb.Keep.refl _ | exact below_of_dr hw2 | exact hw2 | exact (Below.refl _ _).alloc (Nat.le_refl _) _) ?_
      simp only [Rgb.last, List.getElem?_toArray, List.getElem?_cons_succ, List.getElem?_cons_zero, Option.getD_some]
      rfl
    refine Rgb.op_is (.int .u8 v.kd) [52] rfl rfl (by kernel_rfl) ?_ ?_
    · intro wx hb
      refine Rgb.from_is (some 90) rfl rfl ?_
      refine Rgb.from_nil fun T hT => ?_
      obtain ⟨y0, y1, y2, y3, y4⟩ := (hV.below hb).five
      go_wp2
      exact hT _ _ rfl (by first | exact Rgb.Keep.refl _ | exact below_of_dr hw2 | exact hw2 | exact (Below.refl _ _).alloc (Nat.le_refl _) _) (by first | rfl | exact congrArg _ (by decide))
    refine Rgb.op_is (.int .i64 (cntN (pAll v.rd v.kd) L)) [49, 51, 53] rfl rfl (by kernel_rfl) ?_ ?_
    · intro wx hb
      refine Rgb.from_is (some 87) rfl rfl ?_
      refine Rgb.from_is (some 89) rfl rfl ?_
      refine Rgb.from_is (some 91) rfl rfl ?_
      refine Rgb.from_nil fun T hT => ?_
      go_wp2_with (go_at_call 48; refine (rall_c h gl m L v.rd v.kd _ (hR.below hb) hlen).mono ?_; rintro e w9 ⟨rfl, rfl⟩)
      exact hT _ _ rfl (Below.refl _ _) rfl
    refine Rgb.op_is (.bool true) [48, 54] rfl rfl (by kernel_rfl) ?_ ?_
    · intro wx hb
      refine Rgb.from_is (some 86) rfl rfl ?_
      refine Rgb.from_is (some 92) rfl rfl ?_
      refine Rgb.from_nil fun T hT => ?_
      go_wp2
      exact hT _ _ rfl (by first | exact Rgb.Keep.refl _ | exact below_of_dr hw2 | exact hw2 | exact (Below.refl _ _).alloc (Nat.le_refl _) _) (by first | rfl | exact congrArg _ (by decide))
    refine Rgb.op_is (.bool true) [42, 55] rfl rfl (by kernel_rfl) ?_ ?_
    · intro wx hb
      refine Rgb.from_is (some 80) rfl rfl ?_
      refine Rgb.from_is (some 93) rfl rfl ?_
      refine Rgb.from_nil fun T hT => ?_
      go_wp2
      exact hT _ _ rfl (by first | exact Rgb.Keep.refl _ | exact below_of_dr hw2 | exact hw2 | exact (Below.refl _ _).alloc (Nat.le_refl _) _) (by first | rfl | exact congrArg _ (by decide))
    refine Rgb.op_is (.bool true) [56] rfl rfl (by kernel_rfl) ?_ ?_
    · intro wx hb
      refine Rgb.from_is (some 94) rfl rfl ?_
      refine Rgb.from_nil fun T hT => ?_
      go_wp2
      exact hT _ _ rfl (by first | exact Rgb.Keep.refl _ | exact below_of_dr hw2 | exact hw2 | exact (Below.refl _ _).alloc (Nat.le_refl _) _) (by first | rfl | exact congrArg _ (by decide))
    refine' Rgb.op_is _ [] rfl rfl (by kernel_rfl) ?_ ?_
    rotate_left
    · intro wx hb
      refine Rgb.from_nil fun T hT => ?_
      go_wp2
      refine hT _ _ rfl (by first | exact Rgb.Keep.refl _ | exact below_of_dr hw2 | exact hw2 | exact (Below.refl _ _).alloc (Nat.le_refl _) _) ?_
      simp only [Rgb.last, List.getElem?_toArray, List.getElem?_cons_succ, List.getElem?_cons_zero, Option.getD_some]
      rfl
    refine' Rgb.op_is _ [] rfl rfl (by kernel_rfl) ?_ ?_
    rotate_left
    · intro wx hb
      refine Rgb.from_nil fun T hT => ?_
      go_wp2
      refine hT _ _ rfl (by first | exact Rgb.Keep.refl _ | exact below_of_dr hw2 | exact hw2 | exact (Below.refl _ _).alloc (Nat.le_refl _) _) ?_
      simp only [Rgb.last, List.getElem?_toArray, List.getElem?_cons_succ, List.getElem?_cons_zero, Option.getD_some]
      rfl
    refine Rgb.op_is (.int .i64 v.rd) [59] rfl rfl (by kernel_rfl) ?_ ?_
    · intro wx hb
      refine Rgb.from_is (some 97) rfl rfl ?_
      refine Rgb.from_nil fun T hT => ?_
      obtain ⟨y0, y1, y2, y3, y4⟩ := (hV.below hb).five
      go_wp2
      exact hT _ _ rfl (by first | exact Rgb.Keep.refl _ | exact below_of_dr hw2 | exact hw2 | exact (Below.refl _ _).alloc (Nat.le_refl _) _) (by first | rfl | exact congrArg _ (by decide))
    refine Rgb.op_is (.int .i64 (sentT v.rd L L.length)) [58, 60] rfl rfl (by kernel_rfl) ?_ ?_
    · intro wx hb
      refine Rgb.from_is (some 96) rfl rfl ?_
      refine Rgb.from_is (some 98) rfl rfl ?_
      refine Rgb.from_nil fun T hT => ?_
      go_wp2_with (go_at_call 18; refine (tsent_c g gm n L v.rd _ (hTl.below hb)).mono ?_; rintro e w9 ⟨rfl, hw9⟩)
      exact hT _ _ rfl hw9 rfl
    refine' Rgb.op_is _ [] rfl rfl (by kernel_rfl) ?_ ?_
    rotate_left
    · intro wx hb
      refine Rgb.from_nil fun T hT => ?_
      go_wp2
      refine hT _ _ rfl (by first | exact Rgb.Keep.refl _ | exact below_of_dr hw2 | exact hw2 | exact (Below.refl _ _).alloc (Nat.le_refl _) _) ?_
      simp only [Rgb.last, List.getElem?_toArray, List.getElem?_cons_succ, List.getElem?_cons_zero, Option.getD_some]
      rfl
    refine' Rgb.op_is _ [] rfl rfl (by kernel_rfl) ?_ ?_
    rotate_left
    · intro wx hb
      refine Rgb.from_nil fun T hT => ?_
      go_wp2
      refine hT _ _ rfl (by first | exact Rgb.Keep.refl _ | exact below_of_dr hw2 | exact hw2 | exact (Below.refl _ _).alloc (Nat.le_refl _) _) ?_
      simp only [Rgb.last, List.getElem?_toArray, List.getElem?_cons_succ, List.getElem?_cons_zero, Option.getD_some]
      rfl
    refine Rgb.op_is (.int .i64 v.rd) [63] rfl rfl (by kernel_rfl) ?_ ?_
    · intro wx hb
      refine Rgb.from_is (some 101) rfl rfl ?_
      refine Rgb.from_nil fun T hT => ?_
      obtain ⟨y0, y1, y2, y3, y4⟩ := (hV.below hb).five
      go_wp2
      exact hT _ _ rfl (by first | exact Rgb.Keep.refl _ | exact below_of_dr hw2 | exact hw2 | exact (Below.refl _ _).alloc (Nat.le_refl _) _) (by first | rfl | exact congrArg _ (by decide))
    refine Rgb.op_is (.int .i64 (sentT v.rd L L.length)) [62, 64] rfl rfl (by kernel_rfl) ?_ ?_
    · intro wx hb
      refine Rgb.from_is (some 100) rfl rfl ?_
      refine Rgb.from_is (some 102) rfl rfl ?_
      refine Rgb.from_nil fun T hT => ?_
      go_wp2_with (go_at_call 49; refine (rsent_c h gl m L v.rd _ (hR.below hb) hlen).mono ?_; rintro e w9 ⟨rfl, hw9⟩)
      exact hT _ _ rfl (below_of_dr hw9) rfl
    refine Rgb.op_is (.bool true) [61, 65] rfl rfl (by kernel_rfl) ?_ ?_
    · intro wx hb
      refine Rgb.from_is (some 99) rfl rfl ?_
      refine Rgb.from_is (some 103) rfl rfl ?_
      refine Rgb.from_nil fun T hT => ?_
      go_wp2
      exact hT _ _ rfl (by first | exact Rgb.Keep.refl _ | exact below_of_dr hw2 | exact hw2 | exact (Below.refl _ _).alloc (Nat.le_refl _) _) (by first | rfl | exact congrArg _ (by decide))
    refine Rgb.walk_nil [0, 1, 2, 3, 4, 5, 6, 7, 8, 9, 10, 11, 12, 13, 14, 15, 16, 17, 18, 19, 20, 21, 22, 23, 24, 25, 26, 27, 28, 29, 30, 31, 32, 33, 34, 35, 36, 37, 38, 39, 40, 41, 42, 43, 44, 45, 46, 47, 48, 49, 50, 51, 52, 53, 54, 55, 56, 57, 58, 59, 60, 61, 62, 63, 64, 65, 66] (by kernel_rfl) ?_
    intro wx hb
    refine Rgb.from_is (some 38) rfl rfl ?_
    refine Rgb.from_of (some 39) rfl rfl fun v39 h39 => ?_
    refine Rgb.from_is (some 40) rfl rfl ?_
    refine Rgb.from_is (some 41) rfl rfl ?_
    refine Rgb.from_is (some 42) rfl rfl ?_
    refine Rgb.from_is (some 43) rfl rfl ?_
    refine Rgb.from_is (some 44) rfl rfl ?_
    refine Rgb.from_is (some 45) rfl rfl ?_
    refine Rgb.from_is (some 46) rfl rfl ?_
    refine Rgb.from_is (some 47) rfl rfl ?_
    refine Rgb.from_of (some 48) rfl rfl fun v48 h48 => ?_
    refine Rgb.from_is (some 49) rfl rfl ?_
    refine Rgb.from_is (some 50) rfl rfl ?_
    refine Rgb.from_is (some 51) rfl rfl ?_
    refine Rgb.from_is (some 52) rfl rfl ?_
    refine Rgb.from_is (some 53) rfl rfl ?_
    refine Rgb.from_is (some 54) rfl rfl ?_
    refine Rgb.from_is (some 55) rfl rfl ?_
    refine Rgb.from_is (some 56) rfl rfl ?_
    refine Rgb.from_is (some 57) rfl rfl ?_
    refine Rgb.from_is (some 58) rfl rfl ?_
    refine Rgb.from_is (some 59) rfl rfl ?_
    refine Rgb.from_is (some 60) rfl rfl ?_
    refine Rgb.from_is (some 61) rfl rfl ?_
    refine Rgb.from_is (some 62) rfl rfl ?_
    refine Rgb.from_is (some 63) rfl rfl ?_
    refine Rgb.from_is (some 64) rfl rfl ?_
    refine Rgb.from_is (some 65) rfl rfl ?_
    refine Rgb.from_is (some 66) rfl rfl ?_
    refine Rgb.from_is (some 67) rfl rfl ?_
    refine Rgb.from_is (some 68) rfl rfl ?_
    refine Rgb.from_is (some 69) rfl rfl ?_
    refine Rgb.from_is (some 70) rfl rfl ?_
    refine Rgb.from_is (some 71) rfl rfl ?_
    refine Rgb.from_is (some 72) rfl rfl ?_
    refine Rgb.from_is (some 73) rfl rfl ?_
    refine Rgb.from_is (some 74) rfl rfl ?_
    refine Rgb.from_is (some 75) rfl rfl ?_
    refine Rgb.from_is (some 76) rfl rfl ?_
    refine Rgb.from_is (some 77) rfl rfl ?_
    refine Rgb.from_is (some 78) rfl rfl ?_
    refine Rgb.from_is (some 79) rfl rfl ?_
    refine Rgb.from_is (some 80) rfl rfl ?_
    refine Rgb.from_is (some 81) rfl rfl ?_
    refine Rgb.from_is (some 82) rfl rfl ?_
    refine Rgb.from_is (some 83) rfl rfl ?_
    refine Rgb.from_is (some 84) rfl rfl ?_
    refine Rgb.from_is (some 85) rfl rfl ?_
    refine Rgb.from_is (some 86) rfl rfl ?_
    refine Rgb.from_is (some 87) rfl rfl ?_
    refine Rgb.from_is (some 88) rfl rfl ?_
    refine Rgb.from_is (some 89) rfl rfl ?_
    refine Rgb.from_is (some 90) rfl rfl ?_
    refine Rgb.from_is (some 91) rfl rfl ?_
    refine Rgb.from_is (some 92) rfl rfl ?_
    refine Rgb.from_is (some 93) rfl rfl ?_
    refine Rgb.from_is (some 94) rfl rfl ?_
    refine Rgb.from_is (some 95) rfl rfl ?_
    refine Rgb.from_is (some 96) rfl rfl ?_
    refine Rgb.from_is (some 97) rfl rfl ?_
    refine Rgb.from_is (some 98) rfl rfl ?_
    refine Rgb.from_is (some 99) rfl rfl ?_
    refine Rgb.from_is (some 100) rfl rfl ?_
    refine Rgb.from_is (some 101) rfl rfl ?_
    refine Rgb.from_is (some 102) rfl rfl ?_
    refine Rgb.from_is (some 103) rfl rfl ?_
    refine Rgb.from_is (some 104) rfl rfl ?_
    refine Rgb.from_nil ?_
    simp only [List.map, Act.put, List.setIfInBounds_toArray, List.set_cons_zero, List.set_cons_succ]
    have hB9 := below_next hB hB.size hb
    have hS7 := spoil_votes (ho7.below hb)
    have hS8 := spoil_ints (ho8.below hb)
    have hbase7 : w.heap.size ≤ w1.heap.size := hsz1
    have hbase8 : w.heap.size ≤ w2.heap.size := hsz2
    clear hb hTl hR hV ho7 ho8 hP4 hQ dR hcR hc7 hc8 hB h39 h48
    go_wp2
    generalize wx = w8 at *
    go_loopw [14] (fun i wr => ∃ j : Nat, i = .int .i64 j ∧ j ≤ L.length ∧ Spoil wr w1.heap.size A7 L.length 5 30 ∧ Spoil wr w2.heap.size A8 (rndL L).length 1 3 ∧ Below w.heap.size w wr) (fun i _ => L.length - (intOf i).toNat)
    case atStart => exact ⟨0, rfl, by omega, hS7, hS8, hB9⟩
    case round =>
      obtain ⟨j, rfl, hj, hS7, hS8, hB9⟩ := hrel
      by_cases hlt : j < L.length
      · rcases hS7 with h0 | ⟨g7, q7, rfl, hg7, hq7, hk7⟩
        · omega
        obtain ⟨u, hu⟩ := hk7.cell (k := j * 5 + 4) (by omega)
        have hf := hk7.frozen (j * 5 + 4)
        go_wp2
        go_roundw
        case rel => exact ⟨j + 1, by go_num, by omega, .inr ⟨g7, q7, rfl, hg7, hq7, hk7.set _ _⟩, hS8.far hk7 (by decide) _ _, hB9.setCell (by show w.heap.size ≤ g7; omega) _⟩
        case measure => simp [intOf]; omega
      · have hje : (j : Int) = L.length := by omega
        rw [hje]
        clear hje hS7 hj hlt
        go_wp2
        generalize wr = w9 at *
        go_loopw [15] (fun i wr => ∃ j : Nat, i = .int .i64 j ∧ j ≤ (rndL L).length ∧ Spoil wr w2.heap.size A8 (rndL L).length 1 3 ∧ Below w.heap.size w wr) (fun i _ => (rndL L).length - (intOf i).toNat)
        case atStart => exact ⟨0, rfl, by omega, hS8, hB9⟩
        case round =>
          obtain ⟨i, rfl, hi, hS8, hB9⟩ := hrel
          by_cases hlt : i < (rndL L).length
          · rcases hS8 with h0 | ⟨g8, q8, rfl, hg8, hq8, hk8⟩
            · omega
            obtain ⟨u, hu⟩ := hk8.cell (k := i) (by omega)
            have hf := hk8.frozen i
            go_wp2
            go_roundw
            case rel => exact ⟨i + 1, by go_num, by omega, .inr ⟨g8, q8, rfl, hg8, hq8, hk8.set _ _⟩, hB9.setCell (by show w.heap.size ≤ g8; omega) _⟩
            case measure => simp [intOf]; omega
          · go_wp2
            go_ret
            exact ⟨rfl, hB9⟩
end Go.Proofs.Ytnngnekfgijejaa
