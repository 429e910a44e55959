/-
  A copy of a disk.
-/
import Derived.Test.YthllhnjbddpeoaaDkE
namespace Go.Proofs.Ythllhnjbddpeoaa
open Go.RowKit Go.Maps Go.Shelf Go.Proofs

theorem flatP_len (L : List Pt) : (L.flatMap pcl).length = L.length * 2 := by
  induction L with
  | nil => rfl
  | cons x l ih => rw [List.flatMap_cons, List.length_append, ih]; simp; omega
theorem one_allP (L : List Pt) : ∀ u ∈ L.flatMap pcl, u.oneCell' = true := by
  intro u hu
  obtain ⟨v, _, hv⟩ := List.mem_flatMap.1 hu
  exact one_two v u hv
theorem cloneMap_c (b : Nat) (L : List Pt) (w : World) (h : MapAt dM w b L) :
    Calls Try.prog 69 #[.map (some b)] w fun e w' => e = .returned (.map (some w.heap.size)) ∧ MapAt dM w' w.heap.size L ∧ Below w.heap.size w w' := by
  obtain ⟨hok, hnd, D, hown, hT⟩ := h
  exact (AnyW.maps_Clone_owns Try.cloneM 3 dM.R b L.length D w hown).mono fun e w' ⟨h1, h2, _, h4⟩ => ⟨h1, ⟨hok, hnd, D, h2, hT⟩, h4⟩

theorem eql_puts (W : World) : (binOp .eql 83 (.slice none 0 0) (.slice none 0 0)).run Try.prog W = .ok (.bool true) W := run_eql_nil_slice W _ _ none 0 0 0 0 Try.underlying83
theorem eql_puts_no (W : World) (a : Addr) (n c : Nat) : (binOp .eql 83 (.slice (some a) n c) (.slice none 0 0)).run Try.prog W = .ok (.bool false) W := Lib.run_eql_slice_nil W _ _ (some a) n c 0 0 Try.underlying83
set_option maxRecDepth 100000 in
set_option maxHeartbeats 1000000 in
theorem cloneP_c (v : Value) (C : List Pt) (w : World) (h : OwnP w 0 v C) (hl : C.length ≤ 1000000) :
    Calls Try.prog 70 #[v] w fun e w' => ∃ v', e = .returned v' ∧ OwnP w' w.heap.size v' C ∧ Below w.heap.size w w' := by
  obtain ⟨i0, hi, hz0, hz1, hz2⟩ := info_parts info_put
  rcases h.2 with ⟨rfl, h0⟩ | ⟨g2, cap, cur, rfl, hb2, hg2, hcap, hmax, hs2, ht2⟩
  · obtain rfl := List.eq_nil_of_length_eq_zero h0
    clear hi hz0 hz1 hz2
    have hq := eql_puts
    go_enter Try.func70, Try.ntmps70
    go_wp2
    go_ret
    exact ⟨_, rfl, OwnP.nil _ _, Below.refl _ _⟩
  · have hb0 := below_alloc w (.cells #[] 80)
    have hnews : ∀ j u, (C.flatMap pcl)[j]? = some u → (w.alloc (.cells #[] 80)).cell? ((⟨g2, 0, none⟩ : Addr).add j) = some u := by
      intro j u hu
      have := World.ownsRow.cells (w := w) h (g := g2) rfl j u hu
      rw [← this]
      have hadd : (⟨g2, 0, none⟩ : Addr).add j = ⟨g2, j, none⟩ := by unfold Addr.add; split <;> simp_all
      rw [hadd]
      exact hb0.cell (p := ⟨g2, j, none⟩) (Array.getElem?_eq_some_iff.1 hg2).1
    have HN := hid hnews
    have hown : (w.alloc (.cells #[] 80)).ownsRow w.heap.size 80 2 (.slice (some ⟨w.heap.size, 0, none⟩) 0 0) 0 [] := World.ownsRow_lit w #[] 0 (Nat.le_refl _) (by decide) rfl
    clear hcap hmax hs2 ht2 hg2 hnews h
    have hq := eql_puts_no
    go_enter Try.func70, Try.ntmps70
    go_wp2_with (at_builtin; refine wpList_append_own _ rfl _ _ 83 rfl w.heap.size 80 i0 (pval ⟨0, ⟨#[]⟩⟩) 2 24 Try.underlying83 hi hz0 hz1 hz2 rfl (by decide) _ 0 [] rfl hown ⟨g2, 0, none⟩ C.length cap (C.flatMap pcl) rfl (flatP_len C) HN.out (one_allP C) (by unfold maxLen; omega) (by omega) (by simp) ?_; intro v' w3 hO2 hgr _)
    go_ret
    refine ⟨v', rfl, ?_, hb0.grown hgr (by simp) fun k e => by cases e; exact Nat.le_refl _⟩
    rw [Nat.zero_add, List.nil_append] at hO2
    exact hO2

/-- the copy's box, while it is filled. -/
def phCopy (w0 : World) (g : Nat) (gm : Nat) (v : Value) (d : Dk) (p : Nat) (w : World) : Prop := (Below g w0 w ∧ g < w.heap.size) ∧ match p with
  | 0 => Row1 w g 85 [.map (some gm), v, .bool d.fu, .int .i64 d.le, .bool d.de]
  | _ => ∃ b, Row1 w g 85 [.map (some b), v, .bool d.fu, .int .i64 d.le, .bool d.de] ∧ MapAt dM w b d.P ∧ g < b
def wayCopy (w0 : World) (g : Nat) (gm : Nat) (v : Value) (d : Dk) (cs : List Nat) (bds : List (Nat × Nat)) : Rgd.Way := ⟨Rgd.Keep, fun _ w w' => ∃ u, w' = w.setCell ⟨g, 0, none⟩ u, phCopy w0 g gm v d, cs, bds⟩
theorem wayCopy_fair {w0 : World} {g gm : Nat} {v : Value} {d : Dk} {cs : List Nat} {bds : List (Nat × Nat)} : (wayCopy w0 g gm v d cs bds).Fair := ⟨by
  rintro p w w' ⟨⟨h1, h2⟩, h3⟩ hk
  have hk : Below w.heap.size w w' := hk
  refine ⟨⟨below_next h1 (by omega) hk, Nat.lt_of_lt_of_le h2 hk.size⟩, ?_⟩
  match p, h3 with
  | 0, h => exact Row1.below h hk
  | p + 1, ⟨b, h4, h5, h6⟩ => exact ⟨b, h4.below hk, h5.below hk, h6⟩⟩

set_option maxRecDepth 100000 in
set_option maxHeartbeats 1000000 in
theorem copy_c (g gm : Nat) (v : Value) (d : Dk) (m : Nat) (w : World) (h : Dsk w g gm v d) (hd : d.Ok m) (hm : m ≤ 1000000) :
    Calls Try.prog 39 #[.pointer (some ⟨g, 0, none⟩)] w fun e w' => ∃ g' gm' v', e = .returned (.pointer (some ⟨g', 0, none⟩)) ∧ Dsk w' g' gm' v' d ∧ w.heap.size ≤ g' ∧ w.heap.size ≤ gm' ∧ (∀ b, v'.ownBlock = some b → w.heap.size ≤ b) ∧ Below w.heap.size w w' := by
  have hcl : d.C.length ≤ 1000000 := by have := hd.len; omega
  obtain ⟨A0, cap0, rfl⟩ := h.own.form
  obtain ⟨c0, c1, c2, c3, c4⟩ := h.cells
  clear hd hm
  go_enter Try.func39, Try.ntmps39
  go_wp2
  have hRow := row1_new w [.map (some gm), .slice A0 d.C.length cap0, .bool d.fu, .int .i64 d.le, .bool d.de] 85
  have hBa := below_alloc w (.cells #[.map (some gm), .slice A0 d.C.length cap0, .bool d.fu, .int .i64 d.le, .bool d.de] 85)
  simp only [List.toArray] at hRow
  have hsz : w.heap.size < (w.alloc (.cells #[.map (some gm), .slice A0 d.C.length cap0, .bool d.fu, .int .i64 d.le, .bool d.de] 85)).heap.size := by simp
  clear c0 c1 c2 c3 c4
  generalize w.alloc _ = w1 at *
  obtain ⟨gx, hgx⟩ : ∃ gx, w.heap.size = gx := ⟨_, rfl⟩
  have hD1 := h.below hBa
  rw [hgx] at hRow hsz hBa ⊢
  have HGX := hid hgx
  have HH := hid h
  clear hgx h
  have H0 : phCopy w gx gm (.slice A0 d.C.length cap0) d 0 w1 := ⟨⟨hBa, hsz⟩, hRow⟩
  clear hRow hBa
  have HD : ∀ wx, Below gx w wx → Dsk wx g gm (.slice A0 d.C.length cap0) d := fun wx hb => HH.out.below (by rw [HGX.out]; exact hb)
  refine Rgd.wp_region (l := [_, _, _, _, _, _, _, _, _, _, _, _]) (tail := [_, _]) (wayCopy w gx gm (.slice A0 d.C.length cap0) d [11] [(0, 0), (0, 0), (0, 0), (0, 0), (0, 0), (0, 0), (0, 0), (0, 0), (0, 0), (0, 0), (0, 0), (0, 0)]) [some 9, some 10, some 11, some 12, some 13, some 14, some 15, some 16, some 17, some 18, some 19, none, some 20, none] 21 rfl [[], [0], [0, 1], [0, 1, 2], [0, 1, 2, 3], [], [5], [5, 6], [5, 6, 7], [0, 1, 2, 3, 4, 5, 6, 7, 8], [0, 1, 2, 3, 4, 5, 6, 7, 8, 9], [0, 1, 2, 3, 4, 5, 6, 7, 8, 9, 10]] (by kernel_rfl) (by kernel_rfl) (by kernel_rfl) (by kernel_rfl) (by kernel_rfl) rfl (wayCopy_fair) (wayCopy_fair.bk 0 _ _ H0 (Rgd.keep_drew _)) ?_
  refine' Rgd.op_is _ [] 0 0 rfl rfl rfl (by kernel_rfl) ?_ ?_
  rotate_left
  · intro p wx hp1 hp2 hb
    obtain rfl : p = 0 := by omega
    refine Rgd.from_nil fun T hT => ?_
    go_wp2
    refine hT _ _ rfl (by first | exact Rgd.Keep.refl _ | exact below_of_dr hw2 | exact hw2 | exact (Below.refl _ _).alloc (Nat.le_refl _) _) ?_
    simp only [Rgd.last, List.getElem?_toArray, List.getElem?_cons_succ, List.getElem?_cons_zero, Option.getD_some]
    rfl
  refine' Rgd.op_is _ [0] 0 0 rfl rfl rfl (by kernel_rfl) ?_ ?_
  rotate_left
  · intro p wx hp1 hp2 hb
    obtain rfl : p = 0 := by omega
    refine Rgd.from_is (some 9) rfl rfl ?_
    refine Rgd.from_nil fun T hT => ?_
    go_wp2
    refine hT _ _ rfl (by first | exact Rgd.Keep.refl _ | exact below_of_dr hw2 | exact hw2 | exact (Below.refl _ _).alloc (Nat.le_refl _) _) ?_
    simp only [Rgd.last, List.getElem?_toArray, List.getElem?_cons_succ, List.getElem?_cons_zero, Option.getD_some]
    rfl
  refine' Rgd.op_is _ [1] 0 0 rfl rfl rfl (by kernel_rfl) ?_ ?_
  rotate_left
  · intro p wx hp1 hp2 hb
    obtain rfl : p = 0 := by omega
    refine Rgd.from_is (some 10) rfl rfl ?_
    refine Rgd.from_nil fun T hT => ?_
    go_wp2
    refine hT _ _ rfl (by first | exact Rgd.Keep.refl _ | exact below_of_dr hw2 | exact hw2 | exact (Below.refl _ _).alloc (Nat.le_refl _) _) ?_
    simp only [Rgd.last, List.getElem?_toArray, List.getElem?_cons_succ, List.getElem?_cons_zero, Option.getD_some]
    rfl
  refine Rgd.op_is (.map (some gm)) [2] 0 0 rfl rfl rfl (by kernel_rfl) ?_ ?_
  · intro p wx hp1 hp2 hb
    obtain rfl : p = 0 := by omega
    refine Rgd.from_is (some 11) rfl rfl ?_
    refine Rgd.from_nil fun T hT => ?_
    obtain ⟨c0, -, -, -, -⟩ := (HD _ hb.1.1).cells
    go_wp2
    exact hT _ _ rfl (by first | exact Rgd.Keep.refl _ | exact below_of_dr hw2 | exact hw2 | exact (Below.refl _ _).alloc (Nat.le_refl _) _) (by first | rfl | exact congrArg _ (by decide))
  refine Rgd.op_of (fun p w u => ∃ b, u = .map (some b) ∧ MapAt dM w b d.P ∧ gx < b) [3] 0 0 rfl rfl ?_ ?_ rfl (by kernel_rfl) ?_ ?_
  · exact fun p w1 w2 v _ hk ⟨b, h1, h2, h3⟩ => ⟨b, h1, h2.below hk, h3⟩
  · exact fun p w1 w2 v _ _ _ _ ⟨u, hu⟩ ⟨b, h1, h2, h3⟩ => ⟨b, h1, hu ▸ h2.far (by show gx ≠ b; omega) _, h3⟩
  · intro p wx hp1 hp2 hb
    obtain rfl : p = 0 := by omega
    refine Rgd.from_is (some 12) rfl rfl ?_
    refine Rgd.from_nil fun T hT => ?_
    go_wp2_with (fail)
    refine (cloneMap_c gm d.P _ (HD _ hb.1.1).map).mono ?_
    rintro e wy ⟨rfl, hM, hk⟩
    go_wp2
    exact hT _ _ rfl hk ⟨_, rfl, hM, hb.1.2⟩
  refine' Rgd.op_is _ [] 0 0 rfl rfl rfl (by kernel_rfl) ?_ ?_
  rotate_left
  · intro p wx hp1 hp2 hb
    obtain rfl : p = 0 := by omega
    refine Rgd.from_nil fun T hT => ?_
    go_wp2
    refine hT _ _ rfl (by first | exact Rgd.Keep.refl _ | exact below_of_dr hw2 | exact hw2 | exact (Below.refl _ _).alloc (Nat.le_refl _) _) ?_
    simp only [Rgd.last, List.getElem?_toArray, List.getElem?_cons_succ, List.getElem?_cons_zero, Option.getD_some]
    rfl
  refine' Rgd.op_is _ [5] 0 0 rfl rfl rfl (by kernel_rfl) ?_ ?_
  rotate_left
  · intro p wx hp1 hp2 hb
    obtain rfl : p = 0 := by omega
    refine Rgd.from_is (some 14) rfl rfl ?_
    refine Rgd.from_nil fun T hT => ?_
    go_wp2
    refine hT _ _ rfl (by first | exact Rgd.Keep.refl _ | exact below_of_dr hw2 | exact hw2 | exact (Below.refl _ _).alloc (Nat.le_refl _) _) ?_
    simp only [Rgd.last, List.getElem?_toArray, List.getElem?_cons_succ, List.getElem?_cons_zero, Option.getD_some]
    rfl
  refine' Rgd.op_is _ [6] 0 0 rfl rfl rfl (by kernel_rfl) ?_ ?_
  rotate_left
  · intro p wx hp1 hp2 hb
    obtain rfl : p = 0 := by omega
    refine Rgd.from_is (some 15) rfl rfl ?_
    refine Rgd.from_nil fun T hT => ?_
    go_wp2
    refine hT _ _ rfl (by first | exact Rgd.Keep.refl _ | exact below_of_dr hw2 | exact hw2 | exact (Below.refl _ _).alloc (Nat.le_refl _) _) ?_
    simp only [Rgd.last, List.getElem?_toArray, List.getElem?_cons_succ, List.getElem?_cons_zero, Option.getD_some]
    rfl
  refine Rgd.op_is (.slice A0 d.C.length cap0) [7] 0 0 rfl rfl rfl (by kernel_rfl) ?_ ?_
  · intro p wx hp1 hp2 hb
    obtain rfl : p = 0 := by omega
    refine Rgd.from_is (some 16) rfl rfl ?_
    refine Rgd.from_nil fun T hT => ?_
    obtain ⟨-, c0, -, -, -⟩ := (HD _ hb.1.1).cells
    go_wp2
    exact hT _ _ rfl (by first | exact Rgd.Keep.refl _ | exact below_of_dr hw2 | exact hw2 | exact (Below.refl _ _).alloc (Nat.le_refl _) _) (by first | rfl | exact congrArg _ (by decide))
  refine Rgd.op_of (fun p w u => OwnP w (gx + 1) u d.C) [8] 0 0 rfl rfl ?_ ?_ rfl (by kernel_rfl) ?_ ?_
  · exact fun p w1 w2 v _ hk h => h.keep fun b hb => Below.block hk b (h.block b hb).2
  · exact fun p w1 w2 v _ _ _ _ ⟨u, hu⟩ h => hu ▸ h.keep fun b hb => Below.heap_setCell w1 ⟨gx, 0, none⟩ u b (by have := (h.block b hb).1; show b ≠ gx; omega)
  · intro p wx hp1 hp2 hb
    obtain rfl : p = 0 := by omega
    refine Rgd.from_is (some 17) rfl rfl ?_
    refine Rgd.from_nil fun T hT => ?_
    go_wp2_with (fail)
    refine (cloneP_c _ d.C _ (HD _ hb.1.1).own hcl).mono ?_
    rintro e wy ⟨v', rfl, hO, hk⟩
    go_wp2
    exact hT _ _ rfl hk (hO.from_ hb.1.2)
  refine' Rgd.op_is _ [] 0 0 rfl rfl rfl (by kernel_rfl) ?_ ?_
  rotate_left
  · intro p wx hp1 hp2 hb
    obtain rfl : p = 0 := by omega
    refine Rgd.from_nil fun T hT => ?_
    go_wp2
    refine hT _ _ rfl (by first | exact Rgd.Keep.refl _ | exact below_of_dr hw2 | exact hw2 | exact (Below.refl _ _).alloc (Nat.le_refl _) _) ?_
    simp only [Rgd.last, List.getElem?_toArray, List.getElem?_cons_succ, List.getElem?_cons_zero, Option.getD_some]
    rfl
  refine Rgd.op_turn (undef) [4, 10] 0 rfl rfl (by kernel_rfl) ?_ ?_
  · intro wx hb
    refine Rgd.from_of (some 13) rfl rfl fun v13 h13 => ?_
    refine Rgd.from_is (some 19) rfl rfl ?_
    refine Rgd.from_nil fun T hT => ?_
    obtain ⟨⟨hB1, hlt1⟩, hr⟩ := hb
    obtain ⟨b, rfl, hM, hlt2⟩ := h13
    have c0 := hr.cell (k := 0) rfl
    have f0 := hr.frozen 0
    go_wp2
    exact hT _ _ rfl ⟨_, rfl⟩ ⟨⟨hB1.setCell (p := ⟨gx, 0, none⟩) (Nat.le_refl _) _, by simp; omega⟩, b, hr.set 0 _, hM.far (by show gx ≠ b; omega) _, hlt2⟩ rfl
  refine Rgd.walk_nil [0, 1, 2, 3, 4, 5, 6, 7, 8, 9, 10, 11] (by kernel_rfl) ?_
  intro wx hb
  refine Rgd.from_is (some 9) rfl rfl ?_
  refine Rgd.from_is (some 10) rfl rfl ?_
  refine Rgd.from_is (some 11) rfl rfl ?_
  refine Rgd.from_is (some 12) rfl rfl ?_
  refine Rgd.from_of (some 13) rfl rfl fun v13 h13 => ?_
  refine Rgd.from_is (some 14) rfl rfl ?_
  refine Rgd.from_is (some 15) rfl rfl ?_
  refine Rgd.from_is (some 16) rfl rfl ?_
  refine Rgd.from_is (some 17) rfl rfl ?_
  refine Rgd.from_of (some 18) rfl rfl fun v18 h18 => ?_
  refine Rgd.from_is (some 19) rfl rfl ?_
  refine Rgd.from_is (none) rfl rfl ?_
  refine Rgd.from_nil ?_
  simp only [List.map, Act.put, List.setIfInBounds_toArray, List.set_cons_zero, List.set_cons_succ]
  obtain ⟨⟨hB1, hlt1⟩, b, hr, hM, hlt2⟩ := hb
  obtain ⟨A2, cap2, rfl⟩ := h18.form
  have c1 := hr.cell (k := 1) rfl
  have f1 := hr.frozen 1
  clear HD H0 h13
  go_wp2
  go_ret
  have hO : OwnP (wx.setCell ⟨gx, 1, none⟩ (.slice A2 d.C.length cap2)) (gx + 1) (.slice A2 d.C.length cap2) d.C := h18.keep fun b' hb' => Below.heap_setCell wx ⟨gx, 1, none⟩ _ b' (by have := (h18.block b' hb').1; show b' ≠ gx; omega)
  exact ⟨gx, b, .slice A2 d.C.length cap2, rfl, ⟨hr.set 1 _, hM.far (by show gx ≠ b; omega) _, hO.from_ (Nat.zero_le _)⟩, by rw [HGX.out]; exact Nat.le_refl _, by rw [HGX.out]; omega, fun b' hb' => by have := (hO.block b' hb').1; rw [HGX.out]; omega, by rw [HGX.out]; exact hB1.setCell (p := ⟨gx, 1, none⟩) (Nat.le_refl _) _⟩
end Go.Proofs.Ythllhnjbddpeoaa
