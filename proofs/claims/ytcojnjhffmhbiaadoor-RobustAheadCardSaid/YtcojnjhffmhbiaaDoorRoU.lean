/-
  Points (of robust's statements), whose places are unlike one another.
-/
import Derived.Test.YtcojnjhffmhbiaaDoorRobQ1
import Derived.Test.YtcojnjhffmhbiaaDoorRobQ2
import Derived.Test.YtcojnjhffmhbiaaDoorRobQ3
import Derived.Test.YtcojnjhffmhbiaaDoorRobQ4
import Derived.Test.YtcojnjhffmhbiaaDoorRobQ5
import Derived.Test.YtcojnjhffmhbiaaDoorRobQ6
import Derived.Test.YtcojnjhffmhbiaaDoorRobQ7
import Derived.Test.YtcojnjhffmhbiaaDoorRobQ8
import Derived.Test.YtcojnjhffmhbiaaDoorRobQ9
import Derived.Test.YtcojnjhffmhbiaaDoorRobQ10
import Derived.Test.YtcojnjhffmhbiaaDoorRobQ11
namespace Go.Proofs.YtcojnjhffmhbiaaDoor
open Go Go.RowKit Go.Maps Go.Shelf Go.Proofs

attribute [local go_sem] Oper.semAt_some

def OwnTill (X : List Int) (x q : Int) (j : Nat) (b : Bool) : Prop := b = true → ∀ z ∈ X.take j, z % q ≠ x % q
def PointsQ (q : Int) (w : World) (e : Ending) (w' : World) : Prop := ∃ v1 v2 X Y, e = .returned (.tuple #[v1, v2]) ∧ PtsR w' w.heap.size v1 v2 X Y ∧ Two X q ∧ Below w.heap.size w w'
set_option maxRecDepth 100000 in
set_option maxHeartbeats 4000000 in
theorem pointsQ_c (A B : Option Addr) (xs ys : List Int) (ca cb : Nat) (q : Int) (w : World) (hA : Cells w A (xs.map (.int .u64))) (hB : Cells w B (ys.map (.int .u64)))
    (hl : xs.length ≤ 1000) (hl' : ys.length ≤ 1000) (hu : U64s xs) (hu' : U64s ys) (_ : U64 q) (hq0 : 0 < q) :
    Calls Tryd.prog 62 #[.slice A xs.length ca, .slice B ys.length cb, .int .u64 q] w (PointsQ q w) := by
  have HA := hid hA
  have HB := hid hB
  have HU := hid hu
  have HU' := hid hu'
  clear hA hB hu hu'
  have hq1 : (q == 0) = false := by simp; omega
  go_enter Tryd.func62, Tryd.ntmps62
  go_wp2
  go_loopw [8, 9, 10] (fun x y i wr => ∃ (k : Nat) (X Y : List Int), i = .int .i64 (k : Int) ∧ k ≤ xs.length ∧ k ≤ ys.length ∧ Hid (PtsR wr w.heap.size x y X Y ∧ Below w.heap.size w wr) ∧ Hid (Two X q)) (fun _ _ i _ => xs.length - (intOf i).toNat)
  case atStart => exact ⟨0, [], [], rfl, by omega, by omega, hid ⟨⟨Own.nil _ _ _, Own.nil _ _ _, fun g h => (by cases h), rfl, by simp, fun z h => (by cases h), fun z h => (by cases h)⟩, Below.refl _ _⟩, hid List.Pairwise.nil⟩
  case round =>
    obtain ⟨k, X, Y, rfl, hk, hk', HI, H2⟩ := hrel
    obtain ⟨A8, c8, e8, hc8⟩ := HI.out.1.x.form
    rw [List.length_map] at e8
    subst e8
    have HC8 := hid hc8
    clear hc8
    by_cases hall : k < xs.length ∧ k < ys.length ∧ X.length < 7
    · obtain ⟨h1, h2, h7⟩ := hall
      have h1' : (k : Int) < (xs.length : Int) := by omega
      have h2' : (k : Int) < (ys.length : Int) := by omega
      have h7' : (X.length : Int) < 7 := by omega
      obtain ⟨x, hx⟩ := get_of_lt h1
      obtain ⟨y, hy⟩ := get_of_lt h2
      have hux := HU.out x (List.mem_of_getElem? hx)
      have huy := HU'.out y (List.mem_of_getElem? hy)
      have HXX := hid hx
      have HYY := hid hy
      clear hx hy
      obtain ⟨bx, ox, rfl, cx0⟩ := HA.out.at_map HXX.out
      obtain ⟨by_, oy, rfl, cy0⟩ := HB.out.at_map HYY.out
      have HCX := hid cx0
      have HCY := hid cy0
      clear cx0 cy0
      go_upto_region 7 with (fail)
      generalize wr = wo at *
      go_loopw [11, 12] (fun o i wr => ∃ (j : Nat) (b : Bool), i = .int .i64 (j : Int) ∧ o = .bool b ∧ j ≤ X.length ∧ Hid (Dr wo wr) ∧ Hid (OwnTill X x q j b)) (fun _ i _ => X.length - (intOf i).toNat)
      case atStart => exact ⟨0, true, rfl, rfl, by omega, hid (Dr.refl _), hid (show OwnTill X x q 0 true from fun _ z hz => (by simp at hz))⟩
      case round =>
        obtain ⟨j, b, rfl, rfl, hj, HJ, HO⟩ := hrel
        by_cases hjl : j < X.length
        · have hjl' : (j : Int) < (X.length : Int) := by omega
          cases b with
          | false =>
            have HN := HJ
            go_wp2
            go_quiet (fail)
            go_wp2
            go_roundw
            case rel => exact ⟨j + 1, false, by go_num, rfl, by omega, hid (HN.out.more _), hid (show OwnTill X x q (j + 1) false from fun h => (by cases h))⟩
            case measure => simp [intOf]; omega
          | true =>
            obtain ⟨z, hz⟩ := get_of_lt hjl
            obtain ⟨bz, oz, rfl, cz0⟩ := HC8.out.at_map hz
            have huz := HI.out.1.ux z (List.mem_of_getElem? hz)
            have cz := (HJ.out.cell ⟨bz, oz + j, none⟩).trans cz0
            have cx := (HJ.out.cell ⟨bx, ox + k, none⟩).trans ((HI.out.2.cell (lt_of_cell HCX.out)).trans HCX.out)
            have t1 := Int.tmod_eq_emod_of_nonneg (b := q) huz.lo
            have t2 := Int.tmod_eq_emod_of_nonneg (b := q) hux.lo
            obtain ⟨r1, hr1⟩ : ∃ r, z % q = r := ⟨_, rfl⟩
            obtain ⟨r2, hr2⟩ : ∃ r, x % q = r := ⟨_, rfl⟩
            rw [hr1] at t1
            rw [hr2] at t2
            obtain ⟨b2, hb2⟩ : ∃ b2, (r1 != r2) = b2 := ⟨_, rfl⟩
            have HO2 := hid (show OwnTill X x q (j + 1) b2 from fun h9 => by
              rw [take_snocR hz]
              intro z' hz'
              rcases List.mem_append.1 hz' with h | h
              · exact HO.out rfl z' h
              · rw [List.mem_singleton.1 h, hr1, hr2]
                intro e
                rw [← hb2, e] at h9
                simp at h9)
            clear hr1 hr2 cz0 hz
            have HN := HJ
            go_wp2
            go_quiet (fail)
            go_wp2
            go_roundw
            case rel => exact ⟨j + 1, b2, by go_num, rfl, by omega, hid (HN.out.more _), HO2⟩
            case measure => simp [intOf]; omega
        · obtain rfl : j = X.length := by omega
          have hP := HI.out.1.dr HJ.out
          have hbl := below_dr HI.out.2 HJ.out
          cases b with
          | false =>
            have HN := hid (show PtsR wr w.heap.size (.slice A8 X.length c8) u9 X Y ∧ Below w.heap.size w wr from ⟨hP, hbl⟩)
            clear hP hbl
            go_wp2
            go_roundw
            case rel => exact ⟨k + 1, X, Y, by go_num, by omega, by omega, HN, H2⟩
            case measure => simp [intOf]; omega
          | true =>
            have H3 := hid (show Two (X ++ [x]) q from List.pairwise_append.2 ⟨H2.out, List.pairwise_singleton .., fun a ha b hb => by
              rw [List.mem_singleton.1 hb]
              exact HO.out rfl a (by rw [List.take_length]; exact ha)⟩)
            clear HO H2
            have hX := hP.x
            have hY := hP.y
            have hXY := hP.ne
            have HP := hid hP
            have hyl : Y.length = X.length := hP.len.symm
            have cA := (hbl.cell (lt_of_cell HCX.out)).trans HCX.out
            have cB := (hbl.cell (lt_of_cell HCY.out)).trans HCY.out
            have hnx : ∀ b, b < w.heap.size → some b ≠ (Value.slice A8 X.length c8).ownBlock := fun b hb e => by have := (hX.block b e.symm).1; omega
            have hn2 := hnx _ (lt_of_cell HCX.out)
            have hn3 := hnx _ (lt_of_cell HCY.out)
            have hw1r : w.heap.size ≤ wr.heap.size := hbl.size
            clear hnx hP
            go_upto_region 11 with (fail)
            refine Rgb.wp_region (l := [_, _, _, _, _, _, _, _, _, _, _, _, _]) (tail := [_, _, _]) (Rgb.growWay wr (Value.slice A8 X.length c8).ownBlock 6) [some 53, some 54, some 55, some 56, some 57, some 58, some 59, some 60, some 61, some 62, some 63, some 64, some 65, some 66, some 8, some 9] 69 (by kernel_rfl) (by kernel_rfl) (by kernel_rfl) rfl (Rgb.growWay_fair _ _ _) (Rgb.grow_drew _ _) (Rgb.keep_drew _) ?_
            refine' Rgb.op_is _ [] rfl rfl (by kernel_rfl) ?_ ?_
            rotate_left
            · intro wx hb
              refine Rgb.from_nil fun T hT => ?_
              go_wp2
              refine hT _ _ rfl (by first | exact Rgb.Keep.refl _ | exact below_of_dr hw2 | exact hw2 | exact (Below.refl _ _).alloc (Nat.le_refl _) _) ?_
              simp only [Rgb.last, List.getElem?_toArray, List.getElem?_cons_succ, List.getElem?_cons_zero, Option.getD_some]
              rfl
            refine' Rgb.op_is _ [] rfl rfl (by kernel_rfl) ?_ ?_
            rotate_left
            · intro wx hb
              refine Rgb.from_nil fun T hT => ?_
              go_wp2
              refine hT _ _ rfl (by first | exact Rgb.Keep.refl _ | exact below_of_dr hw2 | exact hw2 | exact (Below.refl _ _).alloc (Nat.le_refl _) _) ?_
              simp only [Rgb.last, List.getElem?_toArray, List.getElem?_cons_succ, List.getElem?_cons_zero, Option.getD_some]
              rfl
            refine' Rgb.op_is _ [] rfl rfl (by kernel_rfl) ?_ ?_
            rotate_left
            · intro wx hb
              refine Rgb.from_nil fun T hT => ?_
              go_wp2
              refine hT _ _ rfl (by first | exact Rgb.Keep.refl _ | exact below_of_dr hw2 | exact hw2 | exact (Below.refl _ _).alloc (Nat.le_refl _) _) ?_
              simp only [Rgb.last, List.getElem?_toArray, List.getElem?_cons_succ, List.getElem?_cons_zero, Option.getD_some]
              rfl
            refine Rgb.op_is (.pointer (some ⟨bx, ox + k, none⟩)) [1, 2] rfl rfl (by kernel_rfl) ?_ ?_
            · intro wx hb
              refine Rgb.from_is (some 54) rfl rfl ?_
              refine Rgb.from_is (some 55) rfl rfl ?_
              refine Rgb.from_nil fun T hT => ?_
              go_wp2
              exact hT _ _ rfl (by first | exact Rgb.Keep.refl _ | exact below_of_dr hw2 | exact hw2 | exact (Below.refl _ _).alloc (Nat.le_refl _) _) (by first | rfl | exact congrArg _ (by decide))
            refine Rgb.op_is (.int .u64 x) [3] rfl rfl (by kernel_rfl) ?_ ?_
            · intro wx hb
              refine Rgb.from_is (some 56) rfl rfl ?_
              refine Rgb.from_nil fun T hT => ?_
              have g1 := Rgb.grow_cell hb cA hn2
              go_wp2
              exact hT _ _ rfl (by first | exact Rgb.Keep.refl _ | exact below_of_dr hw2 | exact hw2 | exact (Below.refl _ _).alloc (Nat.le_refl _) _) (by first | rfl | exact congrArg _ (by decide))
            refine Rgb.op_till (fun w' u => ∃ g, u = Value.slice (some ⟨g, 0, none⟩) 1 1 ∧ Row1 w' g 24 [.int .u64 x]) [4] rfl ?_ rfl (by kernel_rfl) ?_ ?_
            · exact fun w1 w2 v hk ⟨g, e, h⟩ => ⟨g, e, h.below hk⟩
            · intro wx hb
              refine Rgb.from_is (some 57) rfl rfl ?_
              refine Rgb.from_nil fun T hT => ?_
              go_wp2
              exact hT _ _ rfl (below_alloc _ _) ⟨_, rfl, row1_new wx [_] 24⟩
            refine Rgb.op_turn (fun w' u => Own w' w.heap.size 24 u (X.map (.int .u64) ++ [.int .u64 x]) ∧ (u.ownBlock = (Value.slice A8 X.length c8).ownBlock ∨ ∃ g, u.ownBlock = some g ∧ wr.heap.size ≤ g)) [0, 5] rfl ?_ rfl (by kernel_rfl) ?_ ?_
            · exact fun w1 w2 v hk h => ⟨h.1.below hk, h.2⟩
            · intro wx hb hb1
              refine Rgb.from_is (some 53) rfl rfl ?_
              refine Rgb.from_till (some 58) rfl rfl fun v58 h58 => ?_
              refine Rgb.from_nil fun T hT => ?_
              obtain ⟨g, rfl, hg⟩ := h58
              refine wpList_push_at elt_u64 _ rfl _ _ rfl w.heap.size (hX.below hb1) rfl (.int .u64 x) g rfl hg rfl (by rw [List.length_map]; omega) (by rw [List.length_map]; omega) (Nat.le_trans hw1r hb1.size) ?_
              intro v' w' hown' hgr hbl
              go_wp2
              exact hT _ _ rfl hgr ⟨hown', hbl.imp id fun h => ⟨_, h, hb1.size⟩⟩
            refine' Rgb.op_is _ [] rfl rfl (by kernel_rfl) ?_ ?_
            rotate_left
            · intro wx hb
              refine Rgb.from_nil fun T hT => ?_
              go_wp2
              refine hT _ _ rfl (by first | exact Rgb.Keep.refl _ | exact below_of_dr hw2 | exact hw2 | exact (Below.refl _ _).alloc (Nat.le_refl _) _) ?_
              simp only [Rgb.last, List.getElem?_toArray, List.getElem?_cons_succ, List.getElem?_cons_zero, Option.getD_some]
              rfl
            refine' Rgb.op_is _ [] rfl rfl (by kernel_rfl) ?_ ?_
            rotate_left
            · intro wx hb
              refine Rgb.from_nil fun T hT => ?_
              go_wp2
              refine hT _ _ rfl (by first | exact Rgb.Keep.refl _ | exact below_of_dr hw2 | exact hw2 | exact (Below.refl _ _).alloc (Nat.le_refl _) _) ?_
              simp only [Rgb.last, List.getElem?_toArray, List.getElem?_cons_succ, List.getElem?_cons_zero, Option.getD_some]
              rfl
            refine' Rgb.op_is _ [] rfl rfl (by kernel_rfl) ?_ ?_
            rotate_left
            · intro wx hb
              refine Rgb.from_nil fun T hT => ?_
              go_wp2
              refine hT _ _ rfl (by first | exact Rgb.Keep.refl _ | exact below_of_dr hw2 | exact hw2 | exact (Below.refl _ _).alloc (Nat.le_refl _) _) ?_
              simp only [Rgb.last, List.getElem?_toArray, List.getElem?_cons_succ, List.getElem?_cons_zero, Option.getD_some]
              rfl
            refine Rgb.op_is (.pointer (some ⟨by_, oy + k, none⟩)) [8, 9] rfl rfl (by kernel_rfl) ?_ ?_
            · intro wx hb
              refine Rgb.from_is (some 61) rfl rfl ?_
              refine Rgb.from_is (some 62) rfl rfl ?_
              refine Rgb.from_nil fun T hT => ?_
              go_wp2
              exact hT _ _ rfl (by first | exact Rgb.Keep.refl _ | exact below_of_dr hw2 | exact hw2 | exact (Below.refl _ _).alloc (Nat.le_refl _) _) (by first | rfl | exact congrArg _ (by decide))
            refine Rgb.op_is (.int .u64 y) [10] rfl rfl (by kernel_rfl) ?_ ?_
            · intro wx hb
              refine Rgb.from_is (some 63) rfl rfl ?_
              refine Rgb.from_nil fun T hT => ?_
              have g1 := Rgb.grow_cell hb cB hn3
              go_wp2
              exact hT _ _ rfl (by first | exact Rgb.Keep.refl _ | exact below_of_dr hw2 | exact hw2 | exact (Below.refl _ _).alloc (Nat.le_refl _) _) (by first | rfl | exact congrArg _ (by decide))
            refine Rgb.op_of (fun w' u => ∃ g, u = Value.slice (some ⟨g, 0, none⟩) 1 1 ∧ Row1 w' g 24 [.int .u64 y] ∧ some g ≠ (Value.slice A8 X.length c8).ownBlock) [11] rfl ?_ ?_ rfl (by kernel_rfl) ?_ ?_
            · exact fun w1 w2 v hk ⟨g, e, h, hn⟩ => ⟨g, e, h.below hk, hn⟩
            · exact fun w1 w2 v hk ⟨g, e, h, hn⟩ => ⟨g, e, h.keep (hk.block g h.lt hn), hn⟩
            · intro wx hb
              refine Rgb.from_is (some 64) rfl rfl ?_
              refine Rgb.from_nil fun T hT => ?_
              go_wp2
              exact hT _ _ rfl (below_alloc _ _) ⟨_, rfl, row1_new wx [_] 24, fun e => by have := (hX.block _ e.symm).2; have := hb.size; omega⟩
            refine Rgb.walk_nil [0, 1, 2, 3, 4, 5, 6, 7, 8, 9, 10, 11, 12] (by kernel_rfl) ?_
            intro wx hb
            refine Rgb.from_is (some 53) rfl rfl ?_
            refine Rgb.from_is (some 54) rfl rfl ?_
            refine Rgb.from_is (some 55) rfl rfl ?_
            refine Rgb.from_is (some 56) rfl rfl ?_
            refine Rgb.from_is (some 57) rfl rfl ?_
            refine Rgb.from_gone (some 58) rfl rfl fun v58 => ?_
            refine Rgb.from_of (some 59) rfl rfl fun v59 h59 => ?_
            refine Rgb.from_is (some 60) rfl rfl ?_
            refine Rgb.from_is (some 61) rfl rfl ?_
            refine Rgb.from_is (some 62) rfl rfl ?_
            refine Rgb.from_is (some 63) rfl rfl ?_
            refine Rgb.from_is (some 64) rfl rfl ?_
            refine Rgb.from_of (some 65) rfl rfl fun v65 h65 => ?_
            refine Rgb.from_nil ?_
            simp only [List.map, Act.put, List.setIfInBounds_toArray, List.set_cons_zero, List.set_cons_succ]
            obtain ⟨g30, rfl, hg30, hne30⟩ := h65
            obtain ⟨h23a, h23b⟩ := h59
            have hYx := hY.keep fun g hg => hb.block g (hY.block g hg).2 fun e => hXY g e.symm hg
            refine wpList_push_at elt_u64 _ rfl _ _ rfl w.heap.size hYx rfl (.int .u64 y) g30 rfl hg30 rfl (by rw [List.length_map]; omega) (by rw [List.length_map]; omega) (Nat.le_trans hw1r hb.size) ?_
            intro v' w' hown' hgr hbl2
            have hd : ∀ g, v59.ownBlock = some g → u9.ownBlock ≠ some g := fun g hg e => by
              rcases h23b with h | ⟨g2, h, hge⟩
              · exact hXY g (h ▸ hg) e
              · rw [h] at hg
                have := (hY.block g e).2
                simp only [Option.some.injEq] at hg
                omega
            have hXn := h23a.keep fun g hg => hgr.block g (h23a.block g hg).2 fun e => hd g hg e.symm
            have hdn : ∀ g, v59.ownBlock = some g → v'.ownBlock ≠ some g := fun g hg e => by
              rcases hbl2 with h | h
              · exact hd g hg (h ▸ e)
              · rw [h] at e
                have := (h23a.block g hg).2
                simp only [Option.some.injEq] at e
                omega
            have hbn : Below w.heap.size w w' := (hbl.grown hb hw1r fun g e => (hX.block g e).1).grown hgr (Nat.le_trans hw1r hb.size) fun g e => (hY.block g e).1
            have HN := hid (show PtsR w' w.heap.size v59 v' (X ++ [x]) (Y ++ [y]) ∧ Below w.heap.size w w' from
              ⟨⟨by rw [List.map_append]; exact hXn, by rw [List.map_append]; exact hown', hdn, by simp [HP.out.len], by simp; omega, HP.out.ux.snoc hux, HP.out.uy.snoc huy⟩, hbn⟩)
            clear hYx hown' hgr hbl2 hd hXn hdn hbn hg30 hne30 h23a h23b hX hY hXY hb hbl
            go_wp2
            go_roundw
            case rel => exact ⟨k + 1, _, _, by go_num, by omega, by omega, HN, H3⟩
            case measure => simp [intOf]; omega
    · have HR := hid (show PointsQ q w (.returned (.tuple #[.slice A8 X.length c8, u9])) wr from ⟨_, _, X, Y, rfl, HI.out.1, H2.out, HI.out.2⟩)
      by_cases h1 : k < xs.length
      · have h1' : (k : Int) < (xs.length : Int) := by omega
        by_cases h2 : k < ys.length
        · have h2' : (k : Int) < (ys.length : Int) := by omega
          have h7' : ¬ (X.length : Int) < 7 := by omega
          clear hall HI
          go_wp2
          go_ret2
          exact HR.out
        · have h2' : ¬ (k : Int) < (ys.length : Int) := by omega
          clear hall HI
          go_wp2
          go_ret2
          exact HR.out
      · have h1' : ¬ (k : Int) < (xs.length : Int) := by omega
        clear hall HI
        go_wp2
        go_ret2
        exact HR.out
end Go.Proofs.YtcojnjhffmhbiaaDoor
