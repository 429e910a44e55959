/-
  The polynomial through some of the points; which points it does not go through: the program's.
-/
import Derived.Test.YtmmmdidbnjcooaaDoorRobA
import Derived.Test.YtmmmdidbnjcooaaDoorPlyD
import Derived.Test.YtmmmdidbnjcooaaDoorGrow
namespace Go.Proofs.YtmmmdidbnjcooaaDoor
open Go.RowKit Go.Shelf

attribute [local go_sem] Oper.semAt_some

theorem sets_ok : ∀ m, m ≤ 10 → SetsOk m
  | 0, _ => sets1_zero
  | m + 1, h => sets1_succ m (by omega) (sets_ok m (by omega))

/-- the points, as a value. -/
abbrev pts (A B : Option Addr) (n m c d : Nat) (q : Int) : Value := .agg #[.slice A n c, .slice B m d, .int .u64 q]
abbrev ptsL (A B : Option Addr) (n m c d : Nat) (q : Int) : List Value := [.slice A n c, .slice B m d, .int .u64 q]
/-- some of them. -/
def pick (l : List Int) (s : List Nat) : List Int := s.map fun i => l.getD i 0
theorem pick_snoc {l : List Int} {s : List Nat} {k i : Nat} (h : s[k]? = some i) : pick l (s.take (k + 1)) = pick l (s.take k) ++ [l.getD i 0] := by
  unfold pick
  rw [take_snocP h, List.map_append]; rfl
theorem pick_u64 {l : List Int} (h : U64s l) (s : List Nat) : U64s (pick l s) := by
  intro z hz
  obtain ⟨i, _, rfl⟩ := List.mem_map.1 hz
  rw [List.getD_eq_getElem?_getD]
  cases hi : l[i]? with
  | none => exact ⟨by simp, by simp⟩
  | some z => exact h z (List.mem_of_getElem? hi)
set_option maxRecDepth 100000 in
set_option maxHeartbeats 4000000 in
theorem rthrough_c (A B S : Option Addr) (l m : List Int) (s : List Nat) (c d e : Nat) (q : Int) (w : World) (hA : Cells w A (l.map (.int .u64))) (hB : Cells w B (m.map (.int .u64))) (hS : Cells w S (s.map fun (i : Nat) => Value.int .i64 (i : Int)))
    (hl : l.length ≤ 1000) (hlm : l.length = m.length) (hs : s.length ≤ 1000) (hsl : ∀ i ∈ s, i < l.length) (hu : U64s l) (hu' : U64s m) (hq : U64 q) :
    Calls Tryd.prog 59 #[pts A B l.length m.length c d q, .slice S s.length e] w (NewTwo (tVal (pick l s) (pick m s) q) (tErr (pick l s) (pick m s) q) w) := by
  have hb0 := below_alloc w (.cells (ptsL A B l.length m.length c d q).toArray 92)
  have hP := row1_new w (ptsL A B l.length m.length c d q) 92
  have HA := hid hA
  have HB := hid hB
  have HS := hid hS
  have HLM := hid hlm
  clear hA hB hS hlm
  go_enter Tryd.func59, Tryd.ntmps59
  go_wp2
  simp only [List.toArray] at hb0 hP
  generalize w.alloc (.cells #[.slice A l.length c, .slice B m.length d, .int .u64 q] 92) = w1 at *
  have HP := hid hP
  have HB0 := hid hb0
  clear hP hb0
  go_loopw [6, 7, 12] (fun x y i wr => ∃ k : Nat, i = .int .i64 (k : Int) ∧ k ≤ s.length ∧ Hid (Own wr w1.heap.size 24 x ((pick l (s.take k)).map (.int .u64)) ∧ Own wr w1.heap.size 24 y ((pick m (s.take k)).map (.int .u64)) ∧ (∀ g, x.ownBlock = some g → y.ownBlock ≠ some g) ∧ Below w1.heap.size w1 wr)) (fun _ _ i _ => s.length - (intOf i).toNat)
  case atStart => exact ⟨0, rfl, by omega, hid ⟨Own.nil _ _ _, Own.nil _ _ _, fun g h => (by cases h), Below.refl _ _⟩⟩
  case round =>
    obtain ⟨k, rfl, hk, HI⟩ := hrel
    by_cases hlt : k < s.length
    · obtain ⟨i, hi⟩ := get_of_lt hlt
      have hil := hsl i (List.mem_of_getElem? hi)
      have hbw := below_next HB0.out HB0.out.size HI.out.2.2.2
      obtain ⟨z, hz⟩ := get_of_lt hil
      obtain ⟨z', hz'⟩ := get_of_lt (l := m) (show i < m.length by have := HLM.out; omega)
      obtain ⟨b1, off1, rfl, dS⟩ := HS.out.at_map hi
      obtain ⟨b2, off2, rfl, dA⟩ := HA.out.at_map hz
      obtain ⟨b3, off3, rfl, dB⟩ := HB.out.at_map hz'
      have cS := (hbw.cell (lt_of_cell dS)).trans dS
      have cA := (hbw.cell (lt_of_cell dA)).trans dA
      have cB := (hbw.cell (lt_of_cell dB)).trans dB
      have hP := HP.out.below HI.out.2.2.2
      have hX := HI.out.1
      have hY := HI.out.2.1
      have hXY := HI.out.2.2.1
      have hbl := HI.out.2.2.2
      have hi1 : (i : Int) < (l.length : Int) := by omega
      have hi2 : (i : Int) < (m.length : Int) := by have := HLM.out; omega
      have HX1 := hid (show pick l (s.take (k + 1)) = pick l (s.take k) ++ [z] by rw [pick_snoc hi, List.getD_eq_getElem?_getD, hz]; rfl)
      have HY1 := hid (show pick m (s.take (k + 1)) = pick m (s.take k) ++ [z'] by rw [pick_snoc hi, List.getD_eq_getElem?_getD, hz']; rfl)
      have hlX : ((pick l (s.take k)).map (Value.int .u64)).length ≤ 1000 := by simp [pick]; omega
      have hlY : ((pick m (s.take k)).map (Value.int .u64)).length ≤ 1000 := by simp [pick]; omega
      have hnx : ∀ b, b < w1.heap.size → some b ≠ u6.ownBlock := fun b hb e => by have := (hX.block b e.symm).1; omega
      have hw1 := HB0.out.size
      have hn2 := hnx _ (Nat.lt_of_lt_of_le (lt_of_cell dA) hw1)
      have hn3 := hnx _ (Nat.lt_of_lt_of_le (lt_of_cell dB) hw1)
      have hn4 := hnx _ HP.out.lt
      have cp0 := hP.cell (k := 0) rfl
      have cp1 := hP.cell (k := 1) rfl
      have hw1r : w1.heap.size ≤ wr.heap.size := hbl.size
      clear HI hi hz hz' dS dA dB hnx
      go_upto_region 5 with (fail)
      refine Rgb.wp_region (l := [_, _, _, _, _, _, _, _, _, _, _, _, _, _, _]) (tail := [_, _, _]) (Rgb.growWay wr u6.ownBlock 7) [some 16, some 17, some 18, some 19, some 20, some 21, some 22, some 23, some 24, some 25, some 26, some 27, some 28, some 29, some 30, some 31, some 6, some 7] 40 (by kernel_rfl) (by kernel_rfl) (by kernel_rfl) rfl (Rgb.growWay_fair _ _ _) (Rgb.grow_drew _ _) (Rgb.keep_drew _) ?_
      refine' Rgb.op_is _ [] rfl rfl (by kernel_rfl) ?_ ?_
      rotate_left
      · intro wx hb
        refine Rgb.from_nil fun T hT => ?_
        go_wp2
        refine hT _ _ rfl (by first | exact Rgb.Keep.refl _ | exact below_of_dr hw2 | exact hw2 | exact (Below.refl _ _).alloc (Nat.le_refl _) _) ?_
        simp only [Rgb.last, List.getElem?_toArray, List.getElem?_cons_succ, List.getElem?_cons_zero, Option.getD_some]
        rfl
      refine' Rgb.op_is _ [] rfl rfl (by kernel_rfl) ?_ ?_
      rotate_left
      · intro wx hb
        refine Rgb.from_nil fun T hT => ?_
        go_wp2
        refine hT _ _ rfl (by first | exact Rgb.Keep.refl _ | exact below_of_dr hw2 | exact hw2 | exact (Below.refl _ _).alloc (Nat.le_refl _) _) ?_
        simp only [Rgb.last, List.getElem?_toArray, List.getElem?_cons_succ, List.getElem?_cons_zero, Option.getD_some]
        rfl
      refine Rgb.op_is (.slice (some ⟨b2, off2, none⟩) l.length c) [1] rfl rfl (by kernel_rfl) ?_ ?_
      · intro wx hb
        refine Rgb.from_is (some 17) rfl rfl ?_
        refine Rgb.from_nil fun T hT => ?_
        have g1 := Rgb.grow_cell hb cp0 hn4
        go_wp2
        exact hT _ _ rfl (by first | exact Rgb.Keep.refl _ | exact below_of_dr hw2 | exact hw2 | exact (Below.refl _ _).alloc (Nat.le_refl _) _) (by first | rfl | exact congrArg _ (by decide))
      refine' Rgb.op_is _ [] rfl rfl (by kernel_rfl) ?_ ?_
      rotate_left
      · intro wx hb
        refine Rgb.from_nil fun T hT => ?_
        go_wp2
        refine hT _ _ rfl (by first | exact Rgb.Keep.refl _ | exact below_of_dr hw2 | exact hw2 | exact (Below.refl _ _).alloc (Nat.le_refl _) _) ?_
        simp only [Rgb.last, List.getElem?_toArray, List.getElem?_cons_succ, List.getElem?_cons_zero, Option.getD_some]
        rfl
      refine Rgb.op_is (.pointer (some ⟨b2, off2 + i, none⟩)) [2, 3] rfl rfl (by kernel_rfl) ?_ ?_
      · intro wx hb
        refine Rgb.from_is (some 18) rfl rfl ?_
        refine Rgb.from_is (some 19) rfl rfl ?_
        refine Rgb.from_nil fun T hT => ?_
        go_wp2
        exact hT _ _ rfl (by first | exact Rgb.Keep.refl _ | exact below_of_dr hw2 | exact hw2 | exact (Below.refl _ _).alloc (Nat.le_refl _) _) (by first | rfl | exact congrArg _ (by decide))
      refine Rgb.op_is (.int .u64 z) [4] rfl rfl (by kernel_rfl) ?_ ?_
      · intro wx hb
        refine Rgb.from_is (some 20) rfl rfl ?_
        refine Rgb.from_nil fun T hT => ?_
        have g1 := Rgb.grow_cell hb cA hn2
        go_wp2
        exact hT _ _ rfl (by first | exact Rgb.Keep.refl _ | exact below_of_dr hw2 | exact hw2 | exact (Below.refl _ _).alloc (Nat.le_refl _) _) (by first | rfl | exact congrArg _ (by decide))
      refine Rgb.op_till (fun w' u => ∃ g, u = Value.slice (some ⟨g, 0, none⟩) 1 1 ∧ Row1 w' g 24 [.int .u64 z]) [5] rfl ?_ rfl (by kernel_rfl) ?_ ?_
      · exact fun w1 w2 v hk ⟨g, e, h⟩ => ⟨g, e, h.below hk⟩
      · intro wx hb
        refine Rgb.from_is (some 21) rfl rfl ?_
        refine Rgb.from_nil fun T hT => ?_
        go_wp2
        exact hT _ _ rfl (below_alloc _ _) ⟨_, rfl, row1_new wx [_] 24⟩
      refine Rgb.op_turn (fun w' u => Own w' w1.heap.size 24 u ((pick l (s.take k)).map (.int .u64) ++ [.int .u64 z]) ∧ (u.ownBlock = u6.ownBlock ∨ ∃ g, u.ownBlock = some g ∧ wr.heap.size ≤ g)) [0, 6] rfl ?_ rfl (by kernel_rfl) ?_ ?_
      · exact fun w1 w2 v hk h => ⟨h.1.below hk, h.2⟩
      · intro wx hb hb1
        refine Rgb.from_is (some 16) rfl rfl ?_
        refine Rgb.from_till (some 22) rfl rfl fun v22 h22 => ?_
        refine Rgb.from_nil fun T hT => ?_
        obtain ⟨g, rfl, hg⟩ := h22
        refine wpList_push_at elt_u64 _ rfl _ _ rfl w1.heap.size (hX.below hb1) rfl (.int .u64 z) g rfl hg rfl (by omega) (by omega) (Nat.le_trans hw1r hb1.size) ?_
        intro v' w' hown' hgr hbl
        go_wp2
        exact hT _ _ rfl hgr ⟨hown', hbl.imp id fun h => ⟨_, h, hb1.size⟩⟩
      refine' Rgb.op_is _ [] rfl rfl (by kernel_rfl) ?_ ?_
      rotate_left
      · intro wx hb
        refine Rgb.from_nil fun T hT => ?_
        go_wp2
        refine hT _ _ rfl (by first | exact Rgb.Keep.refl _ | exact below_of_dr hw2 | exact hw2 | exact (Below.refl _ _).alloc (Nat.le_refl _) _) ?_
        simp only [Rgb.last, List.getElem?_toArray, List.getElem?_cons_succ, List.getElem?_cons_zero, Option.getD_some]
        rfl
      refine' Rgb.op_is _ [] rfl rfl (by kernel_rfl) ?_ ?_
      rotate_left
      · intro wx hb
        refine Rgb.from_nil fun T hT => ?_
        go_wp2
        refine hT _ _ rfl (by first | exact Rgb.Keep.refl _ | exact below_of_dr hw2 | exact hw2 | exact (Below.refl _ _).alloc (Nat.le_refl _) _) ?_
        simp only [Rgb.last, List.getElem?_toArray, List.getElem?_cons_succ, List.getElem?_cons_zero, Option.getD_some]
        rfl
      refine Rgb.op_is (.slice (some ⟨b3, off3, none⟩) m.length d) [9] rfl rfl (by kernel_rfl) ?_ ?_
      · intro wx hb
        refine Rgb.from_is (some 25) rfl rfl ?_
        refine Rgb.from_nil fun T hT => ?_
        have g1 := Rgb.grow_cell hb cp1 hn4
        go_wp2
        exact hT _ _ rfl (by first | exact Rgb.Keep.refl _ | exact below_of_dr hw2 | exact hw2 | exact (Below.refl _ _).alloc (Nat.le_refl _) _) (by first | rfl | exact congrArg _ (by decide))
      refine' Rgb.op_is _ [] rfl rfl (by kernel_rfl) ?_ ?_
      rotate_left
      · intro wx hb
        refine Rgb.from_nil fun T hT => ?_
        go_wp2
        refine hT _ _ rfl (by first | exact Rgb.Keep.refl _ | exact below_of_dr hw2 | exact hw2 | exact (Below.refl _ _).alloc (Nat.le_refl _) _) ?_
        simp only [Rgb.last, List.getElem?_toArray, List.getElem?_cons_succ, List.getElem?_cons_zero, Option.getD_some]
        rfl
      refine Rgb.op_is (.pointer (some ⟨b3, off3 + i, none⟩)) [10, 11] rfl rfl (by kernel_rfl) ?_ ?_
      · intro wx hb
        refine Rgb.from_is (some 26) rfl rfl ?_
        refine Rgb.from_is (some 27) rfl rfl ?_
        refine Rgb.from_nil fun T hT => ?_
        go_wp2
        exact hT _ _ rfl (by first | exact Rgb.Keep.refl _ | exact below_of_dr hw2 | exact hw2 | exact (Below.refl _ _).alloc (Nat.le_refl _) _) (by first | rfl | exact congrArg _ (by decide))
      refine Rgb.op_is (.int .u64 z') [12] rfl rfl (by kernel_rfl) ?_ ?_
      · intro wx hb
        refine Rgb.from_is (some 28) rfl rfl ?_
        refine Rgb.from_nil fun T hT => ?_
        have g1 := Rgb.grow_cell hb cB hn3
        go_wp2
        exact hT _ _ rfl (by first | exact Rgb.Keep.refl _ | exact below_of_dr hw2 | exact hw2 | exact (Below.refl _ _).alloc (Nat.le_refl _) _) (by first | rfl | exact congrArg _ (by decide))
      refine Rgb.op_of (fun w' u => ∃ g, u = Value.slice (some ⟨g, 0, none⟩) 1 1 ∧ Row1 w' g 24 [.int .u64 z'] ∧ some g ≠ u6.ownBlock) [13] rfl ?_ ?_ rfl (by kernel_rfl) ?_ ?_
      · exact fun w1 w2 v hk ⟨g, e, h, hn⟩ => ⟨g, e, h.below hk, hn⟩
      · exact fun w1 w2 v hk ⟨g, e, h, hn⟩ => ⟨g, e, h.keep (hk.block g h.lt hn), hn⟩
      · intro wx hb
        refine Rgb.from_is (some 29) rfl rfl ?_
        refine Rgb.from_nil fun T hT => ?_
        go_wp2
        exact hT _ _ rfl (below_alloc _ _) ⟨_, rfl, row1_new wx [_] 24, fun e => by have := (hX.block _ e.symm).2; have := hb.size; omega⟩
      refine Rgb.walk_nil [0, 1, 2, 3, 4, 5, 6, 7, 8, 9, 10, 11, 12, 13, 14] (by kernel_rfl) ?_
      intro wx hb
      refine Rgb.from_is (some 16) rfl rfl ?_
      refine Rgb.from_is (some 17) rfl rfl ?_
      refine Rgb.from_is (some 18) rfl rfl ?_
      refine Rgb.from_is (some 19) rfl rfl ?_
      refine Rgb.from_is (some 20) rfl rfl ?_
      refine Rgb.from_is (some 21) rfl rfl ?_
      refine Rgb.from_gone (some 22) rfl rfl fun v22 => ?_
      refine Rgb.from_of (some 23) rfl rfl fun v23 h23 => ?_
      refine Rgb.from_is (some 24) rfl rfl ?_
      refine Rgb.from_is (some 25) rfl rfl ?_
      refine Rgb.from_is (some 26) rfl rfl ?_
      refine Rgb.from_is (some 27) rfl rfl ?_
      refine Rgb.from_is (some 28) rfl rfl ?_
      refine Rgb.from_is (some 29) rfl rfl ?_
      refine Rgb.from_of (some 30) rfl rfl fun v30 h30 => ?_
      refine Rgb.from_nil ?_
      simp only [List.map, Act.put, List.setIfInBounds_toArray, List.set_cons_zero, List.set_cons_succ]
      obtain ⟨g30, rfl, hg30, hne30⟩ := h30
      obtain ⟨h23a, h23b⟩ := h23
      have hYx := hY.keep fun g hg => hb.block g (hY.block g hg).2 fun e => hXY g e.symm hg
      refine wpList_push_at elt_u64 _ rfl _ _ rfl w1.heap.size hYx rfl (.int .u64 z') g30 rfl hg30 rfl (by omega) (by omega) (Nat.le_trans hw1r hb.size) ?_
      intro v' w' hown' hgr hbl2
      have hd : ∀ g, v23.ownBlock = some g → u7.ownBlock ≠ some g := fun g hg e => by
        rcases h23b with h | ⟨g2, h, hge⟩
        · exact hXY g (h ▸ hg) e
        · rw [h] at hg
          have := (hY.block g e).2
          simp only [Option.some.injEq] at hg
          omega
      have hXn := h23a.keep fun g hg => hgr.block g (h23a.block g hg).2 fun e => hd g hg e.symm
      have hdn : ∀ g, v23.ownBlock = some g → v'.ownBlock ≠ some g := fun g hg e => by
        rcases hbl2 with h | h
        · exact hd g hg (h ▸ e)
        · rw [h] at e
          have := (h23a.block g hg).2
          simp only [Option.some.injEq] at e
          omega
      have hbn : Below w1.heap.size w1 w' := (hbl.grown hb hw1r fun g e => (hX.block g e).1).grown hgr (Nat.le_trans hw1r hb.size) fun g e => (hY.block g e).1
      have HN := hid (show Own w' w1.heap.size 24 v23 ((pick l (s.take (k + 1))).map (.int .u64)) ∧ Own w' w1.heap.size 24 v' ((pick m (s.take (k + 1))).map (.int .u64)) ∧ (∀ g, v23.ownBlock = some g → v'.ownBlock ≠ some g) ∧ Below w1.heap.size w1 w' by
        rw [HX1.out, HY1.out, List.map_append, List.map_append]
        exact ⟨hXn, hown', hdn, hbn⟩)
      clear hYx hown' hgr hbl2 hd hXn hdn hbn hg30 hne30 h23a h23b hX hY hXY hb hbl hP
      go_wp2
      go_roundw
      case rel => exact ⟨k + 1, by go_num, by omega, HN⟩
      case measure => simp [intOf]; omega
    · obtain rfl : k = s.length := by omega
      rw [List.take_length] at HI
      obtain ⟨A6, c6, e6, hc6⟩ := HI.out.1.form
      obtain ⟨A7, c7, e7, hc7⟩ := HI.out.2.1.form
      have hpl : (pick l s).length = s.length := by simp [pick]
      have hpm : (pick m s).length = s.length := by simp [pick]
      rw [List.length_map] at e6 e7
      subst e6
      subst e7
      have hP := HP.out.below HI.out.2.2.2
      have hbw := below_next HB0.out HB0.out.size HI.out.2.2.2
      have cp2 := hP.cell (k := 2) rfl
      have HPT := hid (pthrough_c A6 A7 (pick l s) (pick m s) c6 c7 q wr hc6 hc7 (by omega) (by omega) (pick_u64 hu s) (pick_u64 hu' s) hq)
      have HPL := hid hpl
      have HPM := hid hpm
      clear hpl hpm HI hc6 hc7 hP
      go_wp2_with (fail)
      refine HPT.out.mono ?_
      rintro e w5 ⟨v5, rfl, ho5, hb5⟩
      go_wp2
      go_ret2
      exact ⟨v5, rfl, ho5.from_ hbw.size, below_next hbw hbw.size hb5⟩
end Go.Proofs.YtmmmdidbnjcooaaDoor
