/-
  A copy of a model.
-/
import Derived.Test.YtnmadmcegdpecaaFixW
import Derived.Test.YtnmadmcegdpecaaMany
import Derived.Test.YtnmadmcegdpecaaAwake07
namespace Go.Proofs.Ytnmadmcegdpecaa
open Go.RowKit

/-- rows as cells. -/
def rowsV (k : IntKind) (W : List (List Int)) : List (List Value) := W.map (·.map (.int k))
theorem rowsV_take {k : IntKind} {W : List (List Int)} {j : Nat} {l : List Int} (h : W[j]? = some l) : rowsV k (W.take j) ++ [l.map (.int k)] = rowsV k (W.take (j + 1)) := by
  unfold rowsV
  rw [take_snoc' h]; simp

/-- the result of a copy. -/
def NewModel (W : List (List Int)) (b : List Int) (w : World) (e : Ending) (w' : World) : Prop := ∃ A c B d, e = .returned (mval A W.length c B b.length d) ∧ GridI w' A W ∧ Cells w' B (b.map (.int .i64)) ∧ Below w.heap.size w w'

/-- all blocks that lay there stay, but for one. -/
def Save (gc : Nat) (a w : World) : Prop := a.heap.size ≤ w.heap.size ∧ ∀ k, k < a.heap.size → k ≠ gc → w.heap[k]? = a.heap[k]?
theorem Save.refl (gc : Nat) (a : World) : Save gc a a := ⟨Nat.le_refl _, fun _ _ _ => rfl⟩
theorem Save.row1 {gc g : Nat} {a w : World} {e : TypeId} {xs : List Value} (h : Save gc a w) (hr : Row1 a g e xs) (hne : g ≠ gc) : Row1 w g e xs := hr.keep (h.2 g hr.lt hne)
theorem Save.rowT {gc : Nat} {a w : World} {e e2 : TypeId} {v : Value} {xs ys : List Value} (h : Save gc a w) (hr : RowT a e v xs) (hc : Row1 a gc e2 ys) (hne : e ≠ e2) : RowT w e v xs :=
  hr.block fun b arr fz h1 => h.2 b (Array.getElem?_eq_some_iff.1 h1).1 fun hb => by
    subst hb
    unfold Row1 at hc
    rw [hc] at h1
    simp only [Option.some.injEq, Obj.cells.injEq] at h1
    exact hne h1.2.1.symm
theorem Save.step {gc : Nat} {a w w1 w2 : World} (h : Save gc a w) (h1 : Below w.heap.size w w1) (h2 : Below a.heap.size w1 w2) (p : Addr) (hp : p.block = gc) (u : Value) : Save gc a (w2.setCell p u) := by
  have s1 := h1.size
  have s2 := h2.size
  refine ⟨by simp [World.setCell]; have := h.1; omega, fun k hk hne => ?_⟩
  rw [Below.heap_setCell w2 p u k (by rw [hp]; exact hne), h2.block k hk, h1.block k (by have := h.1; omega)]
  exact h.2 k hk hne
theorem OwnRows.far {w : World} {base : Nat} {e0 e e2 : TypeId} {v : Value} {f : List (List Value)} {gc : Nat} {xs : List Value} (h : OwnRows w base e0 e v f) (hc : Row1 w gc e2 xs) (h0 : e0 ≠ e2) (h1 : e ≠ e2) (p : Addr) (hp : p.block = gc) (u : Value) : OwnRows (w.setCell p u) base e0 e v f := by
  have key : ∀ b e' arr fz, w.heap[b]? = some (Obj.cells arr e' fz) → e' ≠ e2 → (w.setCell p u).heap[b]? = w.heap[b]? := fun b e' arr fz hb hne => by
    refine Below.heap_setCell w p u b fun hbp => ?_
    rw [hp] at hbp
    subst hbp
    unfold Row1 at hc
    rw [hc] at hb
    simp only [Option.some.injEq, Obj.cells.injEq] at hb
    exact hne hb.2.1.symm
  obtain ⟨vs, a1, a2, a3⟩ := h
  refine ⟨vs, a1.keep fun g hg => ?_, a2, fun j u' ys b1 b2 => (a3 j u' ys b1 b2).block fun b arr fz hb => key b e arr fz hb h1⟩
  rcases a1.2 with ⟨rfl, _⟩ | ⟨g', cap, cur, rfl, _, hg', _⟩
  · cases hg
  · simp only [Value.ownBlock, Option.some.injEq] at hg
    subst hg
    exact key g' e0 _ _ hg' h0

theorem RowT.far {w : World} {e e2 : TypeId} {v : Value} {xs ys : List Value} {gc : Nat} (h : RowT w e v xs) (hc : Row1 w gc e2 ys) (hne : e ≠ e2) (p : Addr) (hp : p.block = gc) (u : Value) : RowT (w.setCell p u) e v xs :=
  h.block fun b arr fz hb => Below.heap_setCell w p u b fun hbp => by
    rw [hp] at hbp
    subst hbp
    unfold Row1 at hc
    rw [hc] at hb
    simp only [Option.some.injEq, Obj.cells.injEq] at hb
    exact hne hb.2.1.symm

set_option maxRecDepth 100000 in
set_option maxHeartbeats 2000000 in
theorem copied_c (A B : Option Addr) (W : List (List Int)) (b : List Int) (c d : Nat) (w : World) (hA : GridI w A W) (hB : Cells w B (b.map (.int .i64))) (l1 : W.length ≤ 40) (l2 : b.length ≤ 40) (l3 : ∀ l ∈ W, l.length ≤ 40) :
    Calls Try.prog 46 #[mval A W.length c B b.length d] w (NewModel W b w) := by
  have hM0 := row1_new w [.slice A W.length c, .slice B b.length d] 44
  have hb0 : Below w.heap.size w (((w.alloc (.cells #[.slice A W.length c, .slice B b.length d] 44)).alloc (.cells #[.slice none 0 0, .slice none 0 0] 44)).alloc (.cells #[] 2)) := ((below_alloc w _).alloc (by simp) _).alloc (by simp; omega) _
  have hB0 := hB.below hb0
  have hlenb : (b.map (Value.int .i64)).length = b.length := by simp
  have hM1 : Row1 (((w.alloc (.cells #[.slice A W.length c, .slice B b.length d] 44)).alloc (.cells #[.slice none 0 0, .slice none 0 0] 44)).alloc (.cells #[] 2)) w.heap.size 44 [.slice A W.length c, .slice B b.length d] := (hM0.alloc _).alloc _
  have hR1 : Row1 (((w.alloc (.cells #[.slice A W.length c, .slice B b.length d] 44)).alloc (.cells #[.slice none 0 0, .slice none 0 0] 44)).alloc (.cells #[] 2)) (w.heap.size + 1) 44 [.slice none 0 0, .slice none 0 0] := (row1_at (w.alloc (.cells #[.slice A W.length c, .slice B b.length d] 44)) [.slice none 0 0, .slice none 0 0] 44 (w.heap.size + 1) (by simp)).alloc _
  go_enter Try.func46, Try.ntmps46
  go_wp2_with (at_builtin; refine wpList_fresh elt_i64 _ rfl _ _ rfl rfl hB0 (by simp; rfl) (fun u hu => by simp only [List.mem_map] at hu; obtain ⟨z, _, rfl⟩ := hu; rfl) (by simp; omega) (by simp; omega) ?_; intro v' w2 hrt hb3; obtain ⟨B', d', rfl, hcB, _⟩ := hrt.form; rw [List.length_map])
  have hs2 := hb3.size
  simp at hs2
  have hb4 := below_next hb0 hb0.size hb3
  have hM2 := (hM1.below hb3).alloc (.cells #[.slice none 0 0, .slice B' b.length d'] 44)
  have hR2 := (hR1.below hb3).alloc (.cells #[.slice none 0 0, .slice B' b.length d'] 44)
  have hC2 := row1_new w2 [.slice none 0 0, .slice B' b.length d'] 44
  have hT2 := hrt.below (below_alloc w2 (.cells #[.slice none 0 0, .slice B' b.length d'] 44))
  have hb5 := below_next hb4 hb4.size (below_alloc w2 (.cells #[.slice none 0 0, .slice B' b.length d'] 44))
  have hsw : (w2.alloc (.cells #[.slice none 0 0, .slice B' b.length d'] 44)).heap.size = w2.heap.size + 1 := by simp
  rw [List.length_map] at hT2
  simp only [List.toArray] at hC2
  generalize w2.alloc (.cells #[.slice none 0 0, .slice B' b.length d'] 44) = wc at *
  obtain ⟨gc, hgc⟩ : ∃ g, w2.heap.size = g := ⟨_, rfl⟩
  rw [hgc] at hC2 hs2 hsw ⊢
  clear hM0 hb0 hB0 hM1 hR1 hb3 hb4 hrt hcB hlenb hgc
  go_loopw [4] (fun i wr => ∃ k : Nat, i = .int .i64 k ∧ k ≤ W.length ∧ Below w.heap.size w wr ∧ Save gc wc wr ∧ ∃ vW, Row1 wr gc 44 [vW, .slice B' b.length d'] ∧ OwnRows wr wc.heap.size 42 2 vW (rowsV .i64 (W.take k))) (fun i _ => W.length - (intOf i).toNat)
  case atStart => exact ⟨0, rfl, by omega, hb5, Save.refl _ _, _, hC2, by simpa [rowsV] using OwnRows.nil wc wc.heap.size 42 2⟩
  case round =>
    obtain ⟨k, rfl, hk, hbw, hsv, vW, hC, vs, hown, hvl, hvr⟩ := hrel
    have hM3 := hsv.row1 hM2 (by omega)
    have hR3 := hsv.row1 hR2 (by omega)
    obtain ⟨AW, cW, rfl, hcW⟩ := hown.form
    have m0 := hM3.cell (k := 0) rfl
    have g0 := hC.cell (k := 0) rfl
    by_cases hlt : k < W.length
    · obtain ⟨l, hrow⟩ := get_of_lt hlt
      obtain ⟨o1, off1, A', c', rfl, hc0, hcs, hln⟩ := (hA.below hbw).at_ hrow
      have hll : l.length ≤ 40 := l3 l (List.mem_of_getElem? hrow)
      have HT := hid (rowsV_take (k := .i64) hrow)
      have hvl' : vs.length = k := by rw [hvl]; simp [rowsV]; omega
      have HVL := hid (⟨hvl, hvl'⟩ : _ ∧ _)
      clear hrow hvl hvl' m0 g0
      have m0 := hM3.cell (k := 0) rfl
      go_wp2
      refine Rg.wp_region (l := [_, _, _, _, _, _, _, _, _, _]) (tail := [_, _, _]) (Rg.grows _ 13) [some 17, some 18, some 19, some 20, some 21, some 22, some 23, some 24, some 25, some 26, some 27, some 28, none] 30 (by kernel_rfl) (by kernel_rfl) (by kernel_rfl) rfl (Rg.grows_fair _ _) (Rg.keep_drew _) (trivial) ?_
      refine' Rg.op_is _ [] rfl rfl (by kernel_rfl) ?_ ?_
      rotate_left
      · intro wx hb
        refine Rg.from_nil fun T hT => ?_
        go_wp2
        refine hT _ _ rfl (by first | exact Rg.Keep.refl _ | exact below_of_dr hw2 | exact hw2 | exact (Below.refl _ _).alloc (Nat.le_refl _) _) ?_
        simp only [Rg.last, List.getElem?_toArray, List.getElem?_cons_succ, List.getElem?_cons_zero, Option.getD_some]
        rfl
      refine Rg.op_is (.slice AW vs.length cW) [0] rfl rfl (by kernel_rfl) ?_ ?_
      · intro wx hb
        refine Rg.from_is (some 17) rfl rfl ?_
        refine Rg.from_nil fun T hT => ?_
        have g1 := (hC.below hb).cell (k := 0) rfl
        go_wp2
        exact hT _ _ rfl (by first | exact Rg.Keep.refl _ | exact below_of_dr hw2 | exact hw2 | exact (Below.refl _ _).alloc (Nat.le_refl _) _) (by first | rfl | exact congrArg _ (by decide))
      refine Rg.op_of (fun w' v => ∃ g, v = Value.slice (some ⟨g, 0, none⟩) 0 0) [] rfl ?_ ?_ rfl (by kernel_rfl) ?_ ?_
      · exact fun _ _ _ _ h => h
      · exact fun _ _ _ _ h => h
      · intro wx hb
        refine Rg.from_nil fun T hT => ?_
        go_wp2
        exact hT _ _ rfl (below_alloc _ _) ⟨_, rfl⟩
      refine' Rg.op_is _ [] rfl rfl (by kernel_rfl) ?_ ?_
      rotate_left
      · intro wx hb
        refine Rg.from_nil fun T hT => ?_
        go_wp2
        refine hT _ _ rfl (by first | exact Rg.Keep.refl _ | exact below_of_dr hw2 | exact hw2 | exact (Below.refl _ _).alloc (Nat.le_refl _) _) ?_
        simp only [Rg.last, List.getElem?_toArray, List.getElem?_cons_succ, List.getElem?_cons_zero, Option.getD_some]
        rfl
      refine Rg.op_is (.slice (some ⟨o1, off1, none⟩) W.length c) [3] rfl rfl (by kernel_rfl) ?_ ?_
      · intro wx hb
        refine Rg.from_is (some 20) rfl rfl ?_
        refine Rg.from_nil fun T hT => ?_
        have g1 := (hM3.below hb).cell (k := 0) rfl
        go_wp2
        exact hT _ _ rfl (by first | exact Rg.Keep.refl _ | exact below_of_dr hw2 | exact hw2 | exact (Below.refl _ _).alloc (Nat.le_refl _) _) (by first | rfl | exact congrArg _ (by decide))
      refine' Rg.op_is _ [] rfl rfl (by kernel_rfl) ?_ ?_
      rotate_left
      · intro wx hb
        refine Rg.from_nil fun T hT => ?_
        go_wp2
        refine hT _ _ rfl (by first | exact Rg.Keep.refl _ | exact below_of_dr hw2 | exact hw2 | exact (Below.refl _ _).alloc (Nat.le_refl _) _) ?_
        simp only [Rg.last, List.getElem?_toArray, List.getElem?_cons_succ, List.getElem?_cons_zero, Option.getD_some]
        rfl
      refine' Rg.op_is _ [4, 5] rfl rfl (by kernel_rfl) ?_ ?_
      rotate_left
      · intro wx hb
        refine Rg.from_is (some 21) rfl rfl ?_
        refine Rg.from_is (some 22) rfl rfl ?_
        refine Rg.from_nil fun T hT => ?_
        go_wp2
        refine hT _ _ rfl (by first | exact Rg.Keep.refl _ | exact below_of_dr hw2 | exact hw2 | exact (Below.refl _ _).alloc (Nat.le_refl _) _) ?_
        simp only [Rg.last, List.getElem?_toArray, List.getElem?_cons_succ, List.getElem?_cons_zero, Option.getD_some]
        rfl
      refine Rg.op_is (.slice A' l.length c') [6] rfl rfl (by kernel_rfl) ?_ ?_
      · intro wx hb
        refine Rg.from_is (some 23) rfl rfl ?_
        refine Rg.from_nil fun T hT => ?_
        have g1 := (hb.cell (lt_of_cell hc0)).trans hc0
        go_wp2
        exact hT _ _ rfl (by first | exact Rg.Keep.refl _ | exact below_of_dr hw2 | exact hw2 | exact (Below.refl _ _).alloc (Nat.le_refl _) _) (by first | rfl | exact congrArg _ (by decide))
      refine Rg.op_of (fun w' v => RowT w' 2 v (l.map (.int .i64))) [2, 7] rfl ?_ ?_ rfl (by kernel_rfl) ?_ ?_
      · exact fun w1 w2 v hk h => h.below hk
      · exact fun w1 w2 v hk h => h.below hk
      · intro wx hb
        refine Rg.from_of (some 19) rfl rfl fun v19 h19 => ?_
        refine Rg.from_is (some 24) rfl rfl ?_
        refine Rg.from_nil fun T hT => ?_
        obtain ⟨g19, rfl⟩ := h19
        refine wpList_fresh elt_i64 _ rfl _ _ rfl rfl (hcs.below hb) (by simp; rfl) (fun u hu => by simp only [List.mem_map] at hu; obtain ⟨z, _, rfl⟩ := hu; rfl) (by simp; omega) (by simp; omega) ?_
        intro v2 w8 hrt hb8
        exact hT _ _ rfl hb8 hrt
      refine Rg.op_of (fun w' v => ∃ g u, v = Value.slice (some ⟨g, 0, none⟩) 1 1 ∧ wr.heap.size ≤ g ∧ Row1 w' g 42 [u] ∧ RowT w' 2 u (l.map (.int .i64))) [8] rfl ?_ ?_ rfl (by kernel_rfl) ?_ ?_
      · exact fun w1 w2 v hk ⟨g, u, e, h1, h2, h3⟩ => ⟨g, u, e, h1, h2.below hk, h3.below hk⟩
      · exact fun w1 w2 v hk ⟨g, u, e, h1, h2, h3⟩ => ⟨g, u, e, h1, h2.below hk, h3.below hk⟩
      · intro wx hb
        refine Rg.from_of (some 25) rfl rfl fun v25 h25 => ?_
        refine Rg.from_nil fun T hT => ?_
        obtain ⟨A5, c5, rfl, _, _⟩ := h25.form
        rw [List.length_map] at h25
        rw [List.length_map]
        go_wp2
        exact hT _ _ rfl (below_alloc _ _) ⟨wx.heap.size, _, rfl, hb.size, row1_new wx [_] 42, h25.below (below_alloc _ _)⟩
      refine Rg.walk_nil [0, 1, 2, 3, 4, 5, 6, 7, 8, 9] (by kernel_rfl) ?_
      intro wx hb
      refine Rg.from_is (some 17) rfl rfl ?_
      refine Rg.from_is (some 18) rfl rfl ?_
      refine Rg.from_of (some 19) rfl rfl fun v19 h19 => ?_
      refine Rg.from_is (some 20) rfl rfl ?_
      refine Rg.from_is (some 21) rfl rfl ?_
      refine Rg.from_is (some 22) rfl rfl ?_
      refine Rg.from_is (some 23) rfl rfl ?_
      refine Rg.from_is (some 24) rfl rfl ?_
      refine Rg.from_of (some 25) rfl rfl fun v25 h25 => ?_
      refine Rg.from_of (some 26) rfl rfl fun v26 h26 => ?_
      refine Rg.from_nil ?_
      simp only [List.map, Act.put, List.setIfInBounds_toArray, List.set_cons_zero, List.set_cons_succ]
      obtain ⟨g, u, rfl, hg, hrg, hru⟩ := h26
      have hgw := hsv.1
      have hnew : Own wx wc.heap.size 42 (.slice (some ⟨g, 0, none⟩) 1 1) [u] := by
        simpa using hrg.own (base := wc.heap.size) (by omega) (by simp)
      have hown2 := hown.below hb
      have hu1 : u.oneCell' = true := by obtain ⟨A5, c5, rfl, _, _⟩ := hru.form; rfl
      refine wpList_pushes elt_rowsI wx rfl _ _ rfl wc.heap.size hown2 rfl hnew rfl (fun z hz => by simp only [List.mem_singleton] at hz; subst hz; exact hu1) (by rw [HVL.out.2]; simp; omega) (by rw [HVL.out.2]; simp; omega) (by have := hb.size; omega) ?_
      intro v7 w7 hown7 hoth hbel
      have hrows : OwnRows w7 wc.heap.size 42 2 v7 (rowsV .i64 (W.take k) ++ [l.map (.int .i64)]) :=
        OwnRows.push (w := wx) (by decide) HVL.out.1 (fun j u xs a b => (hvr j u xs a b).below hb) hown2 hru hown7 hoth
      rw [HT.out] at hrows
      have hC7 : Row1 w7 gc 44 [.slice AW vs.length cW, .slice B' b.length d'] := (hC.below hb).keep (hoth gc (by have := hb.size; omega) (fun heq => by have := (hown.block gc heq.symm).1; omega))
      obtain ⟨A7, c7, hv7, _⟩ := hown7.form
      rw [show (vs ++ [u]).length = vs.length + 1 by simp] at hv7
      subst hv7
      have g7 := hC7.cell (k := 0) rfl
      have f7 := hC7.frozen 0
      have hC8 := hC7.set 0 (.slice A7 (vs.length + 1) c7)
      simp only [List.set_cons_zero] at hC8
      have hrows8 := hrows.far hC7 (by decide) (by decide) ⟨gc, 0, none⟩ rfl (.slice A7 (vs.length + 1) c7)
      have hsv8 := hsv.step hb hbel ⟨gc, 0, none⟩ rfl (.slice A7 (vs.length + 1) c7)
      have hbw8 := ((below_next hbw hbw.size hb).trans (hbel.mono (by omega))).setCell (p := ⟨gc, 0, none⟩) (show w.heap.size ≤ gc by omega) (.slice A7 (vs.length + 1) c7)
      clear hown7 hoth hbel hrows hnew hrg hru hown2 hown hvr hC hC7 hM3 hR3 hb hsv hbw hcs hc0 m0
      go_wp2
      go_roundw
      case rel => exact ⟨k + 1, by go_num, by omega, hbw8, hsv8, _, hC8, hrows8⟩
      case measure => simp [intOf]; omega
    · obtain rfl : k = W.length := by omega
      have hT3 := hsv.rowT hT2 hC2 (by decide)
      have hvl' : vs.length = W.length := by rw [hvl]; simp [rowsV]
      rw [List.take_length] at hvl hvr
      have hrows : OwnRows wr wc.heap.size 42 2 (.slice AW vs.length cW) (rowsV .i64 W) := ⟨vs, hown, hvl, hvr⟩
      rw [hvl'] at hC hrows
      clear hvl hvr hvl' g0 hown hcW
      have g0 := hC.cell (k := 0) rfl
      have g1 := hC.cell (k := 1) rfl
      have r0 := hR3.cell (k := 0) rfl
      have r1 := hR3.cell (k := 1) rfl
      have r2 := hR3.frozen 0
      have r3 := hR3.frozen 1
      have hR4 := hR3.set 0 (.slice AW W.length cW)
      have hR5 := hR4.set 1 (.slice B' b.length d')
      simp only [List.set_cons_zero, List.set_cons_succ] at hR4 hR5
      have s0 := hR5.cell (k := 0) rfl
      have s1 := hR5.cell (k := 1) rfl
      have hrows5 := (hrows.far hR3 (by decide) (by decide) ⟨w.heap.size + 1, 0, none⟩ rfl (.slice AW W.length cW)).far hR4 (by decide) (by decide) ⟨w.heap.size + 1, 1, none⟩ rfl (.slice B' b.length d')
      have hT5 := (hT3.far hR3 (by decide) ⟨w.heap.size + 1, 0, none⟩ rfl (.slice AW W.length cW)).far hR4 (by decide) ⟨w.heap.size + 1, 1, none⟩ rfl (.slice B' b.length d')
      have hbw5 := (hbw.setCell (p := ⟨w.heap.size + 1, 0, none⟩) (by simp) (.slice AW W.length cW)).setCell (p := ⟨w.heap.size + 1, 1, none⟩) (by simp) (.slice B' b.length d')
      clear hrows hT3 hR4 hR3 hC hM3 hsv
      go_wp2
      refine bodyPost_ret (v := mval AW W.length cW B' b.length d') (by simp [results, Try.f46, go_sem, s0, s1]) rfl ?_
      obtain ⟨A6, c6, he6, hg6, _⟩ := OwnRows.gridI (f := W) hrows5
      simp only [Value.slice.injEq, true_and] at he6
      obtain ⟨rfl, rfl⟩ := he6
      obtain ⟨A7, c7, he7, hc7, _⟩ := hT5.form
      simp only [Value.slice.injEq] at he7
      obtain ⟨rfl, _, rfl⟩ := he7
      exact ⟨_, _, _, _, rfl, hg6, hc7, hbw5⟩

end Go.Proofs.Ytnmadmcegdpecaa
