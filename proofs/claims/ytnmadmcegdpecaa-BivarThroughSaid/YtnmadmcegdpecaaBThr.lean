/-
  The polynomial of two through rows: the program's.
-/
import Derived.Test.YtnmadmcegdpecaaRws
import Derived.Test.YtnmadmcegdpecaaCols
import Derived.Test.YtnmadmcegdpecaaWeiM
import Derived.Laws.EntriesVeiled
namespace Go.Proofs.Ytnmadmcegdpecaa
open Go.RowKit Go.Shelf

attribute [local go_sem] Oper.semAt_some

/-- rows of the call's own, and what is wrong. -/
def RowsR (w : World) (base : Nat) (v : Value) (F : List (List Int)) : Prop := (v = .slice none 0 0 ∧ F = []) ∨ ∃ go D vs, v = .slice (some ⟨go, 0, none⟩) F.length F.length ∧ base ≤ go ∧ base ≤ D ∧ go < D ∧ Rws go D vs F w
def NewTwoRows (F : List (List Int)) (err : Int) (w : World) (e : Ending) (w' : World) : Prop := ∃ v, e = .returned (.tuple #[v, .int .i64 err]) ∧ RowsR w' w.heap.size v F ∧ Below w.heap.size w w'

noncomputable def bErr (xs : List Int) (f : List (List Int)) (q : Int) : Int := if xs.length = f.length then eAll xs q else 1
/-- of k columns. -/
noncomputable def bPart (xs : List Int) (f : List (List Int)) (q : Int) (k : Nat) : List (List Int) := (List.range xs.length).map fun i => (List.range k).map fun j => (tVal xs (colJ f j) q).getD i 0
noncomputable def bVal (xs : List Int) (f : List (List Int)) (q : Int) : List (List Int) := if bErr xs f q = 0 then bPart xs f q (wide f) else []
theorem tErr_any {xs ys : List Int} {f : List (List Int)} {q : Int} (h : ys.length = f.length) : tErr xs ys q = bErr xs f q := by unfold tErr bErr; rw [h]
theorem bPart_zero (xs : List Int) (f : List (List Int)) (q : Int) : bPart xs f q 0 = List.replicate xs.length [] := by
  unfold bPart
  rw [List.eq_replicate_iff]
  refine ⟨by simp, fun b hb => ?_⟩
  obtain ⟨j, _, rfl⟩ := List.mem_map.1 hb
  rfl
/-- while the numbers of column k are put to the rows: i of them have it. -/
noncomputable def bMid (xs : List Int) (f : List (List Int)) (q : Int) (k i : Nat) : List (List Int) := (List.range xs.length).map fun r => (List.range (if r < i then k + 1 else k)).map fun j => (tVal xs (colJ f j) q).getD r 0
theorem bMid_len (xs : List Int) (f : List (List Int)) (q : Int) (k i : Nat) : (bMid xs f q k i).length = xs.length := by simp [bMid]
theorem bMid_zero (xs : List Int) (f : List (List Int)) (q : Int) (k : Nat) : bMid xs f q k 0 = bPart xs f q k := rfl
theorem bMid_all (xs : List Int) (f : List (List Int)) (q : Int) (k : Nat) : bMid xs f q k xs.length = bPart xs f q (k + 1) := by
  unfold bMid bPart
  apply List.map_congr_left
  intro r hr
  rw [if_pos (List.mem_range.1 hr)]
theorem bMid_at {xs : List Int} {f : List (List Int)} {q : Int} {k i : Nat} (h : i < xs.length) : (bMid xs f q k i)[i]? = some ((List.range k).map fun j => (tVal xs (colJ f j) q).getD i 0) := by
  unfold bMid
  rw [List.getElem?_map, List.getElem?_range h, Option.map_some, if_neg (by omega)]
theorem bMid_set {xs : List Int} {f : List (List Int)} {q : Int} {k i : Nat} (h : i < xs.length) : (bMid xs f q k i).set i (((List.range k).map fun j => (tVal xs (colJ f j) q).getD i 0) ++ [(tVal xs (colJ f k) q).getD i 0]) = bMid xs f q k (i + 1) := by
  apply List.ext_getElem?
  intro r
  rw [List.getElem?_set]
  split
  · rename_i hr
    subst hr
    rw [if_pos (by rw [bMid_len]; exact h)]
    unfold bMid
    rw [List.getElem?_map, List.getElem?_range h, Option.map_some, if_pos (by omega), List.range_succ, List.map_append]; rfl
  · rename_i hr
    unfold bMid
    rw [List.getElem?_map, List.getElem?_map]
    rcases Nat.lt_or_ge r xs.length with h1 | h1
    · rw [List.getElem?_range h1, Option.map_some, Option.map_some]
      by_cases hri : r < i
      · rw [if_pos hri, if_pos (by omega)]
      · rw [if_neg hri, if_neg (by omega)]
    · rw [List.getElem?_eq_none (by simpa using h1)]; rfl
theorem tVal_len {xs ys : List Int} {q : Int} (h : tErr xs ys q = 0) : (tVal xs ys q).length = xs.length := by
  have he : eAll xs q = 0 := by
    unfold tErr at h
    split at h
    · exact h
    · omega
  have hk : okm q = true := by
    by_cases h0 : eUnlike xs q = 0
    · exact unlike_okm h0
    · rw [eAll_bad h0] at he; exact absurd he h0
  rw [tVal_ok h, pOut_len hk]
theorem tVal_u64 (xs ys : List Int) (q : Int) : U64s (tVal xs ys q) := by
  unfold tVal
  split
  · exact pOut_u64 _ _ _ _
  · intro z hz; cases hz

/-- what lies in memory while the columns come. -/
structure Bs (B : Option Addr) (f : List (List Int)) (d g1 g2 g3 : Nat) (l : List Int) (q : Int) (D go : Nat) (w0 w3 : World) (pre : List (Nat × Value)) (w : World) : Prop where
  fix : ∀ k, k < D → k ≠ go → w.heap[k]? = w3.heap[k]?
  rows : ∃ vs, Rws go D vs (bPart l f q pre.length) w
  b : Below w0.heap.size w0 w
  sz : D ≤ w.heap.size

/-- while a column is put to the rows. -/
structure Mi (A6 : Option Addr) (l : List Int) (f : List (List Int)) (q : Int) (k D go : Nat) (w0 w3 W : World) (vs : List Value) (i : Nat) (w : World) : Prop where
  fix : ∀ j, j < D → j ≠ go → w.heap[j]? = w3.heap[j]?
  rows : Rws go D vs (bMid l f q k i) w
  b : Below w0.heap.size w0 w
  sz : D ≤ w.heap.size
  c : ∀ (j : Nat) z, (tVal l (colJ f k) q)[j]? = some z → ∃ b off, A6 = some ⟨b, off, none⟩ ∧ w.cell? ⟨b, off + j, none⟩ = some (.int .u64 z)
  lo : ∀ a, A6 = some a → D ≤ a.block ∧ a.block < w.heap.size
  ap : ∀ (j : Nat) v a, vs[j]? = some v → A6 = some a → v.ownBlock ≠ some a.block
  ko : KeepsOthers W w
theorem Mi.step {A6 : Option Addr} {l : List Int} {f : List (List Int)} {q : Int} {k D go : Nat} {w0 w3 W : World} {vs : List Value} {i : Nat} {w w1 : World} {v v' : Value} {z : Int} (h : Mi A6 l f q k D go w0 w3 W vs i w) (hi : i < l.length) (hv : vs[i]? = some v) (hz : (tVal l (colJ f k) q)[i]? = some z) (hgo : go < D) (h0 : w0.heap.size ≤ go)
    (hg : w.grownBy w1 v.ownBlock) (hown : Own w1 D 23 v' ((((List.range k).map fun j => (tVal l (colJ f j) q).getD i 0) ++ [z]).map (.int .u64))) (hb : v'.ownBlock = v.ownBlock ∨ ∃ g, v'.ownBlock = some g ∧ w.heap.size ≤ g) :
    Mi A6 l f q k D go w0 w3 W (vs.set i v') (i + 1) (w1.setCell ⟨go, i, none⟩ v') := by
  have hrow := h.rows.R i v _ hv (bMid_at hi)
  have hblk : ∀ g, v.ownBlock = some g → D ≤ g ∧ g < w.heap.size := fun g hgv => hrow.block g hgv
  have hzd : z = (tVal l (colJ f k) q).getD i 0 := by rw [List.getD_eq_getElem?_getD, hz]; rfl
  have hp := h.rows.push hv (bMid_at hi) hgo hg hown hb
  rw [hzd, bMid_set hi] at hp
  refine ⟨fun j h1 h2 => ?_, hp, ?_, ?_, fun j y hy => ?_, fun a ha => ?_, fun j u a hu ha => ?_, ?_⟩
  · refine (Below.heap_setCell w1 ⟨go, i, none⟩ v' j h2).trans ((hg.block j (by have := h.sz; omega) fun e => ?_).trans (h.fix j h1 h2))
    have := hblk j e.symm
    omega
  · exact (h.b.grown hg h.b.size fun j hj => by have := hblk j hj; omega).setCell (p := ⟨go, i, none⟩) h0 _
  · have h9 := (KeepsOthers.setCell w1 ⟨go, i, none⟩ v').size
    have h8 := hg.size
    have h7 := h.sz
    omega
  · obtain ⟨b, off, ha, hc⟩ := h.c j y hy
    refine ⟨b, off, ha, ?_⟩
    have h1 := Rgb.grow_cell hg hc fun e => h.ap i v _ hv ha e.symm
    have h2 := (h.lo _ ha).1
    exact (World.cell?_of_block (a := ⟨b, off + j, none⟩) (Below.heap_setCell w1 ⟨go, i, none⟩ v' b (by simp at h2 ⊢; omega))).trans h1
  · have h1 := h.lo a ha
    have h9 := (KeepsOthers.setCell w1 ⟨go, i, none⟩ v').size
    have h8 := hg.size
    omega
  · rw [List.getElem?_set] at hu
    split at hu
    · split at hu
      · obtain rfl := Option.some.inj hu
        rcases hb with h1 | ⟨g, h1, h2⟩
        · rw [h1]; exact h.ap i v a hv ha
        · rw [h1]
          have := (h.lo a ha).2
          intro e
          have := Option.some.inj e
          omega
      · cases hu
    · exact h.ap j u a hu ha
  · refine (h.ko.trans (KeepsOthers.of_grownBy hg fun j o hj ho => ?_)).trans (KeepsOthers.setCell _ _ _)
    rcases hrow.2 with ⟨rfl, _⟩ | ⟨g, cap, cur, rfl, _, hgg, _⟩
    · cases hj
    · simp only [Value.ownBlock, Option.some.injEq] at hj
      subst hj
      rw [hgg] at ho
      obtain rfl := Option.some.inj ho
      rfl

set_option maxRecDepth 100000 in
set_option maxHeartbeats 4000000 in
theorem bthrough_c (A B : Option Addr) (l : List Int) (f : List (List Int)) (c d : Nat) (q : Int) (w : World) (hA : Cells w A (l.map (.int .u64))) (hB : Grid w B f) (hl : l.length ≤ 100000) (hlf : f.length ≤ 100000) (hwd : wide f ≤ 100000) (hu : U64s l) (hw : Words f) (hq : U64 q) :
    Calls Try.prog 72 #[.slice A l.length c, .slice B f.length d, .int .u64 q] w (NewTwoRows (bVal l f q) (bErr l f q) w) := by
  refine (callsIn_wide (n := 10)).1 ?_
  refine callsIn_of_wp_marks Try.func72 rfl trivial ?_ rfl
  refine (wpIn_wide (n := 10)).2 ?_
  simp only [Try.ntmps72, List.size_toArray, List.length_cons, List.length_nil, Nat.reduceAdd, Nat.reduceSub, Array.replicate_succ, Array.replicate_zero, List.push_toArray, List.append_toArray, List.nil_append, List.cons_append]
  go_wp2
  have hX := (((row1_new w [.slice A l.length c] 26).alloc (.cells #[.int .u64 q] 23)).alloc (.cells #[.slice none 0 0] 22)).alloc (.cells #[.int .i64 0] 48)
  have hQ := ((row1_in (w.alloc (.cells #[.slice A l.length c] 26)) [.int .u64 q] 23 (w.heap.size + 1) (by simp)).alloc (.cells #[.slice none 0 0] 22)).alloc (.cells #[.int .i64 0] 48)
  have hR1 := (row1_in ((w.alloc (.cells #[.slice A l.length c] 26)).alloc (.cells #[.int .u64 q] 23)) [.slice none 0 0] 22 (w.heap.size + 1 + 1) (by simp)).alloc (.cells #[.int .i64 0] 48)
  have hR2 := row1_in (((w.alloc (.cells #[.slice A l.length c] 26)).alloc (.cells #[.int .u64 q] 23)).alloc (.cells #[.slice none 0 0] 22)) [.int .i64 0] 48 (w.heap.size + 1 + 1 + 1) (by simp)
  have hb0 := (((below_alloc w (.cells #[.slice A l.length c] 26)).alloc (by simp) (.cells #[.int .u64 q] 23)).alloc (by simp; omega) (.cells #[.slice none 0 0] 22)).alloc (by simp; omega) (.cells #[.int .i64 0] 48)
  simp only [List.toArray] at hX hQ hR1 hR2
  have hc1 := hX.cell (k := 0) rfl
  have hc2 := hQ.cell (k := 0) rfl
  have hz64 : U64s (List.replicate f.length (0 : Int)) := fun z hz => by rw [(List.mem_replicate.1 hz).2]; exact ⟨by omega, by omega⟩
  have hte := tErr_any (xs := l) (ys := List.replicate f.length 0) (q := q) (f := f) List.length_replicate
  have HZ := hid (⟨hz64, hte⟩ : _ ∧ _)
  clear hz64 hte
  obtain ⟨be, hbe⟩ : ∃ b, bErr l f q = b := ⟨_, rfl⟩
  rw [hbe] at HZ
  obtain ⟨w1, hw1⟩ : ∃ w1, (((w.alloc (.cells #[.slice A l.length c] 26)).alloc (.cells #[.int .u64 q] 23)).alloc (.cells #[.slice none 0 0] 22)).alloc (.cells #[.int .i64 0] 48) = w1 := ⟨_, rfl⟩
  rw [hw1] at hX hQ hR1 hR2 hb0 hc1 hc2 ⊢
  have HBE := hid hbe
  clear hw1 hbe
  refine Rgb.wp_region (l := [_, _, _, _, _, _, _, _, _, _]) (tail := [_]) (Rgb.grows _ 11) [some 17, some 18, some 19, some 20, some 21, some 22, some 16, some 23, some 24, some 8, some 9] 65 (by kernel_rfl) (by kernel_rfl) (by kernel_rfl) rfl (Rgb.grows_fair _ _) (Rgb.keep_drew _) (trivial) ?_
  refine Rgb.op_is (.slice A l.length c) [] rfl rfl (by kernel_rfl) ?_ ?_
  · intro wx hb
    refine Rgb.from_nil fun T hT => ?_
    have g1 := (hb.cell (lt_of_cell hc1)).trans hc1
    go_wp2
    exact hT _ _ rfl (by first | exact Rgb.Keep.refl _ | exact below_of_dr hw2 | exact hw2 | exact (Below.refl _ _).alloc (Nat.le_refl _) _) (by first | rfl | exact congrArg _ (by decide))
  refine' Rgb.op_is _ [] rfl rfl (by kernel_rfl) ?_ ?_
  rotate_left
  · intro wx hb
    refine Rgb.from_nil fun T hT => ?_
    go_wp2
    refine hT _ _ rfl (by first | exact Rgb.Keep.refl _ | exact below_of_dr hw2 | exact hw2 | exact (Below.refl _ _).alloc (Nat.le_refl _) _) ?_
    simp only [Rgb.last, List.getElem?_toArray, List.getElem?_cons_succ, List.getElem?_cons_zero, Option.getD_some]
    rfl
  refine Rgb.op_is (.int .i64 (f.length : Int)) [1] rfl rfl (by kernel_rfl) ?_ ?_
  · intro wx hb
    refine Rgb.from_is (some 18) rfl rfl ?_
    refine Rgb.from_nil fun T hT => ?_
    go_wp2
    exact hT _ _ rfl (by first | exact Rgb.Keep.refl _ | exact below_of_dr hw2 | exact hw2 | exact (Below.refl _ _).alloc (Nat.le_refl _) _) (by first | rfl | exact congrArg _ (by decide))
  refine Rgb.op_of (fun w' v => Own w' w1.heap.size 23 v ((List.replicate f.length (0 : Int)).map (.int .u64))) [2] rfl ?_ ?_ rfl (by kernel_rfl) ?_ ?_
  · exact fun w1 w2 v hk h => h.below hk
  · exact fun w1 w2 v hk h => h.below hk
  · intro wx hb
    refine Rgb.from_is (some 19) rfl rfl ?_
    refine Rgb.from_nil fun T hT => ?_
    refine wpList_make_row elt_u64 _ rfl _ _ rfl .i64 .i64 _ _ f.length rfl rfl rfl rfl (by omega) (by omega) ?_
    intro w' h1 h2 h3
    go_wp2
    have h9 := (h1.own (Nat.le_refl _) (by rw [List.length_replicate]; omega)).from_ hb.size
    rw [List.length_replicate] at h9
    exact hT _ _ rfl h3 (by rw [List.map_replicate]; exact h9)
  refine Rgb.op_is (.int .u64 q) [] rfl rfl (by kernel_rfl) ?_ ?_
  · intro wx hb
    refine Rgb.from_nil fun T hT => ?_
    have g1 := (hb.cell (lt_of_cell hc2)).trans hc2
    go_wp2
    exact hT _ _ rfl (by first | exact Rgb.Keep.refl _ | exact below_of_dr hw2 | exact hw2 | exact (Below.refl _ _).alloc (Nat.le_refl _) _) (by first | rfl | exact congrArg _ (by decide))
  refine Rgb.op_of (fun _ v => ∃ u, v = Value.tuple #[u, .int .i64 be]) [0, 3, 4] rfl ?_ ?_ rfl (by kernel_rfl) ?_ ?_
  · exact fun _ _ _ _ h => h
  · exact fun _ _ _ _ h => h
  · intro wx hb
    refine Rgb.from_is (some 17) rfl rfl ?_
    refine Rgb.from_of (some 20) rfl rfl fun v20 h20 => ?_
    refine Rgb.from_is (some 21) rfl rfl ?_
    refine Rgb.from_nil fun T hT => ?_
    obtain ⟨A5, c5, rfl, g5⟩ := h20.form
    rw [List.length_map, List.length_replicate]
    have hp := pthrough_c A A5 l (List.replicate f.length 0) c c5 q wx ((hA.keep fun p hp => hb0.cell hp).below hb) g5 hl (by simp; omega) hu HZ.out.1 hq
    rw [List.length_replicate, HZ.out.2] at hp
    have HP := hid hp
    clear hp
    go_wp2_with (fail)
    refine HP.out.mono ?_
    rintro e w8 ⟨v, rfl, hown8, hb8⟩
    go_wp2
    exact hT _ _ rfl hb8 ⟨_, rfl⟩
  refine Rgb.op_of (fun _ v => ∃ u, v = Value.tuple #[u, .int .i64 be]) [5] rfl ?_ ?_ rfl (by kernel_rfl) ?_ ?_
  · exact fun _ _ _ _ h => h
  · exact fun _ _ _ _ h => h
  · intro wx hb
    refine Rgb.from_of (some 22) rfl rfl fun v22 h22 => ?_
    refine Rgb.from_nil fun T hT => ?_
    obtain ⟨u, rfl⟩ := h22
    go_wp2
    exact hT _ _ rfl (Rgb.Keep.refl _) ⟨_, rfl⟩
  refine Rgb.op_of (fun _ _ => True) [6] rfl ?_ ?_ rfl (by kernel_rfl) ?_ ?_
  · exact fun _ _ _ _ h => h
  · exact fun _ _ _ _ h => h
  · intro wx hb
    refine Rgb.from_of (some 16) rfl rfl fun v16 h16 => ?_
    refine Rgb.from_nil fun T hT => ?_
    obtain ⟨u, rfl⟩ := h16
    go_wp2
    exact hT _ _ rfl (Rgb.Keep.refl _) trivial
  refine Rgb.op_is (.int .i64 be) [6] rfl rfl (by kernel_rfl) ?_ ?_
  · intro wx hb
    refine Rgb.from_of (some 16) rfl rfl fun v16 h16 => ?_
    refine Rgb.from_nil fun T hT => ?_
    obtain ⟨u, rfl⟩ := h16
    go_wp2
    exact hT _ _ rfl (Rgb.Keep.refl _) rfl
  refine Rgb.op_of (fun _ _ => True) [7] rfl ?_ ?_ rfl (by kernel_rfl) ?_ ?_
  · exact fun _ _ _ _ h => h
  · exact fun _ _ _ _ h => h
  · intro wx hb
    refine Rgb.from_of (some 23) rfl rfl fun v23 h23 => ?_
    refine Rgb.from_nil fun T hT => ?_
    go_wp2
    exact hT _ _ rfl (Rgb.Keep.refl _) trivial
  refine Rgb.walk_nil [0, 1, 2, 3, 4, 5, 6, 7, 8, 9] (by kernel_rfl) ?_
  intro wx hb
  refine Rgb.from_is (some 17) rfl rfl ?_
  refine Rgb.from_is (some 18) rfl rfl ?_
  refine Rgb.from_is (some 19) rfl rfl ?_
  refine Rgb.from_of (some 20) rfl rfl fun v20 h20 => ?_
  refine Rgb.from_is (some 21) rfl rfl ?_
  refine Rgb.from_of (some 22) rfl rfl fun v22 h22 => ?_
  refine Rgb.from_of (some 16) rfl rfl fun v16 h16 => ?_
  refine Rgb.from_of (some 23) rfl rfl fun v23 h23 => ?_
  refine Rgb.from_is (some 24) rfl rfl ?_
  refine Rgb.from_of (some 8) rfl rfl fun v8 h8 => ?_
  refine Rgb.from_nil ?_
  simp only [List.map, Act.put, List.setIfInBounds_toArray, List.set_cons_zero, List.set_cons_succ]
  have hR1x := hR1.below hb
  have hR2x := hR2.below hb
  have hb1 := below_next hb0 hb0.size hb
  by_cases he : be = 0
  · have hbn : (be != 0) = false := by rw [he]; rfl
    have hcX := (hX.below hb).cell (k := 0) rfl
    have hXx := hX.below hb
    have hQx := hQ.below hb
    have HE0 := hid he
    have hz0 := hb1.size
    clear he hX hQ hR1 hR2 hb0 hb hc1 hc2 h8 h16 h20 h22 h23 HZ
    go_wp2_with (at_make; refine wpList_make_row elt_rows _ rfl _ _ rfl .i64 .i64 _ _ l.length rfl rfl rfl rfl (by omega) (by omega) ?_; intro w2 hr2 hs2 hb2)
    have hX3 := (hXx.below hb2).alloc (.cells #[.slice (some ⟨wx.heap.size, 0, none⟩) l.length l.length] 22)
    have hQ3 := (hQx.below hb2).alloc (.cells #[.slice (some ⟨wx.heap.size, 0, none⟩) l.length l.length] 22)
    have hR13 := (hR1x.below hb2).alloc (.cells #[.slice (some ⟨wx.heap.size, 0, none⟩) l.length l.length] 22)
    have hR23 := (hR2x.below hb2).alloc (.cells #[.slice (some ⟨wx.heap.size, 0, none⟩) l.length l.length] 22)
    have hO3 := hr2.alloc (.cells #[.slice (some ⟨wx.heap.size, 0, none⟩) l.length l.length] 22)
    have hC3 := row1_in w2 [.slice (some ⟨wx.heap.size, 0, none⟩) l.length l.length] 22 (wx.heap.size + 1) (by rw [hs2])
    have hb3 := below_next (below_next hb1 hb1.size hb2) (by omega) (below_alloc w2 (.cells #[.slice (some ⟨wx.heap.size, 0, none⟩) l.length l.length] 22))
    have hlx := hXx.lt
    have hlq := hQx.lt
    have hl1 := hR1x.lt
    have hl2 := hR2x.lt
    obtain ⟨w3, hw3⟩ : ∃ w3, w2.alloc (.cells #[.slice (some ⟨wx.heap.size, 0, none⟩) l.length l.length] 22) = w3 := ⟨_, rfl⟩
    try simp only [List.toArray] at hC3
    rw [hw3] at hX3 hQ3 hR13 hR23 hO3 hC3 hb3
    have hs3 := hC3.lt
    obtain ⟨go, hgo⟩ : ∃ go, wx.heap.size = go := ⟨_, rfl⟩
    try rw [hs2]
    rw [hw3]
    rw [hgo] at hO3 hC3 hlx hlq hl1 hl2 hs3 hz0 ⊢
    clear hw3 hr2 hb2 hb1 hcX hXx hQx hR1x hR2x hs2 hgo
    refine (columns_c B f d w3 (hB.below hb3)).mono ?_
    rintro e w4 ⟨g1, g2, g3, rfl, hF, hb4, hg1, hg2, hg3⟩
    have hX4 := hX3.below hb4
    have hQ4 := hQ3.below hb4
    have hR14 := hR13.below hb4
    have hR24 := hR23.below hb4
    have hC4 := hC3.below hb4
    have hs4 := hb4.size
    have hlF1 := hF.r1.lt
    have hlF2 := hF.r2.lt
    have hlF3 := hF.r3.lt
    have hlgo : go < w4.heap.size := by omega
    have S : Bs B f d g1 g2 g3 l q w4.heap.size go w w4 [] w4 := ⟨fun _ _ _ => rfl, ⟨_, by rw [List.length_nil, bPart_zero]; exact Rws.nils (hO3.below hb4)⟩, below_next hb3 hb3.size hb4, Nat.le_refl _⟩
    have hFit : ∀ W, (∀ k, k < w4.heap.size → k ≠ go → W.heap[k]? = w4.heap[k]?) → Below w.heap.size w W → Fit B f d g1 g2 g3 W := fun W h1 h2 => ⟨hF.r1.keep (h1 _ hlF1 (by omega)), hF.r2.keep (h1 _ hlF2 (by omega)), hF.r3.keep (h1 _ hlF3 (by omega)), hB.below h2⟩
    have HFIT := hid hFit
    clear hX3 hQ3 hR13 hR23 hC3 hb3 hO3 hb4 hFit
    go_wp2
    refine (wpIn_wide (n := 10)).1 ?_
    refine wpIn_rangeRow (n := 10) rfl (by decide) (gf := 108) (lb := #[.pointer (some ⟨g1, 0, none⟩), .pointer (some ⟨g3, 0, none⟩)]) rfl trivial (enters_of Try.func108 (by kernel_rfl) rfl) (encs := fun y : Nat × Value => #[.int .i64 (y.1 : Int), y.2]) (fun _ => rfl)
      (Bs B f d g1 g2 g3 l q w4.heap.size go w w4) (fun pre y W => pre.map Prod.fst = List.range y.1 ∧ y.1 < wide f ∧ RowT W 23 y.2 ((colJ f y.1).map (.int .u64))) (fun xs => xs.map Prod.fst = List.range (wide f)) (fun B1 B2 => Fit B f d g1 g2 g3 B1 → Fit B f d g1 g2 g3 B2)
      ?ib ?ip ?op (fun _ _ _ h1 h2 h3 => h2 (h1 h3)) (fun B1 l o o' _ h1 h2 h3 => h3.put o' h1 h2) S ?it ?a₁ ?assign ?body ?done
    case assign =>
      intro l y W K hK
      gi_wp2
      exact hK
    case ib =>
      rintro xs B1 B2 hs h hb
      obtain ⟨vs, hr⟩ := h.rows
      exact ⟨fun k h1 h2 => (hb.block k (by omega)).trans (h.fix k h1 h2), ⟨vs, hr.below hb⟩, below_next h.b h.b.size hb, Nat.le_trans h.sz hb.size⟩
    case ip =>
      rintro xs B1 m o o' h hs h1 h2
      obtain ⟨vs, hr⟩ := h.rows
      exact ⟨fun k h3 h4 => (World.putObj_heap_other (by omega)).trans (h.fix k h3 h4), ⟨vs, hr.put o' h1 h2⟩, below_put o' h.b (by have := S.b.size; omega), by simpa using h.sz⟩
    case op => exact fun pre y B1 m o o' h hs h1 h2 => ⟨h.1, h.2.1, h.2.2.put o' h1 h2⟩
    case it =>
      intro m J W hbW hJ hY h0
      exact callsIn_wide.2 (columns2_c B f d g1 g2 g3 m 8 W J hJ (fun pre y W' hs hj hpre hlt hrt => hY pre y W' hs hj ⟨hpre, hlt, hrt⟩) (hF.below hbW) (by omega) (by omega) h0)
    case body =>
      rintro m pre ⟨k, v⟩ W hsW hI ⟨hpre, hlt, hrt⟩
      dsimp only at hlt hrt hpre
      obtain ⟨A5, c5, rfl, hcs, hln⟩ := hrt.form
      rw [List.length_map] at hln ⊢
      have hcX := (hX4.keep (hI.fix _ hX4.lt (by omega))).cell (k := 0) rfl
      have hcQ := (hQ4.keep (hI.fix _ hQ4.lt (by omega))).cell (k := 0) rfl
      have huc : U64s (colJ f k) := colJ_u64 hw k
      have hcl : (colJ f k).length = f.length := colJ_len f k
      have hte : tErr l (colJ f k) q = 0 := by rw [tErr_any (f := f) hcl, HBE.out, HE0.out]
      have hp := pthrough_c A A5 l (colJ f k) c c5 q W (hA.keep fun p hp => hI.b.cell hp) hcs hl (by omega) hu huc hq
      rw [hte] at hp
      have htl := tVal_len hte
      have htu := tVal_u64 l (colJ f k) q
      have HP := hid (⟨hp, htl, htu⟩ : _ ∧ _ ∧ _)
      clear hp htl htu hte hcl huc
      gi_wp2_with (fail)
      refine ⟨trivial, Rgb.calls_in_round (HP.out.1.mono ?_)⟩
      rintro e W1 ⟨v13, rfl, ho13, hb13⟩
      have hnb : ((0 : Int) != 0) = false := by decide
      obtain ⟨A6, c6, rfl, hc6⟩ := ho13.form
      rw [List.length_map, HP.out.2.1]
      have hpl : pre.length = k := by have := congrArg List.length hpre; simpa using this
      obtain ⟨vs, hr⟩ := hI.rows
      have hszW := hI.sz
      have hM : Mi A6 l f q k w4.heap.size go w w4 W vs 0 W1 := by
        have hr1 := hr.below hb13
        rw [hpl, ← bMid_zero] at hr1
        refine ⟨fun j h1 h2 => (hb13.block j (by omega)).trans (hI.fix j h1 h2), hr1, below_next hI.b hI.b.size hb13, Nat.le_trans hI.sz hb13.size, fun j z hz => hc6.at_map hz, fun a ha => ?_, fun j v a hv ha hva => ?_, KeepsOthers.mk hb13.size fun k o hk _ => (hb13.block k (Array.getElem?_eq_some_iff.1 hk).1).trans hk⟩
        · have := ho13.block a.block (by rw [ha]; rfl)
          omega
        · have h1 := ho13.block a.block (by rw [ha]; rfl)
          have hj : j < (bPart l f q pre.length).length := by rw [← hr.len]; exact (List.getElem?_eq_some_iff.1 hv).1
          have h2 := (hr.R j v _ hv (List.getElem?_eq_getElem hj)).block _ hva
          omega
      have hcO := (hC4.keep (hM.fix _ hC4.lt (by omega))).cell (k := 0) rfl
      have HTU := HP.out.2.2
      have HTL := hid HP.out.2.1
      have hkw : k < wide f := hlt
      clear hc6 ho13 hcs hcX hcQ hI hr hrt HP hb13 hlt hpre
      gi_wp2
      clear hcO
      gi_loopw [15, 47] (fun _ i wr => ∃ (k' : Nat) (vs : List Value), i = .int .i64 k' ∧ k' ≤ l.length ∧ Mi A6 l f q k w4.heap.size go w w4 W vs k' wr) (fun _ i _ => l.length - (intOf i).toNat)
      case atStart => exact ⟨0, vs, rfl, by omega, hM⟩
      case round =>
        obtain ⟨k', vs, rfl, hk', hM⟩ := hrel
        have hcO := (hC4.keep (hM.fix _ hC4.lt (by omega))).cell (k := 0) rfl
        by_cases hlt2 : k' < l.length
        · obtain ⟨z, hz⟩ := get_of_lt (l := tVal l (colJ f k) q) (show k' < _ by rw [HTL.out]; exact hlt2)
          obtain ⟨v, hv⟩ := get_of_lt (l := vs) (show k' < vs.length by rw [hM.rows.len, bMid_len]; exact hlt2)
          have huz := HTU.at_ hz
          have hown := hM.rows.R k' v _ hv (bMid_at hlt2)
          obtain ⟨b6, off6, rfl, hcz⟩ := hM.c k' z hz
          have hcv := hM.rows.O.cell hv
          have hneg : some go ≠ v.ownBlock := fun e => by have := hown.block go e.symm; omega
          have hneO : some (go + 1) ≠ v.ownBlock := fun e => by have := hown.block (go + 1) e.symm; have := hC4.lt; omega
          have hnez : some b6 ≠ v.ownBlock := fun e => hM.ap k' v _ hv rfl e.symm
          have hrl : ((((List.range k).map fun j => (tVal l (colJ f j) q).getD k' 0)).map (Value.int .u64)).length = k := by simp
          have HZ := hid (⟨hz, hv, hrl⟩ : _ ∧ _ ∧ _)
          clear hz hv hrl
          gi_wp2
          refine Rgb.round_region (by rintro ⟨a, w, h⟩; cases h.1) (L := [_, _, _, _, _, _, _, _, _, _, _, _]) (tail := [_, _]) (Rgb.growWay wr v.ownBlock 11) [some 50, some 51, some 52, some 53, some 54, some 55, some 56, some 57, some 58, some 59, some 60, some 61, some 62, none] 65 (by kernel_rfl) (by kernel_rfl) (by kernel_rfl) (by kernel_rfl) rfl (Rgb.growWay_fair _ _ _) (Rgb.grow_drew _ _) (Rgb.keep_drew _) ?_
          refine Rgb.op_is (.slice (some ⟨go, 0, none⟩) l.length l.length) [] rfl rfl (by kernel_rfl) ?_ ?_
          · intro wx hb
            refine Rgb.from_nil fun T hT => ?_
            have g1 := Rgb.grow_cell hb hcO hneO
            go_wp2
            exact hT _ _ rfl (by first | exact Rgb.Keep.refl _ | exact below_of_dr hw2 | exact hw2 | exact (Below.refl _ _).alloc (Nat.le_refl _) _) (by first | rfl | exact congrArg _ (by decide))
          refine' Rgb.op_is _ [] rfl rfl (by kernel_rfl) ?_ ?_
          rotate_left
          · intro wx hb
            refine Rgb.from_nil fun T hT => ?_
            go_wp2
            refine hT _ _ rfl (by first | exact Rgb.Keep.refl _ | exact below_of_dr hw2 | exact hw2 | exact (Below.refl _ _).alloc (Nat.le_refl _) _) ?_
            simp only [Rgb.last, List.getElem?_toArray, List.getElem?_cons_succ, List.getElem?_cons_zero, Option.getD_some]
            rfl
          refine Rgb.op_is (.slice (some ⟨go, 0, none⟩) l.length l.length) [] rfl rfl (by kernel_rfl) ?_ ?_
          · intro wx hb
            refine Rgb.from_nil fun T hT => ?_
            have g1 := Rgb.grow_cell hb hcO hneO
            go_wp2
            exact hT _ _ rfl (by first | exact Rgb.Keep.refl _ | exact below_of_dr hw2 | exact hw2 | exact (Below.refl _ _).alloc (Nat.le_refl _) _) (by first | rfl | exact congrArg _ (by decide))
          refine' Rgb.op_is _ [] rfl rfl (by kernel_rfl) ?_ ?_
          rotate_left
          · intro wx hb
            refine Rgb.from_nil fun T hT => ?_
            go_wp2
            refine hT _ _ rfl (by first | exact Rgb.Keep.refl _ | exact below_of_dr hw2 | exact hw2 | exact (Below.refl _ _).alloc (Nat.le_refl _) _) ?_
            simp only [Rgb.last, List.getElem?_toArray, List.getElem?_cons_succ, List.getElem?_cons_zero, Option.getD_some]
            rfl
          refine Rgb.op_is (.pointer (some ⟨go, k', none⟩)) [2, 3] rfl rfl (by kernel_rfl) ?_ ?_
          · intro wx hb
            refine Rgb.from_is (some 52) rfl rfl ?_
            refine Rgb.from_is (some 53) rfl rfl ?_
            refine Rgb.from_nil fun T hT => ?_
            go_wp2
            exact hT _ _ rfl (by first | exact Rgb.Keep.refl _ | exact below_of_dr hw2 | exact hw2 | exact (Below.refl _ _).alloc (Nat.le_refl _) _) (by first | rfl | exact congrArg _ (by decide))
          refine Rgb.op_is (v) [4] rfl rfl (by kernel_rfl) ?_ ?_
          · intro wx hb
            refine Rgb.from_is (some 54) rfl rfl ?_
            refine Rgb.from_nil fun T hT => ?_
            have g1 := Rgb.grow_cell hb hcv hneg
            go_wp2
            exact hT _ _ rfl (by first | exact Rgb.Keep.refl _ | exact below_of_dr hw2 | exact hw2 | exact (Below.refl _ _).alloc (Nat.le_refl _) _) (by first | rfl | exact congrArg _ (by decide))
          refine' Rgb.op_is _ [] rfl rfl (by kernel_rfl) ?_ ?_
          rotate_left
          · intro wx hb
            refine Rgb.from_nil fun T hT => ?_
            go_wp2
            refine hT _ _ rfl (by first | exact Rgb.Keep.refl _ | exact below_of_dr hw2 | exact hw2 | exact (Below.refl _ _).alloc (Nat.le_refl _) _) ?_
            simp only [Rgb.last, List.getElem?_toArray, List.getElem?_cons_succ, List.getElem?_cons_zero, Option.getD_some]
            rfl
          refine' Rgb.op_is _ [] rfl rfl (by kernel_rfl) ?_ ?_
          rotate_left
          · intro wx hb
            refine Rgb.from_nil fun T hT => ?_
            go_wp2
            refine hT _ _ rfl (by first | exact Rgb.Keep.refl _ | exact below_of_dr hw2 | exact hw2 | exact (Below.refl _ _).alloc (Nat.le_refl _) _) ?_
            simp only [Rgb.last, List.getElem?_toArray, List.getElem?_cons_succ, List.getElem?_cons_zero, Option.getD_some]
            rfl
          refine Rgb.op_is (.pointer (some ⟨b6, off6 + k', none⟩)) [6, 7] rfl rfl (by kernel_rfl) ?_ ?_
          · intro wx hb
            refine Rgb.from_is (some 56) rfl rfl ?_
            refine Rgb.from_is (some 57) rfl rfl ?_
            refine Rgb.from_nil fun T hT => ?_
            go_wp2
            exact hT _ _ rfl (by first | exact Rgb.Keep.refl _ | exact below_of_dr hw2 | exact hw2 | exact (Below.refl _ _).alloc (Nat.le_refl _) _) (by first | rfl | exact congrArg _ (by decide))
          refine Rgb.op_is (.int .u64 z) [8] rfl rfl (by kernel_rfl) ?_ ?_
          · intro wx hb
            refine Rgb.from_is (some 58) rfl rfl ?_
            refine Rgb.from_nil fun T hT => ?_
            have g1 := Rgb.grow_cell hb hcz hnez
            go_wp2
            exact hT _ _ rfl (by first | exact Rgb.Keep.refl _ | exact below_of_dr hw2 | exact hw2 | exact (Below.refl _ _).alloc (Nat.le_refl _) _) (by first | rfl | exact congrArg _ (by decide))
          refine Rgb.op_till (fun w' u => ∃ g, u = Value.slice (some ⟨g, 0, none⟩) 1 1 ∧ Row1 w' g 23 [.int .u64 z]) [9] rfl ?_ rfl (by kernel_rfl) ?_ ?_
          · exact fun w1 w2 v hk ⟨g, e, h⟩ => ⟨g, e, h.below hk⟩
          · intro wx hb
            refine Rgb.from_is (some 59) rfl rfl ?_
            refine Rgb.from_nil fun T hT => ?_
            go_wp2
            exact hT _ _ rfl (below_alloc _ _) ⟨_, rfl, row1_new wx [_] 23⟩
          refine Rgb.op_turn (fun w' u => Own w' w4.heap.size 23 u ((((List.range k).map fun j => (tVal l (colJ f j) q).getD k' 0) ++ [z]).map (.int .u64)) ∧ (u.ownBlock = v.ownBlock ∨ ∃ g, u.ownBlock = some g ∧ wr.heap.size ≤ g)) [5, 10] rfl ?_ rfl (by kernel_rfl) ?_ ?_
          · exact fun w1 w2 v hk h => ⟨h.1.below hk, h.2⟩
          · intro wx hb hb1
            refine Rgb.from_is (some 55) rfl rfl ?_
            refine Rgb.from_till (some 60) rfl rfl fun v60 h60 => ?_
            refine Rgb.from_nil fun T hT => ?_
            obtain ⟨g, rfl, hg⟩ := h60
            refine wpList_push_at elt_u64 _ rfl _ _ rfl w4.heap.size (hown.below hb1) rfl (.int .u64 z) g rfl hg rfl (by rw [HZ.out.2.2]; omega) (by rw [HZ.out.2.2]; omega) (Nat.le_trans hM.sz hb1.size) ?_
            intro v' w' hown' hgr hbl
            go_wp2
            exact hT _ _ rfl hgr ⟨by rw [List.map_append]; exact hown', hbl.imp id fun h => ⟨_, h, hb1.size⟩⟩
          refine Rgb.walk_nil [0, 1, 2, 3, 4, 5, 6, 7, 8, 9, 10, 11] (by kernel_rfl) ?_
          intro wx hb
          refine Rgb.from_is (some 50) rfl rfl ?_
          refine Rgb.from_is (some 51) rfl rfl ?_
          refine Rgb.from_is (some 52) rfl rfl ?_
          refine Rgb.from_is (some 53) rfl rfl ?_
          refine Rgb.from_is (some 54) rfl rfl ?_
          refine Rgb.from_is (some 55) rfl rfl ?_
          refine Rgb.from_is (some 56) rfl rfl ?_
          refine Rgb.from_is (some 57) rfl rfl ?_
          refine Rgb.from_is (some 58) rfl rfl ?_
          refine Rgb.from_is (some 59) rfl rfl ?_
          refine Rgb.from_gone (some 60) rfl rfl fun v60 => ?_
          refine Rgb.from_of (some 61) rfl rfl fun v61 h61 => ?_
          refine Rgb.from_nil ?_
          simp only [List.map, Act.put, List.setIfInBounds_toArray, List.set_cons_zero, List.set_cons_succ]
          obtain ⟨h61a, h61b⟩ := h61
          obtain ⟨A9, c9, h9e, _⟩ := h61a.form
          rw [show ((((List.range k).map fun j => (tVal l (colJ f j) q).getD k' 0) ++ [z]).map (Value.int .u64)).length = k + 1 by simp] at h9e
          subst h9e
          have hM2 := hM.step hlt2 HZ.out.2.1 HZ.out.1 hlgo (by omega) hb h61a h61b
          have hOx : Row1 wx go 26 vs := hM.rows.O.keep (hb.block go hM.rows.O.lt hneg)
          have hcx := hOx.cell HZ.out.2.1
          have hfx := hOx.frozen k'
          clear hM hcO hcv hcz hOx
          go_wp2
          gi_wp2
          go_roundw
          case rel => exact ⟨k' + 1, _, by go_num, by omega, hM2⟩
          case measure => simp [intOf]; omega
        · obtain rfl : k' = l.length := by omega
          gi_wp2
          refine (show GoesOn _ _ _ _ _ _ _ from ⟨rfl, hM.ko, fun _ => HFIT.out wr hM.fix hM.b, hM.ko.size, hM.fix, ⟨vs, ?_⟩, hM.b, hM.sz⟩)
          have h9 := hM.rows
          rw [bMid_all, ← hpl] at h9
          simpa using h9
    case done =>
      intro E xs W hD hS hI hK
      obtain ⟨vs, hr⟩ := hI.rows
      have hxl : xs.length = wide f := by have := congrArg List.length hS; simpa using this
      rw [hxl] at hr
      have hcO := (hC4.keep (hI.fix _ hC4.lt (by omega))).cell (k := 0) rfl
      have hR15 := hR14.keep (hI.fix _ hR14.lt (by omega))
      have hR25 := hR24.keep (hI.fix _ hR24.lt (by omega))
      have hc3 := hR15.cell (k := 0) rfl
      have hf3 := hR15.frozen 0
      have hR26 := hR25.far (p := ⟨w.heap.size + 1 + 1, 0, none⟩) (by simp) (.slice (some ⟨go, 0, none⟩) l.length l.length)
      have hc4 := hR26.cell (k := 0) rfl
      have hf4 := hR26.frozen 0
      have hR27 := hR26.set 0 (.int .i64 0)
      have hR17 := (hR15.set 0 (.slice (some ⟨go, 0, none⟩) l.length l.length)).far (p := ⟨w.heap.size + 1 + 1 + 1, 0, none⟩) (by simp) (.int .i64 0)
      have hc5 := hR17.cell (k := 0) rfl
      have hc6 := hR27.cell (k := 0) rfl
      have hE : w4.heap.size ≤ E := hD
      have hK1 : (W.setCell ⟨w.heap.size + 1 + 1, 0, none⟩ (.slice (some ⟨go, 0, none⟩) l.length l.length)).heap[E]? = some (.deferred (some [])) := (Below.heap_setCell W ⟨w.heap.size + 1 + 1, 0, none⟩ _ E (by simp; omega)).trans hK
      have hK2 : ((W.setCell ⟨w.heap.size + 1 + 1, 0, none⟩ (.slice (some ⟨go, 0, none⟩) l.length l.length)).setCell ⟨w.heap.size + 1 + 1 + 1, 0, none⟩ (.int .i64 0)).heap[E]? = some (.deferred (some [])) := (Below.heap_setCell _ ⟨w.heap.size + 1 + 1 + 1, 0, none⟩ _ E (by simp; omega)).trans hK1
      have hc5 := (hR17.put (.deferred none) hK2 rfl).cell (k := 0) rfl
      have hc6 := (hR27.put (.deferred none) hK2 rfl).cell (k := 0) rfl
      have hrk : ∀ (p : Addr) (u : Value) (W' : World), p.block < go → Rws go w4.heap.size vs (bPart l f q (wide f)) W' → Rws go w4.heap.size vs (bPart l f q (wide f)) (W'.setCell p u) := fun p u W' hp h9 => h9.keep fun k hk => Below.heap_setCell W' p u k (by
        rcases hk with rfl | ⟨j, v, hv, hg⟩
        · omega
        · have hj : j < (bPart l f q (wide f)).length := by rw [← h9.len]; exact (List.getElem?_eq_some_iff.1 hv).1
          have := (h9.R j v _ hv (List.getElem?_eq_getElem hj)).block k hg
          omega)
      have hr2 := (hrk ⟨w.heap.size + 1 + 1 + 1, 0, none⟩ (.int .i64 0) _ (by simp; omega) (hrk ⟨w.heap.size + 1 + 1, 0, none⟩ (.slice (some ⟨go, 0, none⟩) l.length l.length) _ (by simp; omega) hr)).put (.deferred none) hK2 rfl
      have hbW := below_put (.deferred none) ((hI.b.setCell (p := ⟨w.heap.size + 1 + 1, 0, none⟩) (by simp; omega) (.slice (some ⟨go, 0, none⟩) l.length l.length)).setCell (p := ⟨w.heap.size + 1 + 1 + 1, 0, none⟩) (by simp; omega) (.int .i64 0)) (Nat.le_trans S.b.size hE)
      have hbl : (bPart l f q (wide f)).length = l.length := by simp [bPart]
      have HR := hid hr2
      have HBW := hid hbW
      have hbv : bVal l f q = bPart l f q (wide f) := by unfold bVal; rw [HBE.out, HE0.out, if_pos rfl]
      have HBV := hid (⟨hbv, hbl⟩ : _ ∧ _)
      clear hbv hbl hR25 hR26 hR27 hR15 hR17 hI hr hr2 hrk hK1 hbW
      go_wp2
      refine ⟨by simp, .inl ⟨_, _, rfl, run_takeDeferred hK2, ?_⟩⟩
      refine ⟨.tuple #[.slice (some ⟨go, 0, none⟩) l.length l.length, .int .i64 0], by simp [results, Try.results72, go_sem, hc5, hc6], _, by rw [HBE.out, HE0.out], .inr ⟨go, w4.heap.size, vs, ?_, by omega, by omega, hlgo, ?_⟩, HBW.out⟩
      · rw [HBV.out.1, HBV.out.2]
      · rw [HBV.out.1]; exact HR.out
  · have hbn : (be != 0) = true := bne_iff_ne.2 he
    have hc3 := hR1x.cell (k := 0) rfl
    have hf3 := hR1x.frozen 0
    have hR2y := hR2x.far (p := ⟨w.heap.size + 1 + 1, 0, none⟩) (by simp) (.slice none 0 0)
    have hc4 := hR2y.cell (k := 0) rfl
    have hf4 := hR2y.frozen 0
    have hbv : bVal l f q = [] := by unfold bVal; rw [HBE.out, if_neg he]
    have HBV := hid hbv
    have hbw := (hb1.setCell (p := ⟨w.heap.size + 1 + 1, 0, none⟩) (by simp; omega) (.slice none 0 0)).setCell (p := ⟨w.heap.size + 1 + 1 + 1, 0, none⟩) (by simp; omega) (.int .i64 be)
    have hR1z := (hR1x.set 0 (.slice none 0 0)).far (p := ⟨w.heap.size + 1 + 1 + 1, 0, none⟩) (by simp) (.int .i64 be)
    have hR2z := hR2y.set 0 (.int .i64 be)
    have hc5 := hR1z.cell (k := 0) rfl
    have hc6 := hR2z.cell (k := 0) rfl
    clear hbv he hX hQ hR1 hR2 hb0 hb hR1x hR2x hR2y hR1z hR2z h8 h16 h20 h22 h23
    go_wp2
    exact ⟨.tuple #[.slice none 0 0, .int .i64 be], by simp [results, Try.results72, go_sem, hc5, hc6], _, by rw [HBE.out], .inl ⟨rfl, HBV.out⟩, hbw⟩

end Go.Proofs.Ytnmadmcegdpecaa
