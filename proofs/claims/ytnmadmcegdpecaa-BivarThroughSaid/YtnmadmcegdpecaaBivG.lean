/-
  The program's rows of polynomials of two.
-/
import Derived.Test.YtnmadmcegdpecaaBivF
import Derived.Test.YtnmadmcegdpecaaRound
import Derived.Laws.EntriesVeiled
namespace Go.Proofs.Ytnmadmcegdpecaa
open Go.RowKit Go.Shelf

attribute [local go_sem] Oper.semAt_some

section
variable {A : World} {l : Nat} {o : Obj} (o' : Obj)
theorem not_at {g : Nat} {arr : Array Value} {e : TypeId} {fz : Nat × Nat} (hl : A.heap[l]? = some o) (hc : o.isCells = false) (h : A.heap[g]? = some (Obj.cells arr e fz)) : g ≠ l := by
  rintro rfl
  rw [h] at hl
  obtain rfl := Option.some.inj hl
  cases hc
theorem Row1.put {g : Nat} {e : TypeId} {xs : List Value} (h : Row1 A g e xs) (hl : A.heap[l]? = some o) (hc : o.isCells = false) : Row1 (A.putObj l o') g e xs := h.keep (World.putObj_heap_other (not_at hl hc h))
theorem Cells.put {B : Option Addr} {xs : List Value} (h : Cells A B xs) (hl : A.heap[l]? = some o) (hc : o.isCells = false) : Cells (A.putObj l o') B xs := by
  rcases h with h | ⟨b, off, rfl, h⟩
  · exact .inl h
  · exact .inr ⟨b, off, rfl, fun i u hu => cell_kept (h i u hu) (grownBy_putObj' A l o') (fun r e => by cases e; exact ⟨o, hl, hc⟩)⟩
theorem Grid.put {B : Option Addr} {f : List (List Int)} (h : Grid A B f) (hl : A.heap[l]? = some o) (hc : o.isCells = false) : Grid (A.putObj l o') B f := by
  obtain ⟨vs, h1, h2, h3⟩ := h
  refine ⟨vs, h1.put o' hl hc, h2, fun i m hm => ?_⟩
  obtain ⟨v, hv, B2, c, rfl, h4, h5⟩ := h3 i m hm
  exact ⟨_, hv, B2, c, rfl, h4.put o' hl hc, h5⟩
theorem RowT.put {e : TypeId} {v : Value} {xs : List Value} (h : RowT A e v xs) (hl : A.heap[l]? = some o) (hc : o.isCells = false) : RowT (A.putObj l o') e v xs := h.block fun _ _ _ hb => World.putObj_heap_other (not_at hl hc hb)
theorem Fit.put {B : Option Addr} {f : List (List Int)} {c g1 g2 g3 : Nat} (h : Fit B f c g1 g2 g3 A) (hl : A.heap[l]? = some o) (hc : o.isCells = false) : Fit B f c g1 g2 g3 (A.putObj l o') := ⟨h.r1.put o' hl hc, h.r2.put o' hl hc, h.r3.put o' hl hc, h.A.put o' hl hc⟩
theorem below_put {n0 : Nat} {w : World} (h : Below n0 w A) (hn : n0 ≤ l) : Below n0 w (A.putObj l o') :=
  h.trans ⟨rfl, rfl, rfl, by simp, fun k hk => World.putObj_heap_other (by omega)⟩
end

theorem row1_in (w : World) (xs : List Value) (e : TypeId) (g : Nat) (h : w.heap.size = g) : Row1 (w.alloc (.cells xs.toArray e)) g e xs := by
  subst h; exact heap_alloc_new w _
theorem columns_c (A : Option Addr) (f : List (List Int)) (c : Nat) (w : World) (hA : Grid w A f) :
    Calls Try.prog 77 #[.slice A f.length c] w fun e w' => ∃ g1 g2 g3, e = .returned (.func (.func 108) #[] #[.pointer (some ⟨g1, 0, none⟩), .pointer (some ⟨g3, 0, none⟩)]) ∧ Fit A f c g1 g2 g3 w' ∧ Below w.heap.size w w' ∧ w.heap.size ≤ g1 ∧ w.heap.size ≤ g2 ∧ w.heap.size ≤ g3 := by
  go_enter Try.func77, Try.ntmps77
  have hr1 := row1_new w [.slice A f.length c] 22
  have hc1 := hr1.cell (k := 0) rfl
  simp only [List.toArray] at hc1
  go_wp2_with (go_at_call 107; refine (reads_c A f.length c _).mono ?_; rintro e w2 ⟨rfl, hw2⟩; rw [← hw2]; clear hw2)
  go_ret
  have h1 := ((row1_new w [.slice A f.length c] 22).alloc (.cells #[.slice A f.length c] 22)).alloc (.cells #[.func (.func 117) #[] #[.pointer (some ⟨w.heap.size + 1, 0, none⟩)]] 105)
  have h2 := (row1_in (w.alloc (.cells #[.slice A f.length c] 22)) [.slice A f.length c] 22 (w.heap.size + 1) (by simp)).alloc (.cells #[.func (.func 117) #[] #[.pointer (some ⟨w.heap.size + 1, 0, none⟩)]] 105)
  have h3 := row1_in ((w.alloc (.cells #[.slice A f.length c] 22)).alloc (.cells #[.slice A f.length c] 22)) [.func (.func 117) #[] #[.pointer (some ⟨w.heap.size + 1, 0, none⟩)]] 105 (w.heap.size + 1 + 1) (by simp)
  have hb := ((below_alloc w (.cells #[.slice A f.length c] 22)).alloc (by simp) (.cells #[.slice A f.length c] 22)).alloc (by simp; omega) (.cells #[.func (.func 117) #[] #[.pointer (some ⟨w.heap.size + 1, 0, none⟩)]] 105)
  exact ⟨_, _, _, rfl, ⟨h1, h2, h3, hA.below hb⟩, hb, by omega, by omega, by omega⟩

/-- the numbers of the columns that have come. -/
def rowOf (f : List (List Int)) (x q : Int) (pre : List (Nat × Value)) : List Int := (List.range (wide f)).map fun j => if j ∈ pre.map Prod.fst then mEval (colJ f j) x q else 0
theorem rowOf_nil (f : List (List Int)) (x q : Int) : rowOf f x q [] = List.replicate (wide f) 0 := by
  unfold rowOf
  rw [List.eq_replicate_iff]
  refine ⟨by simp, fun b hb => ?_⟩
  obtain ⟨j, _, rfl⟩ := List.mem_map.1 hb
  simp
theorem rowOf_len (f : List (List Int)) (x q : Int) (pre : List (Nat × Value)) : (rowOf f x q pre).length = wide f := by simp [rowOf]
theorem rowOf_set (f : List (List Int)) (x q : Int) (pre : List (Nat × Value)) (y : Nat × Value) (h : y.1 < wide f) : (rowOf f x q pre).set y.1 (mEval (colJ f y.1) x q) = rowOf f x q (pre ++ [y]) := by
  apply List.ext_getElem?
  intro j
  rw [List.getElem?_set]
  split
  · rename_i hj
    subst hj
    rw [if_pos (by rw [rowOf_len]; exact h)]
    simp only [rowOf, List.getElem?_map, List.getElem?_range h, Option.map_some]
    rw [if_pos (by simp)]
  · rename_i hj
    simp only [rowOf, List.getElem?_map]
    rcases Nat.lt_or_ge j (wide f) with h1 | h1
    · rw [List.getElem?_range h1]
      simp only [Option.map_some]
      have he : j ∈ (pre ++ [y]).map Prod.fst ↔ j ∈ pre.map Prod.fst := by
        rw [List.map_append, List.mem_append]
        simp only [List.map_cons, List.map_nil, List.mem_singleton]
        exact ⟨fun h => h.elim id fun h => absurd h.symm hj, .inl⟩
      by_cases hjm : j ∈ pre.map Prod.fst
      · rw [if_pos hjm, if_pos (he.2 hjm)]
      · rw [if_neg hjm, if_neg (fun h => hjm (he.1 h))]
    · rw [List.getElem?_eq_none (by simpa using h1)]; rfl
theorem rowOf_all (f : List (List Int)) (x q : Int) (xs : List (Nat × Value)) (h : xs.map Prod.fst = List.range (wide f)) : rowOf f x q xs = mRow f x q := by
  unfold rowOf mRow
  rw [h]
  apply List.map_congr_left
  intro j hj
  rw [if_pos hj]

/-- what lies in memory while a row is made. -/
structure Bw (A : Option Addr) (f : List (List Int)) (c g1 g2 g3 : Nat) (x q : Int) (gx gq gc go : Nat) (w0 : World) (pre : List (Nat × Value)) (w : World) : Prop where
  F : Fit A f c g1 g2 g3 w
  X : Row1 w gx 23 [.int .u64 x]
  Q : Row1 w gq 23 [.int .u64 q]
  C : Row1 w gc 26 [.slice (some ⟨go, 0, none⟩) (wide f) (wide f)]
  O : Row1 w go 23 ((rowOf f x q pre).map (.int .u64))
  b : Below w0.heap.size w0 w

set_option maxRecDepth 100000 in
set_option maxHeartbeats 4000000 in
theorem brow_c (A : Option Addr) (f : List (List Int)) (c : Nat) (x q : Int) (w : World) (hA : Grid w A f) (hl : f.length ≤ 1000000) (hwd : wide f ≤ 1000000) (hu : Words f) (hx : U64 x) (hq : U64 q) :
    Calls Try.prog 19 #[.slice A f.length c, .int .u64 x, .int .u64 q] w (NewNums (mRow f x q) w) := by
  have hpw := fun w' (hb : Below w.heap.size w w') => pwide_c A f c w' (hA.below hb) (by omega)
  have hB0 : Below w.heap.size w ((w.alloc (.cells #[.int .u64 x] 23)).alloc (.cells #[.int .u64 q] 23)) := (below_alloc w _).alloc (by simp) _
  have HPW := hid hpw
  clear hpw
  refine (callsIn_wide (n := 10)).1 ?_
  refine callsIn_of_wp_marks Try.func19 rfl trivial ?_ rfl
  refine (wpIn_wide (n := 10)).2 ?_
  simp only [Try.ntmps19, List.size_toArray, List.length_cons, List.length_nil, Nat.reduceAdd, Nat.reduceSub, Array.replicate_succ, Array.replicate_zero, List.push_toArray, List.append_toArray, List.nil_append, List.cons_append]
  go_wp2_with (first | (go_at_call 76; refine (HPW.out _ hB0).mono ?_; rintro e w2 ⟨rfl, rfl⟩) | (at_make; refine wpList_make_row elt_u64 _ rfl _ _ rfl .i64 .i64 _ _ (wide f) rfl rfl rfl rfl (by omega) (by omega) ?_; intro w1 hr1 hs1 hb1))
  simp only [World.size_alloc] at hr1 hs1 hb1
  have hX := (((row1_new w [.int .u64 x] 23).alloc (.cells #[.int .u64 q] 23)).below (by simpa using hb1)).alloc (.cells #[.slice (some ⟨w.heap.size + 1 + 1, 0, none⟩) (wide f) (wide f)] 26)
  have hQ := ((row1_in (w.alloc (.cells #[.int .u64 x] 23)) [.int .u64 q] 23 (w.heap.size + 1) (by simp)).below (by simpa using hb1)).alloc (.cells #[.slice (some ⟨w.heap.size + 1 + 1, 0, none⟩) (wide f) (wide f)] 26)
  have hO := hr1.alloc (.cells #[.slice (some ⟨w.heap.size + 1 + 1, 0, none⟩) (wide f) (wide f)] 26)
  have hC := row1_in w1 [.slice (some ⟨w.heap.size + 1 + 1, 0, none⟩) (wide f) (wide f)] 26 (w.heap.size + 1 + 1 + 1) (by rw [hs1])
  have hb2 := below_next (below_next hB0 hB0.size (by simpa using hb1)) (by omega) (below_alloc w1 (.cells #[.slice (some ⟨w.heap.size + 1 + 1, 0, none⟩) (wide f) (wide f)] 26))
  simp only [List.toArray] at hC hX hQ
  generalize w1.alloc (.cells #[.slice (some ⟨w.heap.size + 1 + 1, 0, none⟩) (wide f) (wide f)] 26) = w2 at *
  have hs2 := hC.lt
  clear hr1 hs1 hb1 hB0 HPW
  refine (columns_c A f c w2 (hA.below hb2)).mono ?_
  rintro e w3 ⟨g1, g2, g3, rfl, hF, hb3, hgl1, hgl2, hgl3⟩
  have S : Bw A f c g1 g2 g3 x q w.heap.size (w.heap.size + 1) (w.heap.size + 1 + 1 + 1) (w.heap.size + 1 + 1) w [] w3 := ⟨hF, hX.below hb3, hQ.below hb3, hC.below hb3, by rw [rowOf_nil, List.map_replicate]; exact hO.below hb3, below_next hb2 hb2.size hb3⟩
  have hs3 := S.b.size
  have hsz3 : w.heap.size + 1 + 1 + 1 < w3.heap.size := S.C.lt
  clear hX hQ hO hC hF hb2 hb3
  go_wp2
  refine (wpIn_wide (n := 10)).1 ?_
  refine wpIn_rangeAll (n := 10) rfl (by decide) (gf := 108) (lb := #[.pointer (some ⟨g1, 0, none⟩), .pointer (some ⟨g3, 0, none⟩)]) rfl trivial (enters_of Try.func108 (by kernel_rfl) rfl) (encs := fun y : Nat × Value => #[.int .i64 (y.1 : Int), y.2]) (fun _ => rfl)
    (Bw A f c g1 g2 g3 x q w.heap.size (w.heap.size + 1) (w.heap.size + 1 + 1 + 1) (w.heap.size + 1 + 1) w) (fun y W => y.1 < wide f ∧ RowT W 23 y.2 ((colJ f y.1).map (.int .u64))) (fun xs => xs.map Prod.fst = List.range (wide f)) (fun B1 B2 => Fit A f c g1 g2 g3 B1 → Fit A f c g1 g2 g3 B2)
    ?ib ?ip ?op (fun _ _ _ h1 h2 h3 => h2 (h1 h3)) (fun B1 l o o' _ h1 h2 h3 => h3.put o' h1 h2) S ?it ?a₁ ?assign ?body ?done
  case assign =>
    intro l y W K hK
    gi_wp2
    exact hK
  case ib => exact fun xs B1 B2 hs h hb => ⟨h.F.below hb, h.X.below hb, h.Q.below hb, h.C.below hb, h.O.below hb, below_next h.b h.b.size hb⟩
  case ip => exact fun xs B1 l o o' h hs h1 h2 => ⟨h.F.put o' h1 h2, h.X.put o' h1 h2, h.Q.put o' h1 h2, h.C.put o' h1 h2, h.O.put o' h1 h2, below_put o' h.b (by omega)⟩
  case op => exact fun y B1 l o o' h hs h1 h2 => ⟨h.1, h.2.put o' h1 h2⟩
  case it =>
    intro l J W hbW hJ hY h0
    exact callsIn_wide.2 (columns1_c A f c g1 g2 g3 l 8 W J hJ (fun pre y W' hs hj hlt hrt => hY pre y W' hs hj ⟨hlt, hrt⟩) (S.F.below hbW) hl hwd h0)
  case body =>
    intro l pre y W hsW hI hOk
    obtain ⟨k, v⟩ := y
    obtain ⟨hlt, hrt⟩ := hOk
    dsimp only at hlt hrt
    obtain ⟨A5, c5, rfl, hcs, hln⟩ := hrt.form
    rw [List.length_map] at hln ⊢
    have hcC := hI.C.cell (k := 0) rfl
    have hcX := hI.X.cell (k := 0) rfl
    have hcQ := hI.Q.cell (k := 0) rfl
    have huc : ∀ z ∈ colJ f k, U64 z := colJ_u64 hu k
    obtain ⟨m, hm⟩ : ∃ m, wide f = m := ⟨_, rfl⟩
    have HM := hid hm
    rw [hm] at hcC hlt ⊢
    clear hm
    have hbW := hI.b
    gi_wp2
    refine Rgb.round_region (by rintro ⟨a, w, h⟩; cases h.1) (L := [_, _, _, _, _, _]) (tail := [_, _]) (Rgb.grows _ 8) [some 17, some 18, some 19, some 20, some 21, some 22, some 23, none] 25 (by kernel_rfl) (by kernel_rfl) (by kernel_rfl) (by kernel_rfl) rfl (Rgb.grows_fair _ _) (Rgb.keep_drew _) (trivial) ?_
    refine Rgb.op_is (.slice (some ⟨w.heap.size + 1 + 1, 0, none⟩) m m) [] rfl rfl (by kernel_rfl) ?_ ?_
    · intro wx hb
      refine Rgb.from_nil fun T hT => ?_
      have g1 := (hb.cell (lt_of_cell hcC)).trans hcC
      go_wp2
      exact hT _ _ rfl (by first | exact Rgb.Keep.refl _ | exact below_of_dr hw2 | exact hw2 | exact (Below.refl _ _).alloc (Nat.le_refl _) _) (by first | rfl | exact congrArg _ (by decide))
    refine' Rgb.op_is _ [] rfl rfl (by kernel_rfl) ?_ ?_
    rotate_left
    · intro wx hb
      refine Rgb.from_nil fun T hT => ?_
      go_wp2
      refine hT _ _ rfl (by first | exact Rgb.Keep.refl _ | exact below_of_dr hw2 | exact hw2 | exact (Below.refl _ _).alloc (Nat.le_refl _) _) ?_
      simp only [Rgb.last, List.getElem?_toArray, List.getElem?_cons_succ, List.getElem?_cons_zero, Option.getD_some]
      rfl
    refine' Rgb.op_is _ [] rfl rfl (by kernel_rfl) ?_ ?_
    rotate_left
    · intro wx hb
      refine Rgb.from_nil fun T hT => ?_
      go_wp2
      refine hT _ _ rfl (by first | exact Rgb.Keep.refl _ | exact below_of_dr hw2 | exact hw2 | exact (Below.refl _ _).alloc (Nat.le_refl _) _) ?_
      simp only [Rgb.last, List.getElem?_toArray, List.getElem?_cons_succ, List.getElem?_cons_zero, Option.getD_some]
      rfl
    refine Rgb.op_is (.int .u64 x) [] rfl rfl (by kernel_rfl) ?_ ?_
    · intro wx hb
      refine Rgb.from_nil fun T hT => ?_
      have g1 := (hb.cell (lt_of_cell hcX)).trans hcX
      go_wp2
      exact hT _ _ rfl (by first | exact Rgb.Keep.refl _ | exact below_of_dr hw2 | exact hw2 | exact (Below.refl _ _).alloc (Nat.le_refl _) _) (by first | rfl | exact congrArg _ (by decide))
    refine Rgb.op_is (.int .u64 q) [] rfl rfl (by kernel_rfl) ?_ ?_
    · intro wx hb
      refine Rgb.from_nil fun T hT => ?_
      have g1 := (hb.cell (lt_of_cell hcQ)).trans hcQ
      go_wp2
      exact hT _ _ rfl (by first | exact Rgb.Keep.refl _ | exact below_of_dr hw2 | exact hw2 | exact (Below.refl _ _).alloc (Nat.le_refl _) _) (by first | rfl | exact congrArg _ (by decide))
    refine Rgb.op_is (.int .u64 (mEval (colJ f k) x q)) [2, 3, 4] rfl rfl (by kernel_rfl) ?_ ?_
    · intro wx hb
      refine Rgb.from_is (some 19) rfl rfl ?_
      refine Rgb.from_is (some 20) rfl rfl ?_
      refine Rgb.from_is (some 21) rfl rfl ?_
      refine Rgb.from_nil fun T hT => ?_
      have hcs2 := hcs.keep fun p hp => hb.cell hp
      go_wp2_with (go_at_call 59; refine (eval_c _ _ _ _ _ _ hcs2 hln huc hx hq).mono ?_; rintro e w5 ⟨rfl, hw5⟩)
      exact hT _ _ rfl (below_of_dr hw5) rfl
    refine Rgb.walk_nil [0, 1, 2, 3, 4, 5] (by kernel_rfl) ?_
    intro wx hb
    refine Rgb.from_is (some 17) rfl rfl ?_
    refine Rgb.from_is (some 18) rfl rfl ?_
    refine Rgb.from_is (some 19) rfl rfl ?_
    refine Rgb.from_is (some 20) rfl rfl ?_
    refine Rgb.from_is (some 21) rfl rfl ?_
    refine Rgb.from_is (some 22) rfl rfl ?_
    refine Rgb.from_nil ?_
    simp only [List.map, Act.put, List.setIfInBounds_toArray, List.set_cons_zero, List.set_cons_succ]
    have hI2 : Bw A f c g1 g2 g3 x q w.heap.size (w.heap.size + 1) (w.heap.size + 1 + 1 + 1) (w.heap.size + 1 + 1) w pre wx := ⟨hI.F.below hb, hI.X.below hb, hI.Q.below hb, hI.C.below hb, hI.O.below hb, below_next hI.b hI.b.size hb⟩
    have hfO := hI2.O.frozen k
    have hlk : k < (rowOf f x q pre).length := by rw [rowOf_len]; have := HM.out; omega
    obtain ⟨z0, hz0⟩ := get_of_lt hlk
    have hcO := hI2.O.cell (k := k) (u := .int .u64 z0) (by rw [List.getElem?_map, hz0]; rfl)
    clear hcC hcX hcQ huc hz0 hlk
    go_wp2
    have hlt2 : k < wide f := by have := HM.out; omega
    have hBw : Below w.heap.size w (wx.setCell ⟨w.heap.size + 1 + 1, k, none⟩ (.int .u64 (mEval (colJ f k) x q))) := hI2.b.setCell (p := ⟨w.heap.size + 1 + 1, k, none⟩) (Nat.le_trans (Nat.le_add_right _ 1) (Nat.le_add_right _ 1)) _
    have hFk : ∀ B1, Fit A f c g1 g2 g3 B1 → Fit A f c g1 g2 g3 wx → Fit A f c g1 g2 g3 (wx.setCell ⟨w.heap.size + 1 + 1, k, none⟩ (.int .u64 (mEval (colJ f k) x q))) := fun B1 _ h2 => ⟨h2.r1.far (by simp; omega) _, h2.r2.far (by simp; omega) _, h2.r3.far (by simp; omega) _, hA.below hBw⟩
    refine (show GoesOn _ _ _ _ _ _ _ from ⟨rfl, ?_, fun h => hFk _ h (h.below hb), ?_, ?_⟩)
    · exact (KeepsOthers.mk hb.size fun k o hk _ => (hb.block k (Array.getElem?_eq_some_iff.1 hk).1).trans hk).trans (KeepsOthers.setCell _ _ _)
    · exact Nat.le_trans hb.size (KeepsOthers.setCell wx ⟨w.heap.size + 1 + 1, k, none⟩ (.int .u64 (mEval (colJ f k) x q))).size
    · refine ⟨hFk _ hI2.F hI2.F, hI2.X.far (by simp <;> omega) _, hI2.Q.far (by simp <;> omega) _, hI2.C.far (by simp <;> omega) _, ?_, hBw⟩
      have := hI2.O.set k (.int .u64 (mEval (colJ f k) x q))
      rw [← List.map_set, rowOf_set f x q pre (k, _) hlt2] at this
      exact this
  case done =>
    intro D xs W hD hS hI hK
    have hcC := hI.C.cell (k := 0) rfl
    have hO := hI.O
    rw [rowOf_all _ _ _ _ hS] at hO
    have hlR := hid (show (mRow f x q).length = wide f by simp [mRow])
    have hBW := hI.b
    clear hI
    go_wp2
    refine ⟨by simp, .inl ⟨_, _, rfl, run_takeDeferred hK, ?_⟩⟩
    have hO2 := (hO.put (.deferred none) hK rfl).own (base := w.heap.size) (by omega) (by rw [List.length_map, hlR.out]; omega)
    rw [List.length_map, hlR.out] at hO2
    refine ⟨_, results_tmp (t := 6) rfl _ _ _, _, rfl, hO2, below_put _ hBW ?_⟩
    omega

end Go.Proofs.Ytnmadmcegdpecaa
