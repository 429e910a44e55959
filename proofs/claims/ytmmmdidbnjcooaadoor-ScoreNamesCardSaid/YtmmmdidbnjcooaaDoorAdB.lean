/-
  The rank of queries, and whether a query follows: the program's; what Query asks, one by one.
-/
import Derived.Test.YtmmmdidbnjcooaaDoorAdA
namespace Go.Proofs.YtmmmdidbnjcooaaDoor
open Go Go.RowKit Go.Maps Go.Shelf Go.Proofs

/-- a value that reads as these lists. -/
def GridVal (w : World) (v : Value) (f : List (List Int)) : Prop := ∃ A c, v = .slice A f.length c ∧ Grid w A f
theorem GridVal.below {w w' : World} {v : Value} {f : List (List Int)} (h : GridVal w v f) (hb : Below w.heap.size w w') : GridVal w' v f := by
  obtain ⟨A, c, rfl, hg⟩ := h
  exact ⟨A, c, rfl, hg.below hb⟩
theorem RowV.below' {w w' : World} {v : Value} {l : List Int} (h : RowV w v l) (hb : Below w.heap.size w w') : RowV w' v l := h.keep fun _ hp => hb.cell hp
def RowVal (w : World) (v : Value) (l : List Int) : Prop := RowV w v l
theorem RowVal.below {w w' : World} {v : Value} {l : List Int} (h : RowVal w v l) (hb : Below w.heap.size w w') : RowVal w' v l := RowV.below' h hb
theorem rowVal_own {w : World} {b : Nat} {e : TypeId} {v : Value} {l : List Int} (h : Own w b e v (l.map (.int .u64))) : RowVal w v l := by
  obtain ⟨A, c, hv, hc⟩ := h.form
  have := h.len_le
  rw [List.length_map] at hv this
  exact ⟨A, c, hv, hc, this⟩
theorem gridI_none (w : World) : GridI w none [] := ⟨[], .inl rfl, rfl, fun i l h => by simp at h⟩
/-- the rank of queries. -/
noncomputable def rankP (p : Par) (l : List Ask) : Nat := rankV (rowsP p l []) p.Q
set_option maxRecDepth 100000 in
set_option maxHeartbeats 2000000 in
theorem arank_c (p : Par) (hp : p.ok) (A : Option Addr) (l : List Ask) (c : Nat) (w : World) (hA : Asks w A l) (hl : AskOk l) (hTab : Tabs w) [DecidableEq Lit] :
    Calls Tryd.prog 20 #[pval p, .slice A l.length c] w fun e w' => e = .returned (.int .i64 (rankP p l)) ∧ Below w.heap.size w w' := by
  have hb0 := below_alloc w (.cells (pcells p).toArray 34)
  have hP := row1_new w (pcells p) 34
  have hA1 := hA.below hb0
  have hTab1 := hTab.below hb0
  have hok := rowsP_ok p l [] (by have := hl.few; omega) (by decide)
  have hq := hp.Q
  have HRK := hid (show rankP p l = rankV (rowsP p l []) p.Q from rfl)
  generalize rankP p l = RK at *
  clear hA hTab
  go_enter Tryd.func20, Tryd.ntmps20
  go_wp2
  change Row1 (w.alloc (.cells #[.int .u64 p.P, .int .u64 p.Q, .int .u64 p.G, .int .u64 p.H, .int .i64 p.Nodes, .int .i64 p.N, .int .i64 p.T, .int .i64 p.K, .int .i64 p.D, .int .i64 p.R, .int .i64 p.M, .int .i64 p.X] 34)) _ _ _ at hP
  generalize w.alloc (.cells #[.int .u64 p.P, .int .u64 p.Q, .int .u64 p.G, .int .u64 p.H, .int .i64 p.Nodes, .int .i64 p.N, .int .i64 p.T, .int .i64 p.K, .int .i64 p.D, .int .i64 p.R, .int .i64 p.M, .int .i64 p.X] 34) = w1 at *
  refine Rg.wp_region (l := [_, _, _, _, _, _]) (tail := [_]) (Rg.grows _ 7) [some 5, some 6, some 7, some 8, some 9, some 10, some 4] 11 (by kernel_rfl) (by kernel_rfl) (by kernel_rfl) rfl (Rg.grows_fair _ _) (Rg.keep_drew _) (trivial) ?_
  refine Rg.op_is (pval p) [] rfl rfl (by kernel_rfl) ?_ ?_
  · intro wx hb
    refine Rg.from_nil fun T hT => ?_
    obtain ⟨p0, p1, p2, p3, p4, p5, p6, p7, p8, p9, p10, p11⟩ := par_cells (hP.below hb)
    go_wp2
    exact hT _ _ rfl (by first | exact Rg.Keep.refl _ | exact below_of_dr hw2 | exact hw2 | exact (Below.refl _ _).alloc (Nat.le_refl _) _) (by first | rfl | exact congrArg _ (by decide))
  refine' Rg.op_is _ [] rfl rfl (by kernel_rfl) ?_ ?_
  rotate_left
  · intro wx hb
    refine Rg.from_nil fun T hT => ?_
    go_wp2
    refine hT _ _ rfl (by first | exact Rg.Keep.refl _ | exact below_of_dr hw2 | exact hw2 | exact (Below.refl _ _).alloc (Nat.le_refl _) _) ?_
    simp only [Rg.last, List.getElem?_toArray, List.getElem?_cons_succ, List.getElem?_cons_zero, Option.getD_some]
    rfl
  refine Rg.op_of (fun w' v => GridVal w' v (rowsP p l [])) [0, 1] rfl ?_ ?_ rfl (by kernel_rfl) ?_ ?_
  · exact fun w1 w2 v hk h => h.below hk
  · exact fun w1 w2 v hk h => h.below hk
  · intro wx hb
    refine Rg.from_is (some 5) rfl rfl ?_
    refine Rg.from_is (some 6) rfl rfl ?_
    refine Rg.from_nil fun T hT => ?_
    go_wp2_with (fail)
    refine (arows_c p hp A l c none [] 0 _ (hA1.below hb) hl (gridI_none _) (by decide) (fun x hx => by cases hx) (fun x hx => by cases hx)).mono ?_
    rintro e w2 ⟨v, rfl, ho, hw2⟩
    have hgv : GridVal w2 v (rowsP p l []) := ho.grid
    clear ho
    go_wp2
    exact hT _ _ rfl hw2 hgv
  refine' Rg.op_is _ [] rfl rfl (by kernel_rfl) ?_ ?_
  rotate_left
  · intro wx hb
    refine Rg.from_nil fun T hT => ?_
    go_wp2
    refine hT _ _ rfl (by first | exact Rg.Keep.refl _ | exact below_of_dr hw2 | exact hw2 | exact (Below.refl _ _).alloc (Nat.le_refl _) _) ?_
    simp only [Rg.last, List.getElem?_toArray, List.getElem?_cons_succ, List.getElem?_cons_zero, Option.getD_some]
    rfl
  refine Rg.op_is (.int .u64 p.Q) [3] rfl rfl (by kernel_rfl) ?_ ?_
  · intro wx hb
    refine Rg.from_is (some 8) rfl rfl ?_
    refine Rg.from_nil fun T hT => ?_
    have cQ := (hP.below hb).cell (k := 1) (u := .int .u64 p.Q) rfl
    go_wp2
    exact hT _ _ rfl (by first | exact Rg.Keep.refl _ | exact below_of_dr hw2 | exact hw2 | exact (Below.refl _ _).alloc (Nat.le_refl _) _) (by first | rfl | exact congrArg _ (by decide))
  refine Rg.op_is (.int .i64 RK) [2, 4] rfl rfl (by kernel_rfl) ?_ ?_
  · intro wx hb
    refine Rg.from_of (some 7) rfl rfl fun v7 h7 => ?_
    refine Rg.from_is (some 9) rfl rfl ?_
    refine Rg.from_nil fun T hT => ?_
    obtain ⟨A1, c1, rfl, g1⟩ := h7
    go_wp2_with (fail)
    refine (rank_c A1 (rowsP p l []) c1 p.Q _ g1 hok hq (hTab1.below hb)).mono ?_
    rintro e w2 ⟨rfl, hw2⟩
    rw [← HRK.out]
    go_wp2
    exact hT _ _ rfl hw2 rfl
  refine Rg.walk_nil [0, 1, 2, 3, 4, 5] (by kernel_rfl) ?_
  intro wx hb
  refine Rg.from_is (some 5) rfl rfl ?_
  refine Rg.from_is (some 6) rfl rfl ?_
  refine Rg.from_of (some 7) rfl rfl fun v7 h7 => ?_
  refine Rg.from_is (some 8) rfl rfl ?_
  refine Rg.from_is (some 9) rfl rfl ?_
  refine Rg.from_is (some 10) rfl rfl ?_
  refine Rg.from_nil ?_
  simp only [List.map, Act.put, List.setIfInBounds_toArray, List.set_cons_zero, List.set_cons_succ]
  have hbz := below_next hb0 hb0.size hb
  go_wp2
  go_ret
  exact ⟨rfl, hbz⟩
/-- does a query follow? -/
noncomputable def followsP (p : Par) (l : List Ask) (x : List Int) : Bool := hangsV (rowsP p l []) (rowS p x) p.Q
set_option maxRecDepth 100000 in
set_option maxHeartbeats 2000000 in
theorem afollows_c (p : Par) (hp : p.ok) (A : Option Addr) (l : List Ask) (c : Nat) (A2 : Option Addr) (x : List Int) (c2 : Nat) (w : World) (hA : Asks w A l) (hl : AskOk l) (hA2 : Cells w A2 (x.map (.int .i64))) (hx : x.length ≤ 1000000) (hxu : I64s x) (hTab : Tabs w) [DecidableEq Lit] :
    Calls Tryd.prog 34 #[pval p, .slice A l.length c, .slice A2 x.length c2] w fun e w' => e = .returned (.bool (followsP p l x)) ∧ Below w.heap.size w w' := by
  have hb0 := below_alloc w (.cells (pcells p).toArray 34)
  have hP := row1_new w (pcells p) 34
  have hA1 := hA.below hb0
  have hA21 := hA2.below hb0
  have hTab1 := hTab.below hb0
  have hok := rowsP_ok p l [] (by have := hl.few; omega) (by decide)
  have hq := hp.Q
  have HRK := hid (show followsP p l x = hangsV (rowsP p l []) (rowS p x) p.Q from rfl)
  generalize followsP p l x = RK at *
  have hrs := rowS_len p x
  have hru := rowS_u64 p x
  clear hA hTab hA2
  go_enter Tryd.func34, Tryd.ntmps34
  go_wp2
  change Row1 (w.alloc (.cells #[.int .u64 p.P, .int .u64 p.Q, .int .u64 p.G, .int .u64 p.H, .int .i64 p.Nodes, .int .i64 p.N, .int .i64 p.T, .int .i64 p.K, .int .i64 p.D, .int .i64 p.R, .int .i64 p.M, .int .i64 p.X] 34)) _ _ _ at hP
  generalize w.alloc (.cells #[.int .u64 p.P, .int .u64 p.Q, .int .u64 p.G, .int .u64 p.H, .int .i64 p.Nodes, .int .i64 p.N, .int .i64 p.T, .int .i64 p.K, .int .i64 p.D, .int .i64 p.R, .int .i64 p.M, .int .i64 p.X] 34) = w1 at *
  refine Rg.wp_region (l := [_, _, _, _, _, _, _, _, _]) (tail := [_]) (Rg.grows _ 10) [some 7, some 8, some 9, some 10, some 11, some 12, some 13, some 14, some 15, some 6] 16 (by kernel_rfl) (by kernel_rfl) (by kernel_rfl) rfl (Rg.grows_fair _ _) (Rg.keep_drew _) (trivial) ?_
  refine Rg.op_is (pval p) [] rfl rfl (by kernel_rfl) ?_ ?_
  · intro wx hb
    refine Rg.from_nil fun T hT => ?_
    obtain ⟨p0, p1, p2, p3, p4, p5, p6, p7, p8, p9, p10, p11⟩ := par_cells (hP.below hb)
    go_wp2
    exact hT _ _ rfl (by first | exact Rg.Keep.refl _ | exact below_of_dr hw2 | exact hw2 | exact (Below.refl _ _).alloc (Nat.le_refl _) _) (by first | rfl | exact congrArg _ (by decide))
  refine' Rg.op_is _ [] rfl rfl (by kernel_rfl) ?_ ?_
  rotate_left
  · intro wx hb
    refine Rg.from_nil fun T hT => ?_
    go_wp2
    refine hT _ _ rfl (by first | exact Rg.Keep.refl _ | exact below_of_dr hw2 | exact hw2 | exact (Below.refl _ _).alloc (Nat.le_refl _) _) ?_
    simp only [Rg.last, List.getElem?_toArray, List.getElem?_cons_succ, List.getElem?_cons_zero, Option.getD_some]
    rfl
  refine Rg.op_of (fun w' v => GridVal w' v (rowsP p l [])) [0, 1] rfl ?_ ?_ rfl (by kernel_rfl) ?_ ?_
  · exact fun w1 w2 v hk h => h.below hk
  · exact fun w1 w2 v hk h => h.below hk
  · intro wx hb
    refine Rg.from_is (some 7) rfl rfl ?_
    refine Rg.from_is (some 8) rfl rfl ?_
    refine Rg.from_nil fun T hT => ?_
    go_wp2_with (fail)
    refine (arows_c p hp A l c none [] 0 _ (hA1.below hb) hl (gridI_none _) (by decide) (fun x hx => by cases hx) (fun x hx => by cases hx)).mono ?_
    rintro e w2 ⟨v, rfl, ho, hw2⟩
    have hgv : GridVal w2 v (rowsP p l []) := ho.grid
    clear ho
    go_wp2
    exact hT _ _ rfl hw2 hgv
  refine Rg.op_is (pval p) [] rfl rfl (by kernel_rfl) ?_ ?_
  · intro wx hb
    refine Rg.from_nil fun T hT => ?_
    obtain ⟨p0, p1, p2, p3, p4, p5, p6, p7, p8, p9, p10, p11⟩ := par_cells (hP.below hb)
    go_wp2
    exact hT _ _ rfl (by first | exact Rg.Keep.refl _ | exact below_of_dr hw2 | exact hw2 | exact (Below.refl _ _).alloc (Nat.le_refl _) _) (by first | rfl | exact congrArg _ (by decide))
  refine' Rg.op_is _ [] rfl rfl (by kernel_rfl) ?_ ?_
  rotate_left
  · intro wx hb
    refine Rg.from_nil fun T hT => ?_
    go_wp2
    refine hT _ _ rfl (by first | exact Rg.Keep.refl _ | exact below_of_dr hw2 | exact hw2 | exact (Below.refl _ _).alloc (Nat.le_refl _) _) ?_
    simp only [Rg.last, List.getElem?_toArray, List.getElem?_cons_succ, List.getElem?_cons_zero, Option.getD_some]
    rfl
  refine Rg.op_of (fun w' v => RowVal w' v (rowS p x)) [3, 4] rfl ?_ ?_ rfl (by kernel_rfl) ?_ ?_
  · exact fun w1 w2 v hk h => h.below hk
  · exact fun w1 w2 v hk h => h.below hk
  · intro wx hb
    refine Rg.from_is (some 10) rfl rfl ?_
    refine Rg.from_is (some 11) rfl rfl ?_
    refine Rg.from_nil fun T hT => ?_
    go_wp2_with (fail)
    refine (frow_c p hp A2 x c2 _ (hA21.below hb) (by omega) hxu).mono ?_
    rintro e w2 ⟨v, rfl, ho, hw2⟩
    have hgv : RowVal w2 v (rowS p x) := rowVal_own ho
    clear ho
    go_wp2
    exact hT _ _ rfl hw2 hgv
  refine' Rg.op_is _ [] rfl rfl (by kernel_rfl) ?_ ?_
  rotate_left
  · intro wx hb
    refine Rg.from_nil fun T hT => ?_
    go_wp2
    refine hT _ _ rfl (by first | exact Rg.Keep.refl _ | exact below_of_dr hw2 | exact hw2 | exact (Below.refl _ _).alloc (Nat.le_refl _) _) ?_
    simp only [Rg.last, List.getElem?_toArray, List.getElem?_cons_succ, List.getElem?_cons_zero, Option.getD_some]
    rfl
  refine Rg.op_is (.int .u64 p.Q) [6] rfl rfl (by kernel_rfl) ?_ ?_
  · intro wx hb
    refine Rg.from_is (some 13) rfl rfl ?_
    refine Rg.from_nil fun T hT => ?_
    have cQ := (hP.below hb).cell (k := 1) (u := .int .u64 p.Q) rfl
    go_wp2
    exact hT _ _ rfl (by first | exact Rg.Keep.refl _ | exact below_of_dr hw2 | exact hw2 | exact (Below.refl _ _).alloc (Nat.le_refl _) _) (by first | rfl | exact congrArg _ (by decide))
  refine Rg.op_is (.bool RK) [2, 5, 7] rfl rfl (by kernel_rfl) ?_ ?_
  · intro wx hb
    refine Rg.from_of (some 9) rfl rfl fun v9 h9 => ?_
    refine Rg.from_of (some 12) rfl rfl fun v12 h12 => ?_
    refine Rg.from_is (some 14) rfl rfl ?_
    refine Rg.from_nil fun T hT => ?_
    obtain ⟨A1, c1, rfl, g1⟩ := h9
    obtain ⟨A3, c3, rfl, g3, _⟩ := h12
    go_wp2_with (fail)
    refine (hangs_c A1 (rowsP p l []) c1 A3 (rowS p x) c3 p.Q _ g1 hok g3 (by omega) hru hq (hTab1.below hb)).mono ?_
    rintro e w2 ⟨rfl, hw2⟩
    rw [← HRK.out]
    go_wp2
    exact hT _ _ rfl hw2 rfl
  refine Rg.walk_nil [0, 1, 2, 3, 4, 5, 6, 7, 8] (by kernel_rfl) ?_
  intro wx hb
  refine Rg.from_is (some 7) rfl rfl ?_
  refine Rg.from_is (some 8) rfl rfl ?_
  refine Rg.from_of (some 9) rfl rfl fun v9 h9 => ?_
  refine Rg.from_is (some 10) rfl rfl ?_
  refine Rg.from_is (some 11) rfl rfl ?_
  refine Rg.from_of (some 12) rfl rfl fun v12 h12 => ?_
  refine Rg.from_is (some 13) rfl rfl ?_
  refine Rg.from_is (some 14) rfl rfl ?_
  refine Rg.from_is (some 15) rfl rfl ?_
  refine Rg.from_nil ?_
  simp only [List.map, Act.put, List.setIfInBounds_toArray, List.set_cons_zero, List.set_cons_succ]
  have hbz := below_next hb0 hb0.size hb
  go_wp2
  go_ret
  exact ⟨rfl, hbz⟩
end Go.Proofs.YtmmmdidbnjcooaaDoor
