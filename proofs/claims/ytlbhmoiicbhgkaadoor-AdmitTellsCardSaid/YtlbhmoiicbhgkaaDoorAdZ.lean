/-
  The rows of queries, their rank, what follows: the document's.
-/
import Derived.Test.YtlbhmoiicbhgkaaDoorAdmQ1
import Derived.Test.YtlbhmoiicbhgkaaDoorAdmQ2
import Derived.Test.YtlbhmoiicbhgkaaDoorAdmQ3
import Derived.Test.YtlbhmoiicbhgkaaDoorAdmQ4
import Derived.Test.YtlbhmoiicbhgkaaDoorAdmQ5
import Derived.Test.YtlbhmoiicbhgkaaDoorAdmQ6
import Derived.Test.YtlbhmoiicbhgkaaDoorAdmQ7
import Derived.Test.YtlbhmoiicbhgkaaDoorAdmQ8
import Derived.Test.YtlbhmoiicbhgkaaDoorAdY
import Derived.Test.YtlbhmoiicbhgkaaDoorAdN
import Derived.Test.YtlbhmoiicbhgkaaDoorRkH
namespace Go.Proofs.YtlbhmoiicbhgkaaDoor
open Go Go.RowKit Go.Maps Go.Shelf Go.Proofs

attribute [local go_sem] Oper.semAt_some

theorem rowsP_wide (p : Par) (l : List Ask) (more : List (List Int)) : wideL (rowsP p l more) ≤ 5 := wideL_most fun r hr => by
  have : ∃ x, r = rowS p x := by
    rcases List.mem_append.1 hr with h | h <;> obtain ⟨a, _, rfl⟩ := List.mem_map.1 h <;> exact ⟨_, rfl⟩
  obtain ⟨x, rfl⟩ := this
  exact rowS_len p x
theorem rowsP_u (p : Par) (l : List Ask) (more : List (List Int)) : ∀ r ∈ rowsP p l more, U64s r := fun r hr => by
  have : ∃ x, r = rowS p x := by
    rcases List.mem_append.1 hr with h | h <;> obtain ⟨a, _, rfl⟩ := List.mem_map.1 h <;> exact ⟨_, rfl⟩
  obtain ⟨x, rfl⟩ := this
  exact rowS_u64 p x
def RowUV (w : World) (v : Value) (r : List Int) : Prop := ∃ A c, v = .slice A r.length c ∧ RowT w 24 v (u64v r)
theorem RowUV.below {w w' : World} {v : Value} {r : List Int} (h : RowUV w v r) (hb : Below w.heap.size w w') : RowUV w' v r := by
  obtain ⟨A, c, e, hr⟩ := h
  exact ⟨A, c, e, hr.below hb⟩
def OneUV (w : World) (v : Value) (r : List Int) : Prop := ∃ g A c, v = .slice (some ⟨g, 0, none⟩) 1 1 ∧ Row1 w g 23 [.slice A r.length c] ∧ RowT w 24 (.slice A r.length c) (u64v r)
theorem OneUV.below {w w' : World} {v : Value} {r : List Int} (h : OneUV w v r) (hb : Below w.heap.size w w') : OneUV w' v r := by
  obtain ⟨g, A, c, e, hg, hr⟩ := h
  exact ⟨g, A, c, e, hg.below hb, hr.below hb⟩
set_option maxRecDepth 100000 in
set_option maxHeartbeats 2000000 in
theorem rrows21_c (p : Par) (hp : p.ok) (A : Option Addr) (l : List Ask) (c : Nat) (w : World) (hA : Asks w A l) (hl : AskOk l) :
    Calls Tryd.prog 76 #[pval p, .slice A l.length c] w fun e w' => ∃ v, e = .returned v ∧ OwnRows w' w.heap.size 23 24 v ((rowsP p l []).map u64v) ∧ Below w.heap.size w w' := by
  have HL := hid hl
  have HA := hid hA
  have hlf := hl.few
  have HB0 := hid (below_alloc w (.cells (pcells p).toArray 33))
  have HP0 := hid (row1_new w (pcells p) 33)
  clear hA hl
  go_enter Tryd.func76, Tryd.ntmps76
  go_wp2
  generalize w.alloc (.cells #[.int .u64 p.P, .int .u64 p.Q, .int .u64 p.G, .int .u64 p.H, .int .i64 p.Nodes, .int .i64 p.N, .int .i64 p.T, .int .i64 p.K, .int .i64 p.D, .int .i64 p.R, .int .i64 p.M, .int .i64 p.X] 33) = w1 at *
  go_loopw [5, 6] (fun o i wr => ∃ k : Nat, i = .int .i64 (k : Int) ∧ k ≤ l.length ∧ Hid (OwnRows wr w.heap.size 23 24 o ((rowsP p (l.take k) []).map u64v) ∧ Row1 wr w.heap.size 33 (pcells p) ∧ Below w.heap.size w wr)) (fun _ i _ => l.length - (intOf i).toNat)
  case atStart => exact ⟨0, rfl, by omega, hid ⟨OwnRows.nil _ _ _ _, HP0.out, HB0.out⟩⟩
  case round =>
    obtain ⟨k, rfl, hk, HI⟩ := hrel
    rename_i o wr
    by_cases hlt : k < l.length
    · have hlt' : (k : Int) < (l.length : Int) := by omega
      obtain ⟨a, ha⟩ := get_of_lt hlt
      obtain ⟨b, off, A', c', rfl, ca, cx, hcs, hxl⟩ := (HA.out.below HI.out.2.2).at_ ha
      have HC := hid (⟨cx, hcs⟩ : _ ∧ _)
      have hal := HL.out.len a (List.mem_of_getElem? ha)
      have hax := HL.out.x a (List.mem_of_getElem? ha)
      have HX := hid hax
      have HS := hid (show (rowsP p (l.take (k + 1)) []).map u64v = (rowsP p (l.take k) []).map u64v ++ [u64v (rowS p a.x)] by unfold rowsP; rw [take_snocR ha]; simp)
      have hlen : (rowsP p (l.take k) []).length = k := by unfold rowsP; simp; omega
      have HLK := hid hlen
      have HP := hid HI.out.2.1
      clear ha hcs cx ca hax hlen
      go_upto_region 5 with (fail)
      refine Rg.wp_region (l := [_, _, _, _, _, _, _, _, _]) (tail := [_, _]) (Rg.grows _ 11) [some 13, some 14, some 15, some 16, some 17, some 18, some 19, some 20, some 21, some 22, some 5] 24 (by kernel_rfl) (by kernel_rfl) (by kernel_rfl) rfl (Rg.grows_fair _ _) (Rg.keep_drew _) (trivial) ?_
      refine' Rg.op_is _ [] rfl rfl (by kernel_rfl) ?_ ?_
      rotate_left
      · intro wx hb
        refine Rg.from_nil fun T hT => ?_
        go_wp2
        refine hT _ _ rfl (by first | exact Rg.Keep.refl _ | exact below_of_dr hw2 | exact hw2 | exact (Below.refl _ _).alloc (Nat.le_refl _) _) ?_
        simp only [Rg.last, List.getElem?_toArray, List.getElem?_cons_succ, List.getElem?_cons_zero, Option.getD_some]
        rfl
      refine Rg.op_is (pval p) [] rfl rfl (by kernel_rfl) ?_ ?_
      · intro wx hb
        refine Rg.from_nil fun T hT => ?_
        obtain ⟨p0, p1, p2, p3, p4, p5, p6, p7, p8, p9, p10, p11⟩ := par_cells (HP.out.below hb)
        go_wp2
        exact hT _ _ rfl (by first | exact Rg.Keep.refl _ | exact below_of_dr hw2 | exact hw2 | exact (Below.refl _ _).alloc (Nat.le_refl _) _) (by first | rfl | exact congrArg _ (by decide))
      refine' Rg.op_is _ [] rfl rfl (by kernel_rfl) ?_ ?_
      rotate_left
      · intro wx hb
        refine Rg.from_nil fun T hT => ?_
        go_wp2
        refine hT _ _ rfl (by first | exact Rg.Keep.refl _ | exact below_of_dr hw2 | exact hw2 | exact (Below.refl _ _).alloc (Nat.le_refl _) _) ?_
        simp only [Rg.last, List.getElem?_toArray, List.getElem?_cons_succ, List.getElem?_cons_zero, Option.getD_some]
        rfl
      refine' Rg.op_is _ [] rfl rfl (by kernel_rfl) ?_ ?_
      rotate_left
      · intro wx hb
        refine Rg.from_nil fun T hT => ?_
        go_wp2
        refine hT _ _ rfl (by first | exact Rg.Keep.refl _ | exact below_of_dr hw2 | exact hw2 | exact (Below.refl _ _).alloc (Nat.le_refl _) _) ?_
        simp only [Rg.last, List.getElem?_toArray, List.getElem?_cons_succ, List.getElem?_cons_zero, Option.getD_some]
        rfl
      refine' Rg.op_is _ [2, 3] rfl rfl (by kernel_rfl) ?_ ?_
      rotate_left
      · intro wx hb
        refine Rg.from_is (some 15) rfl rfl ?_
        refine Rg.from_is (some 16) rfl rfl ?_
        refine Rg.from_nil fun T hT => ?_
        go_wp2
        refine hT _ _ rfl (by first | exact Rg.Keep.refl _ | exact below_of_dr hw2 | exact hw2 | exact (Below.refl _ _).alloc (Nat.le_refl _) _) ?_
        simp only [Rg.last, List.getElem?_toArray, List.getElem?_cons_succ, List.getElem?_cons_zero, Option.getD_some]
        rfl
      refine' Rg.op_is _ [4] rfl rfl (by kernel_rfl) ?_ ?_
      rotate_left
      · intro wx hb
        refine Rg.from_is (some 17) rfl rfl ?_
        refine Rg.from_nil fun T hT => ?_
        go_wp2
        refine hT _ _ rfl (by first | exact Rg.Keep.refl _ | exact below_of_dr hw2 | exact hw2 | exact (Below.refl _ _).alloc (Nat.le_refl _) _) ?_
        simp only [Rg.last, List.getElem?_toArray, List.getElem?_cons_succ, List.getElem?_cons_zero, Option.getD_some]
        rfl
      refine Rg.op_is (.slice A' a.x.length c') [5] rfl rfl (by kernel_rfl) ?_ ?_
      · intro wx hb
        refine Rg.from_is (some 18) rfl rfl ?_
        refine Rg.from_nil fun T hT => ?_
        have c0 := (hb.cell (lt_of_cell HC.out.1)).trans HC.out.1
        go_wp2
        exact hT _ _ rfl (by first | exact Rg.Keep.refl _ | exact below_of_dr hw2 | exact hw2 | exact (Below.refl _ _).alloc (Nat.le_refl _) _) (by first | rfl | exact congrArg _ (by decide))
      refine Rg.op_of (fun w' v => RowUV w' v (rowS p a.x)) [1, 6] rfl ?_ ?_ rfl (by kernel_rfl) ?_ ?_
      · exact fun w1 w2 v hk h => h.below hk
      · exact fun w1 w2 v hk h => h.below hk
      · intro wx hb
        refine Rg.from_is (some 14) rfl rfl ?_
        refine Rg.from_is (some 19) rfl rfl ?_
        refine Rg.from_nil fun T hT => ?_
        go_wp2_with (fail)
        refine (rrow_c p hp A' a.x c' _ (HC.out.2.below hb) (by omega) HX.out).mono ?_
        rintro e w3 ⟨v, rfl, ho, hw3⟩
        have hgv : RowUV w3 v (rowS p a.x) := by
          obtain ⟨A9, c9, e9, _⟩ := ho.form
          rw [List.length_map] at e9
          exact ⟨A9, c9, e9, ho.rowT⟩
        clear ho
        go_wp2
        exact hT _ _ rfl hw3 hgv
      refine Rg.op_of (fun w' v => OneUV w' v (rowS p a.x)) [7] rfl ?_ ?_ rfl (by kernel_rfl) ?_ ?_
      · exact fun w1 w2 v hk h => h.below hk
      · exact fun w1 w2 v hk h => h.below hk
      · intro wx hb
        refine Rg.from_of (some 20) rfl rfl fun v20 h20 => ?_
        refine Rg.from_nil fun T hT => ?_
        obtain ⟨A9, c9, rfl, hr9⟩ := h20
        go_wp2
        have hbn := below_alloc wx (.cells #[.slice A9 (rowS p a.x).length c9] 23)
        exact hT _ _ rfl hbn ⟨_, _, _, rfl, row1_new wx [.slice A9 (rowS p a.x).length c9] _, hr9.below hbn⟩
      refine Rg.walk_nil [0, 1, 2, 3, 4, 5, 6, 7, 8] (by kernel_rfl) ?_
      intro wx hb
      refine Rg.from_is (some 13) rfl rfl ?_
      refine Rg.from_is (some 14) rfl rfl ?_
      refine Rg.from_is (some 15) rfl rfl ?_
      refine Rg.from_is (some 16) rfl rfl ?_
      refine Rg.from_is (some 17) rfl rfl ?_
      refine Rg.from_is (some 18) rfl rfl ?_
      refine Rg.from_is (some 19) rfl rfl ?_
      refine Rg.from_of (some 20) rfl rfl fun v20 h20 => ?_
      refine Rg.from_of (some 21) rfl rfl fun v21 h21 => ?_
      refine Rg.from_nil ?_
      simp only [List.map, Act.put, List.setIfInBounds_toArray, List.set_cons_zero, List.set_cons_succ]
      have hO2 := HI.out.1.below hb
      obtain ⟨vs, p1, p2, p3⟩ := hO2
      have hvk : vs.length = k := by rw [p2, List.length_map, HLK.out]
      obtain ⟨g9, A9, c9, rfl, hg9, hu9⟩ := h21
      have hbw2 := below_next HI.out.2.2 HI.out.2.2.size hb
      have hcl9 := hg9.cells
      go_wp2_with (first | (at_builtin; refine wpList_moreG elt_rowsA wx rfl _ _ rfl w.heap.size p1 rfl (news := [.slice A9 (rowS p a.x).length c9]) (c := 1) hcl9 rfl (fun u hu => by rw [List.mem_singleton.1 hu]; rfl) (by rw [hvk]; simp; omega) (by rw [hvk]; simp; omega) hbw2.size ?_; intro v' w5 ho5 hg5) | fail)
      have HN := hid (show OwnRows w5 w.heap.size 23 24 v' ((rowsP p (l.take (k + 1)) []).map u64v) ∧ Row1 w5 w.heap.size 33 (pcells p) ∧ Below w.heap.size w w5 from by
        have hPb := HP.out.below hb
        refine ⟨by rw [HS.out]; exact OwnRows.push (by decide) p2 p3 p1 hu9 ho5 (fun j hj hne => hg5.block j hj hne), hPb.keep (hg5.block _ hPb.lt (own_ne_row p1 hPb (by decide))), hbw2.grown hg5 hbw2.size fun j e => (p1.block j e).1⟩)
      clear ho5 hg5 p1 p2 p3 hbw2 hg9 hu9 hb h20 hcl9 HI
      go_wp2
      go_roundw
      case rel => exact ⟨k + 1, by go_num, by omega, HN⟩
      case measure => simp [intOf]; omega
    · obtain rfl : k = l.length := by omega
      rw [List.take_length] at HI
      go_wp2
      go_ret
      exact ⟨_, rfl, HI.out.1, HI.out.2.2⟩
set_option maxRecDepth 100000 in
set_option maxHeartbeats 2000000 in
theorem rrank21_c (p : Par) (hp : p.ok) (A : Option Addr) (l : List Ask) (c : Nat) (w : World) (hA : Asks w A l) (hl : AskOk l) (hlf : l.length ≤ 40) :
    Calls Tryd.prog 35 #[pval p, .slice A l.length c] w fun e w' => e = .returned (.int .i64 (rankP p l)) ∧ Below w.heap.size w w' := by
  have hb0 := below_alloc w (.cells (pcells p).toArray 33)
  have hP := row1_new w (pcells p) 33
  have hA1 := hA.below hb0
  have hrl : (rowsP p l []).length ≤ 42 := by unfold rowsP; simp; omega
  have hrw : wideL (rowsP p l []) ≤ 42 := Nat.le_trans (rowsP_wide p l []) (by decide)
  have HRU := hid (rowsP_u p l [])
  have hq := hp.Q
  have HRK := hid (show rankP p l = rankV (rowsP p l []) p.Q from rfl)
  generalize rankP p l = RK at *
  clear hA
  go_enter Tryd.func35, Tryd.ntmps35
  go_wp2
  change Row1 (w.alloc (.cells #[.int .u64 p.P, .int .u64 p.Q, .int .u64 p.G, .int .u64 p.H, .int .i64 p.Nodes, .int .i64 p.N, .int .i64 p.T, .int .i64 p.K, .int .i64 p.D, .int .i64 p.R, .int .i64 p.M, .int .i64 p.X] 33)) _ _ _ at hP
  generalize w.alloc (.cells #[.int .u64 p.P, .int .u64 p.Q, .int .u64 p.G, .int .u64 p.H, .int .i64 p.Nodes, .int .i64 p.N, .int .i64 p.T, .int .i64 p.K, .int .i64 p.D, .int .i64 p.R, .int .i64 p.M, .int .i64 p.X] 33) = w1 at *
  refine Rg.wp_region (l := [_, _, _, _, _, _]) (tail := [_]) (Rg.grows _ 7) [some 5, some 6, some 7, some 8, some 9, some 10, some 4] 11 (by kernel_rfl) (by kernel_rfl) (by kernel_rfl) rfl (Rg.grows_fair _ _) (Rg.keep_drew _) (trivial) ?_
  refine Rg.op_is (pval p) [] rfl rfl (by kernel_rfl) ?_ ?_
  · intro wx hb
    refine Rg.from_nil fun T hT => ?_
    obtain ⟨p0, p1, p2, p3, p4, p5, p6, p7, p8, p9, p10, p11⟩ := par_cells (hP.below hb)
    go_wp2
    exact hT _ _ rfl (by first | exact Rg.Keep.refl _ | exact below_of_dr hw2 | exact hw2 | exact (Below.refl _ _).alloc (Nat.le_refl _) _) (by first | rfl | exact congrArg _ (by decide))
  refine' Rg.op_is _ [] rfl rfl (by kernel_rfl) ?_ ?_
  rotate_left
  · intro wx hb
    refine Rg.from_nil fun T hT => ?_
    go_wp2
    refine hT _ _ rfl (by first | exact Rg.Keep.refl _ | exact below_of_dr hw2 | exact hw2 | exact (Below.refl _ _).alloc (Nat.le_refl _) _) ?_
    simp only [Rg.last, List.getElem?_toArray, List.getElem?_cons_succ, List.getElem?_cons_zero, Option.getD_some]
    rfl
  refine Rg.op_of (fun w' v => GridVal w' v (rowsP p l [])) [0, 1] rfl ?_ ?_ rfl (by kernel_rfl) ?_ ?_
  · exact fun w1 w2 v hk h => h.below hk
  · exact fun w1 w2 v hk h => h.below hk
  · intro wx hb
    refine Rg.from_is (some 5) rfl rfl ?_
    refine Rg.from_is (some 6) rfl rfl ?_
    refine Rg.from_nil fun T hT => ?_
    go_wp2_with (fail)
    refine (rrows21_c p hp A l c _ (hA1.below hb) hl).mono ?_
    rintro e w2 ⟨v, rfl, ho, hw2⟩
    have hgv : GridVal w2 v (rowsP p l []) := ho.grid
    clear ho
    go_wp2
    exact hT _ _ rfl hw2 hgv
  refine' Rg.op_is _ [] rfl rfl (by kernel_rfl) ?_ ?_
  rotate_left
  · intro wx hb
    refine Rg.from_nil fun T hT => ?_
    go_wp2
    refine hT _ _ rfl (by first | exact Rg.Keep.refl _ | exact below_of_dr hw2 | exact hw2 | exact (Below.refl _ _).alloc (Nat.le_refl _) _) ?_
    simp only [Rg.last, List.getElem?_toArray, List.getElem?_cons_succ, List.getElem?_cons_zero, Option.getD_some]
    rfl
  refine Rg.op_is (.int .u64 p.Q) [3] rfl rfl (by kernel_rfl) ?_ ?_
  · intro wx hb
    refine Rg.from_is (some 8) rfl rfl ?_
    refine Rg.from_nil fun T hT => ?_
    have cQ := (hP.below hb).cell (k := 1) (u := .int .u64 p.Q) rfl
    go_wp2
    exact hT _ _ rfl (by first | exact Rg.Keep.refl _ | exact below_of_dr hw2 | exact hw2 | exact (Below.refl _ _).alloc (Nat.le_refl _) _) (by first | rfl | exact congrArg _ (by decide))
  refine Rg.op_is (.int .i64 RK) [2, 4] rfl rfl (by kernel_rfl) ?_ ?_
  · intro wx hb
    refine Rg.from_of (some 7) rfl rfl fun v7 h7 => ?_
    refine Rg.from_is (some 9) rfl rfl ?_
    refine Rg.from_nil fun T hT => ?_
    obtain ⟨A1, c1, rfl, g1⟩ := h7
    go_wp2_with (fail)
    refine (rank04_c A1 (rowsP p l []) c1 p.Q _ g1 hrl hrw HRU.out hq).mono ?_
    rintro e w2 ⟨rfl, hw2⟩
    rw [← HRK.out]
    go_wp2
    exact hT _ _ rfl hw2 rfl
  refine Rg.walk_nil [0, 1, 2, 3, 4, 5] (by kernel_rfl) ?_
  intro wx hb
  refine Rg.from_is (some 5) rfl rfl ?_
  refine Rg.from_is (some 6) rfl rfl ?_
  refine Rg.from_of (some 7) rfl rfl fun v7 h7 => ?_
  refine Rg.from_is (some 8) rfl rfl ?_
  refine Rg.from_is (some 9) rfl rfl ?_
  refine Rg.from_is (some 10) rfl rfl ?_
  refine Rg.from_nil ?_
  simp only [List.map, Act.put, List.setIfInBounds_toArray, List.set_cons_zero, List.set_cons_succ]
  have hbz := below_next hb0 hb0.size hb
  go_wp2
  go_ret
  exact ⟨rfl, hbz⟩
set_option maxRecDepth 100000 in
set_option maxHeartbeats 2000000 in
theorem rfollows21_c (p : Par) (hp : p.ok) (A : Option Addr) (l : List Ask) (c : Nat) (A2 : Option Addr) (x : List Int) (c2 : Nat) (w : World) (hA : Asks w A l) (hl : AskOk l) (hlf : l.length ≤ 40) (hA2 : Cells w A2 (x.map (.int .i64))) (hx : x.length ≤ 1000000) (hxu : I64s x) :
    Calls Tryd.prog 37 #[pval p, .slice A l.length c, .slice A2 x.length c2] w fun e w' => e = .returned (.bool (followsP p l x)) ∧ Below w.heap.size w w' := by
  have hb0 := below_alloc w (.cells (pcells p).toArray 33)
  have hP := row1_new w (pcells p) 33
  have hA1 := hA.below hb0
  have hA21 := hA2.below hb0
  have hrl : (rowsP p l []).length ≤ 41 := by unfold rowsP; simp; omega
  have hrw : wideL (rowsP p l [] ++ [rowS p x]) ≤ 42 := wideL_most fun r hr => by
    rcases List.mem_append.1 hr with h | h
    · have := wideL_le _ r h
      have := rowsP_wide p l []
      omega
    · have := rowS_len p x
      rw [List.mem_singleton.1 h]; omega
  have HRU := hid (rowsP_u p l [])
  have hq := hp.Q
  have HRK := hid (show followsP p l x = hangsV (rowsP p l []) (rowS p x) p.Q from rfl)
  generalize followsP p l x = RK at *
  have hrs := rowS_len p x
  have hru := rowS_u64 p x
  clear hA hA2
  go_enter Tryd.func37, Tryd.ntmps37
  go_wp2
  change Row1 (w.alloc (.cells #[.int .u64 p.P, .int .u64 p.Q, .int .u64 p.G, .int .u64 p.H, .int .i64 p.Nodes, .int .i64 p.N, .int .i64 p.T, .int .i64 p.K, .int .i64 p.D, .int .i64 p.R, .int .i64 p.M, .int .i64 p.X] 33)) _ _ _ at hP
  generalize w.alloc (.cells #[.int .u64 p.P, .int .u64 p.Q, .int .u64 p.G, .int .u64 p.H, .int .i64 p.Nodes, .int .i64 p.N, .int .i64 p.T, .int .i64 p.K, .int .i64 p.D, .int .i64 p.R, .int .i64 p.M, .int .i64 p.X] 33) = w1 at *
  refine Rg.wp_region (l := [_, _, _, _, _, _, _, _, _]) (tail := [_]) (Rg.grows _ 10) [some 7, some 8, some 9, some 10, some 11, some 12, some 13, some 14, some 15, some 6] 16 (by kernel_rfl) (by kernel_rfl) (by kernel_rfl) rfl (Rg.grows_fair _ _) (Rg.keep_drew _) (trivial) ?_
  refine Rg.op_is (pval p) [] rfl rfl (by kernel_rfl) ?_ ?_
  · intro wx hb
    refine Rg.from_nil fun T hT => ?_
    obtain ⟨p0, p1, p2, p3, p4, p5, p6, p7, p8, p9, p10, p11⟩ := par_cells (hP.below hb)
    go_wp2
    exact hT _ _ rfl (by first | exact Rg.Keep.refl _ | exact below_of_dr hw2 | exact hw2 | exact (Below.refl _ _).alloc (Nat.le_refl _) _) (by first | rfl | exact congrArg _ (by decide))
  refine' Rg.op_is _ [] rfl rfl (by kernel_rfl) ?_ ?_
  rotate_left
  · intro wx hb
    refine Rg.from_nil fun T hT => ?_
    go_wp2
    refine hT _ _ rfl (by first | exact Rg.Keep.refl _ | exact below_of_dr hw2 | exact hw2 | exact (Below.refl _ _).alloc (Nat.le_refl _) _) ?_
    simp only [Rg.last, List.getElem?_toArray, List.getElem?_cons_succ, List.getElem?_cons_zero, Option.getD_some]
    rfl
  refine Rg.op_of (fun w' v => GridVal w' v (rowsP p l [])) [0, 1] rfl ?_ ?_ rfl (by kernel_rfl) ?_ ?_
  · exact fun w1 w2 v hk h => h.below hk
  · exact fun w1 w2 v hk h => h.below hk
  · intro wx hb
    refine Rg.from_is (some 7) rfl rfl ?_
    refine Rg.from_is (some 8) rfl rfl ?_
    refine Rg.from_nil fun T hT => ?_
    go_wp2_with (fail)
    refine (rrows21_c p hp A l c _ (hA1.below hb) hl).mono ?_
    rintro e w2 ⟨v, rfl, ho, hw2⟩
    have hgv : GridVal w2 v (rowsP p l []) := ho.grid
    clear ho
    go_wp2
    exact hT _ _ rfl hw2 hgv
  refine Rg.op_is (pval p) [] rfl rfl (by kernel_rfl) ?_ ?_
  · intro wx hb
    refine Rg.from_nil fun T hT => ?_
    obtain ⟨p0, p1, p2, p3, p4, p5, p6, p7, p8, p9, p10, p11⟩ := par_cells (hP.below hb)
    go_wp2
    exact hT _ _ rfl (by first | exact Rg.Keep.refl _ | exact below_of_dr hw2 | exact hw2 | exact (Below.refl _ _).alloc (Nat.le_refl _) _) (by first | rfl | exact congrArg _ (by decide))
  refine' Rg.op_is _ [] rfl rfl (by kernel_rfl) ?_ ?_
  rotate_left
  · intro wx hb
    refine Rg.from_nil fun T hT => ?_
    go_wp2
    refine hT _ _ rfl (by first | exact Rg.Keep.refl _ | exact below_of_dr hw2 | exact hw2 | exact (Below.refl _ _).alloc (Nat.le_refl _) _) ?_
    simp only [Rg.last, List.getElem?_toArray, List.getElem?_cons_succ, List.getElem?_cons_zero, Option.getD_some]
    rfl
  refine Rg.op_of (fun w' v => RowVal w' v (rowS p x)) [3, 4] rfl ?_ ?_ rfl (by kernel_rfl) ?_ ?_
  · exact fun w1 w2 v hk h => h.below hk
  · exact fun w1 w2 v hk h => h.below hk
  · intro wx hb
    refine Rg.from_is (some 10) rfl rfl ?_
    refine Rg.from_is (some 11) rfl rfl ?_
    refine Rg.from_nil fun T hT => ?_
    go_wp2_with (fail)
    refine (rrow_c p hp A2 x c2 _ (hA21.below hb) (by omega) hxu).mono ?_
    rintro e w2 ⟨v, rfl, ho, hw2⟩
    have hgv : RowVal w2 v (rowS p x) := rowVal_own ho
    clear ho
    go_wp2
    exact hT _ _ rfl hw2 hgv
  refine' Rg.op_is _ [] rfl rfl (by kernel_rfl) ?_ ?_
  rotate_left
  · intro wx hb
    refine Rg.from_nil fun T hT => ?_
    go_wp2
    refine hT _ _ rfl (by first | exact Rg.Keep.refl _ | exact below_of_dr hw2 | exact hw2 | exact (Below.refl _ _).alloc (Nat.le_refl _) _) ?_
    simp only [Rg.last, List.getElem?_toArray, List.getElem?_cons_succ, List.getElem?_cons_zero, Option.getD_some]
    rfl
  refine Rg.op_is (.int .u64 p.Q) [6] rfl rfl (by kernel_rfl) ?_ ?_
  · intro wx hb
    refine Rg.from_is (some 13) rfl rfl ?_
    refine Rg.from_nil fun T hT => ?_
    have cQ := (hP.below hb).cell (k := 1) (u := .int .u64 p.Q) rfl
    go_wp2
    exact hT _ _ rfl (by first | exact Rg.Keep.refl _ | exact below_of_dr hw2 | exact hw2 | exact (Below.refl _ _).alloc (Nat.le_refl _) _) (by first | rfl | exact congrArg _ (by decide))
  refine Rg.op_is (.bool RK) [2, 5, 7] rfl rfl (by kernel_rfl) ?_ ?_
  · intro wx hb
    refine Rg.from_of (some 9) rfl rfl fun v9 h9 => ?_
    refine Rg.from_of (some 12) rfl rfl fun v12 h12 => ?_
    refine Rg.from_is (some 14) rfl rfl ?_
    refine Rg.from_nil fun T hT => ?_
    obtain ⟨A1, c1, rfl, g1⟩ := h9
    obtain ⟨A3, c3, rfl, g3, _⟩ := h12
    go_wp2_with (fail)
    refine (hangs04_c A1 (rowsP p l []) c1 A3 (rowS p x) c3 p.Q _ g1 hrl hrw HRU.out g3 hru (by omega) hq).mono ?_
    rintro e w2 ⟨rfl, hw2⟩
    rw [← HRK.out]
    go_wp2
    exact hT _ _ rfl hw2 rfl
  refine Rg.walk_nil [0, 1, 2, 3, 4, 5, 6, 7, 8] (by kernel_rfl) ?_
  intro wx hb
  refine Rg.from_is (some 7) rfl rfl ?_
  refine Rg.from_is (some 8) rfl rfl ?_
  refine Rg.from_of (some 9) rfl rfl fun v9 h9 => ?_
  refine Rg.from_is (some 10) rfl rfl ?_
  refine Rg.from_is (some 11) rfl rfl ?_
  refine Rg.from_of (some 12) rfl rfl fun v12 h12 => ?_
  refine Rg.from_is (some 13) rfl rfl ?_
  refine Rg.from_is (some 14) rfl rfl ?_
  refine Rg.from_is (some 15) rfl rfl ?_
  refine Rg.from_nil ?_
  simp only [List.map, Act.put, List.setIfInBounds_toArray, List.set_cons_zero, List.set_cons_succ]
  have hbz := below_next hb0 hb0.size hb
  go_wp2
  go_ret
  exact ⟨rfl, hbz⟩
end Go.Proofs.YtlbhmoiicbhgkaaDoor
