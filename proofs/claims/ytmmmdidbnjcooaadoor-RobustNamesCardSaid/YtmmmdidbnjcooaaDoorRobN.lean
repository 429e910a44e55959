/-
  RobustNames' walk.
-/
import Derived.Test.YtmmmdidbnjcooaaDoorRobG
import Derived.Test.YtmmmdidbnjcooaaDoorLits
namespace Go.Proofs.YtmmmdidbnjcooaaDoor
open Go Go.RowKit Go.Maps Go.Shelf Go.Proofs

attribute [local go_sem] Oper.semAt_some

structure TabN where
  n : Nat
  m : Nat
  t : Int
  q : Int
  e : Int
abbrev tabN : List TabN := [⟨2, 2, 1, 11, 5⟩, ⟨0, 0, 0, 11, 5⟩, ⟨3, 3, 1, 9, 1⟩, ⟨3, 3, 1, 0, 1⟩, ⟨3, 3, 1, 1, 1⟩, ⟨3, 3, -1, 11, 1⟩, ⟨3, 3, 3, 11, 1⟩, ⟨3, 2, 1, 11, 1⟩, ⟨8, 8, 1, 11, 40⟩, ⟨4, 4, 1, 3, 6⟩, ⟨4, 4, 2, 11, 5⟩, ⟨8, 8, 1, 3, 40⟩]
abbrev ncl (x : TabN) : List Value := [.int .i64 (x.n : Int), .int .i64 (x.m : Int), .int .i64 x.t, .int .u64 x.q, .int .i64 x.e]
/-- 0, 1, 2, .. as far as k, and 0s. -/
def fillL (n k : Nat) : List Int := (List.range n).map fun i => if i < k then (i : Int) else 0
theorem fillL_len (n k : Nat) : (fillL n k).length = n := by simp [fillL]
theorem fillL_zero (n : Nat) : (fillL n 0).map (Value.int .u64) = List.replicate n (.int .u64 0) := by
  apply List.ext_getElem?
  intro i
  unfold fillL
  rw [List.getElem?_map, List.getElem?_map]
  by_cases h : i < n
  · rw [List.getElem?_range h, List.getElem?_replicate_of_lt h]; rfl
  · rw [List.getElem?_eq_none (by simpa using h), List.getElem?_eq_none (by simpa using h)]; rfl
theorem fillL_set (n k : Nat) : ((fillL n k).map (Value.int .u64)).set k (.int .u64 (k : Int)) = (fillL n (k + 1)).map (Value.int .u64) := by
  apply List.ext_getElem?
  intro i
  rw [List.getElem?_set, List.length_map, fillL_len]
  unfold fillL
  rw [List.getElem?_map, List.getElem?_map, List.getElem?_map, List.getElem?_map]
  by_cases h : i < n
  · rw [List.getElem?_range h]
    by_cases e : k = i
    · subst e
      rw [if_pos rfl, if_pos h]
      simp
    · rw [if_neg e]
      simp only [Option.map_some]
      rw [show (if i < k then (i : Int) else 0) = (if i < k + 1 then (i : Int) else 0) by split <;> split <;> omega]
  · rw [List.getElem?_eq_none (by simpa using h)]
    by_cases e : k = i
    · subst e
      rw [if_pos rfl, if_neg h]; rfl
    · rw [if_neg e]; rfl
theorem fillL_u64 (n k : Nat) (h : n ≤ 1000) : U64s (fillL n k) := by
  intro z hz
  obtain ⟨i, hi, rfl⟩ := List.mem_map.1 hz
  have := List.mem_range.1 hi
  constructor <;> split <;> omega
theorem zeros_u64 (n : Nat) : U64s (List.replicate n 0) := by
  intro z hz
  obtain ⟨_, rfl⟩ := List.mem_replicate.1 hz
  exact ⟨by omega, by omega⟩
theorem tabN_dec : ∀ x ∈ tabN, decR (fillL x.n x.n) (List.replicate x.m 0) x.t x.q = ([], [], x.e) := by
  have h : (tabN.all fun x => decide (decV (fillL x.n x.n) (List.replicate x.m 0) x.t x.q = ([], [], x.e))) = true := by decide +kernel
  intro x hx
  rw [decR_V]
  exact of_decide_eq_true (List.all_eq_true.1 h x hx)
theorem tabN_ok : ∀ x ∈ tabN, x.n ≤ 8 ∧ x.m ≤ 8 ∧ I64 x.t ∧ U64 x.q ∧ 0 ≤ x.e ∧ x.e < 100 := by
  have h : (tabN.all fun x => decide (x.n ≤ 8) && decide (x.m ≤ 8) && (decide (-9223372036854775808 ≤ x.t) && decide (x.t < 9223372036854775808)) && (decide (0 ≤ x.q) && decide (x.q < 18446744073709551616)) && (decide (0 ≤ x.e) && decide (x.e < 100))) = true := by decide +kernel
  intro x hx
  have := List.all_eq_true.1 h x hx
  simp only [Bool.and_eq_true, decide_eq_true_eq] at this
  obtain ⟨⟨⟨⟨h1, h2⟩, h3⟩, h4⟩, h5⟩ := this
  exact ⟨h1, h2, ⟨h3.1, by omega⟩, ⟨h4.1, h4.2⟩, h5.1, h5.2⟩
theorem cells_take {w : World} {A : Option Addr} {xs : List Value} (h : Cells w A xs) (k : Nat) : Cells w A (xs.take k) := by
  rcases h with rfl | ⟨b, off, rfl, h⟩
  · exact .inl (by simp)
  · refine .inr ⟨b, off, rfl, fun i u hu => h i u ?_⟩
    rw [List.getElem?_take] at hu
    split at hu
    · exact hu
    · cases hu
theorem rn_1 : isB [1, 2, 3, 4, 5, 6] [1, 1, 1, 2, 2, 2] 1 11 [1, 0] [3, 4, 5] = true := isB_at (by rw [decR_V]; decide +kernel)
theorem rn_2 : isB [1, 2, 3, 4] [5, 7, 9, 0] 1 11 [3, 2] [] = true := isB_at (by rw [decR_V]; decide +kernel)
theorem rn_3 : isB [3] [9] 0 2 [1] [] = true := isB_at (by rw [decR_V]; decide +kernel)
theorem rn_4 : isB [1, 2, 3, 4, 5] [0, 0, 0, 0, 0] 2 11 [0, 0, 0] [] = true := isB_at (by rw [decR_V]; decide +kernel)
/-- the rows that a round makes. -/
def madeN (n m : Nat) : Nat → Option (TypeId × List Value) := fun j => if j = 2 then some (24, List.replicate n (.int .u64 0)) else if j = 5 then some (24, List.replicate m (.int .u64 0)) else none
/-- those of the last region. -/
def madeE : Nat → Option (TypeId × List Value) := fun j =>
  if j = 0 then some (24, [.int .u64 3]) else if j = 1 then some (24, [.int .u64 9]) else if j = 2 then some (24, [.int .u64 1])
  else if j = 7 then some (24, List.replicate 5 (.int .u64 0)) else if j = 8 then some (24, List.replicate 3 (.int .u64 0)) else none
/-- and the first of them was given its name. -/
def LitsN (w0 : World) (L : Nat → Option (TypeId × List Value)) (g : Rgi.Ghost) (w : World) : Prop := LitsB w0 L g w ∧ ∀ v, g 6 = some v → g 2 = some v
set_option maxRecDepth 100000 in
set_option maxHeartbeats 8000000 in
theorem robustNames_c (w : World) (hTab : Tabs w) :
    Calls Tryd.prog 5 #[] w fun e w' => e = .returned (.bool true) ∧ Below w.heap.size w w' := by
  have hB := Bun.nil w
  have HT := hid hTab
  clear hTab
  go_enter Tryd.func5, Tryd.ntmps5
  go_wp2_with (first | (refine wpList_named hB rfl ?_; clear hB; intro wn gn hB hbn hg; (try rw [hg]); clear hg hbn) | fail)
  refine (awake05_c _ (HT.out.below hB.b)).mono ?_
  rintro e w2 ⟨rfl, hb2⟩
  replace hB := (hB.more hb2)
  clear hb2
  go_wp2_with (first | (refine wpList_named hB rfl ?_; clear hB; intro wn gn hB hbn hg; (try rw [hg]); clear hg hbn) | fail)
  refine (is_c _ _ _ _ [1, 2, 3, 4, 5, 6] [1, 1, 1, 2, 2, 2] [1, 0] [3, 4, 5] 6 6 2 3 1 11 _ ((hB.row (i := 3) rfl).cells) ((hB.row (i := 2) rfl).cells) ((hB.row (i := 1) rfl).cells) ((hB.row (i := 0) rfl).cells) (by decide) (by decide) (by decide) (by decide) (u64s_of' (by decide)) (u64s_of' (by decide)) ⟨by decide, by decide⟩ ⟨by decide, by decide⟩ (HT.out.below hB.b)).mono ?_
  rintro e w3 ⟨rfl, hb3⟩
  rw [rn_1]
  replace hB := (hB.more hb3)
  clear hb3
  go_wp2_with (first | (refine wpList_named hB rfl ?_; clear hB; intro wn gn hB hbn hg; (try rw [hg]); clear hg hbn) | fail)
  refine (is_c _ _ _ _ [1, 2, 3, 4] [5, 7, 9, 0] [3, 2] [] 6 4 2 0 1 11 _ (cells_take (hB.row (i := 5) rfl).cells 4) ((hB.row (i := 1) rfl).cells) ((hB.row (i := 0) rfl).cells) (.inl rfl) (by decide) (by decide) (by decide) (by decide) (u64s_of' (by decide)) (u64s_of' (by decide)) ⟨by decide, by decide⟩ ⟨by decide, by decide⟩ (HT.out.below hB.b)).mono ?_
  rintro e w4 ⟨rfl, hb4⟩
  rw [rn_2]
  replace hB := (hB.more hb4)
  clear hb4
  go_upto_region 5 with (first | (refine wpList_named hB rfl ?_; clear hB; intro wn gn hB hbn hg; (try rw [hg]); clear hg hbn) | fail)
  have hrow : Row1 wn gn 44 (tabN.flatMap ncl) := hB.row (i := 0) rfl
  have HTB := hid (show ∀ (k : Nat) (x : TabN), tabN[k]? = some x → ∀ j, j < 5 → ∀ v, (ncl x)[j]? = some v → wn.cell? ⟨gn, k * 5 + j, none⟩ = some v from
    fun k x hk j hj v hv => hrow.cell (by rw [flat_at ncl 5 (fun _ => rfl) tabN k j hj, hk]; exact hv))
  have H6 := hid (hB.row (i := 6) rfl)
  have HBW := hid hB.b
  clear hrow hB
  generalize wn = wo at *
  generalize gn = gt at *
  go_loopw [43] (fun i wr => ∃ k : Nat, i = .int .i64 (k : Int) ∧ k ≤ 12 ∧ Hid (Below wo.heap.size wo wr)) (fun i _ => 12 - (intOf i).toNat)
  case atStart => exact ⟨0, rfl, by omega, hid (Below.refl _ _)⟩
  case round =>
    obtain ⟨k, rfl, hk, HI⟩ := hrel
    by_cases hlt : k < 12
    · obtain ⟨x, hx⟩ := get_of_lt (l := tabN) (show k < tabN.length from hlt)
      have hm := List.mem_of_getElem? hx
      have HDC := hid (tabN_dec x hm)
      obtain ⟨ok1, ok2, ok3, ok4, ok5, ok6⟩ := tabN_ok x hm
      have c0 : wr.cell? ⟨gt, k * 5, none⟩ = some (.int .i64 (x.n : Int)) := (HI.out.cell (lt_of_cell (HTB.out k x hx 0 (by decide) _ rfl))).trans (HTB.out k x hx 0 (by decide) _ rfl)
      have c1 := (HI.out.cell (lt_of_cell (HTB.out k x hx 1 (by decide) _ rfl))).trans (HTB.out k x hx 1 (by decide) _ rfl)
      have c2 := (HI.out.cell (lt_of_cell (HTB.out k x hx 2 (by decide) _ rfl))).trans (HTB.out k x hx 2 (by decide) _ rfl)
      have c3 := (HI.out.cell (lt_of_cell (HTB.out k x hx 3 (by decide) _ rfl))).trans (HTB.out k x hx 3 (by decide) _ rfl)
      have c4 := (HI.out.cell (lt_of_cell (HTB.out k x hx 4 (by decide) _ rfl))).trans (HTB.out k x hx 4 (by decide) _ rfl)
      have hb9 := below_alloc wr (.cells (ncl x).toArray 44)
      have hr9 := row1_new wr (ncl x) 44
      have HBZ := hid (below_next HI.out HI.out.size hb9)
      have hk1 : (k : Int) < 12 := by omega
      clear hx hm HI hb9
      go_upto_region 7 with (fail)
      simp only [List.toArray] at hr9 HBZ
      generalize wr.alloc (.cells _ 44) = wb at *
      obtain ⟨g3, hg3⟩ : ∃ n, wr.heap.size = n := ⟨_, rfl⟩
      rw [hg3] at hr9 ⊢
      clear hg3 c0 c1 c2 c3 c4
      refine Rgi.wp_region (l := [_, _, _, _, _, _, _]) (tail := [_]) (⟨LitsN wb (madeN x.n x.m), [2, 5, 6]⟩) [some 47, some 48, some 49, some 50, some 51, some 52, some 4, some 5] 99 rfl (by kernel_rfl) (by kernel_rfl) rfl (⟨LitsB.start _ _, fun _ h => (by cases h)⟩) ?_
      refine' Rgi.op_is _ [] rfl rfl (by kernel_rfl) ?_ ?_
      rotate_left
      · intro g wx hb
        refine Rgi.from_nil fun T hT => ?_
        go_wp2
        refine hT _ _ rfl hb ?_
        simp only [Rgi.last, List.getElem?_toArray, List.getElem?_cons_succ, List.getElem?_cons_zero, Option.getD_some]
        rfl
      refine Rgi.op_is (.int .i64 (x.n : Int)) [0] rfl rfl (by kernel_rfl) ?_ ?_
      · intro g wx hb
        refine Rgi.from_is (some 47) rfl rfl ?_
        refine Rgi.from_nil fun T hT => ?_
        have c3 := (hr9.below (LitsB.b (And.left hb))).cell (k := 0) rfl
        go_wp2
        exact hT _ _ rfl hb (by first | rfl | exact congrArg _ (by decide))
      refine Rgi.op_sp [1] rfl rfl (by kernel_rfl) ?_ ?_
      · intro g wx hb hg
        refine Rgi.from_is (some 48) rfl rfl ?_
        refine Rgi.from_nil fun T hT => ?_
        at_make
        refine wpList_make_row elt_u64 _ rfl _ _ rfl .i64 .i64 _ _ x.n rfl rfl rfl rfl (by omega) (by omega) ?_
        intro w2 hr2 hs2 hb2
        have hN := LitsB.made (And.left hb) (j := 2) rfl hr2 hb2
        rw [List.length_replicate] at hN
        have h2 : g 2 = none := hg
        have h6' := And.right hb
        go_wp2
        refine hT _ _ rfl ⟨hN, fun v h => ?_⟩
        have h7 : g 6 = some v := h
        rw [h6' v h7] at h2
        cases h2
      refine' Rgi.op_is _ [] rfl rfl (by kernel_rfl) ?_ ?_
      rotate_left
      · intro g wx hb
        refine Rgi.from_nil fun T hT => ?_
        go_wp2
        refine hT _ _ rfl hb ?_
        simp only [Rgi.last, List.getElem?_toArray, List.getElem?_cons_succ, List.getElem?_cons_zero, Option.getD_some]
        rfl
      refine Rgi.op_is (.int .i64 (x.m : Int)) [3] rfl rfl (by kernel_rfl) ?_ ?_
      · intro g wx hb
        refine Rgi.from_is (some 50) rfl rfl ?_
        refine Rgi.from_nil fun T hT => ?_
        have c3 := (hr9.below (LitsB.b (And.left hb))).cell (k := 1) rfl
        go_wp2
        exact hT _ _ rfl hb (by first | rfl | exact congrArg _ (by decide))
      refine Rgi.op_sp [4] rfl rfl (by kernel_rfl) ?_ ?_
      · intro g wx hb hg
        refine Rgi.from_is (some 51) rfl rfl ?_
        refine Rgi.from_nil fun T hT => ?_
        at_make
        refine wpList_make_row elt_u64 _ rfl _ _ rfl .i64 .i64 _ _ x.m rfl rfl rfl rfl (by omega) (by omega) ?_
        intro w2 hr2 hs2 hb2
        have hN := LitsB.made (And.left hb) (j := 5) rfl hr2 hb2
        rw [List.length_replicate] at hN
        have h6' := And.right hb
        go_wp2
        exact hT _ _ rfl ⟨hN, fun v h => h6' v h⟩
      refine Rgi.op_sp [2] rfl rfl (by kernel_rfl) ?_ ?_
      · intro g wx hb hg
        refine Rgi.from_sp (some 49) rfl rfl rfl fun v49 h49 => ?_
        refine Rgi.from_nil fun T hT => ?_
        have hN := LitsB.skip (And.left hb) (j := 6) rfl v49
        go_wp2
        refine hT _ _ rfl ⟨hN, fun v h => ?_⟩
        obtain rfl := Option.some.inj h
        exact h49
      refine Rgi.walk_nil [0, 1, 2, 3, 4, 5, 6] (by kernel_rfl) ?_
      intro g wx hb
      refine Rgi.from_is (some 47) rfl rfl ?_
      refine Rgi.from_is (some 48) rfl rfl ?_
      refine Rgi.from_sp (some 49) rfl rfl rfl fun v49 h49 => ?_
      refine Rgi.from_is (some 50) rfl rfl ?_
      refine Rgi.from_is (some 51) rfl rfl ?_
      refine Rgi.from_sp (some 52) rfl rfl rfl fun v52 h52 => ?_
      refine Rgi.from_sp (some 4) rfl rfl rfl fun v4 h4 => ?_
      refine Rgi.from_nil ?_
      simp only [List.map, Act.put, List.setIfInBounds_toArray, List.set_cons_zero, List.set_cons_succ]
      have h4' := And.right hb _ h4
      replace hb := And.left hb
      have hne := LitsB.ne hb 2 5 _ _ (by decide) rfl rfl _ _ h4' h52
      obtain ⟨gx, rfl, hrx, hgx⟩ := LitsB.row hb 2 _ _ rfl _ h4'
      obtain ⟨gy, rfl, hry, hgy⟩ := LitsB.row hb 5 _ _ rfl _ h52
      have hnxy : gx ≠ gy := fun e => hne (by rw [e]; rfl)
      have hbb : Below wb.heap.size wb wx := LitsB.b hb
      rw [← fillL_zero] at hrx
      rw [List.length_replicate, List.length_replicate]
      have HS := hid (show Row1 wx gx 24 ((fillL x.n 0).map (.int .u64)) ∧ Row1 wx gy 24 (List.replicate x.m (.int .u64 0)) ∧ Below wb.heap.size wb wx from ⟨hrx, hry, hbb⟩)
      clear hne hrx hry hbb hb h4 h4' h49 h52
      generalize wx = ws at *
      go_upto_region 9 with (fail)
      go_loopw [6] (fun i wr => ∃ j : Nat, i = .int .i64 (j : Int) ∧ j ≤ x.n ∧ Hid (Row1 wr gx 24 ((fillL x.n j).map (.int .u64)) ∧ Row1 wr gy 24 (List.replicate x.m (.int .u64 0)) ∧ Below wb.heap.size wb wr)) (fun i _ => x.n - (intOf i).toNat)
      case atStart => exact ⟨0, rfl, by omega, HS⟩
      case round =>
        obtain ⟨j, rfl, hj, HJ⟩ := hrel
        have hr10 := hr9.below HJ.out.2.2
        have e0 := hr10.cell (k := 0) rfl
        by_cases hjl : j < x.n
        · have hjl1 : (j : Int) < (x.n : Int) := by omega
          obtain ⟨x0, hx0⟩ := get_of_lt (l := fillL x.n j) (show j < _ by rw [fillL_len]; exact hjl)
          have d0 := HJ.out.1.cell (k := j) (u := .int .u64 x0) (by rw [List.getElem?_map, hx0]; rfl)
          have f0 := HJ.out.1.frozen j
          have hset := HJ.out.1.set j (.int .u64 (j : Int))
          rw [fillL_set] at hset
          have HN := hid (And.intro hset (And.intro (HJ.out.2.1.far (p := ⟨gx, j, none⟩) hnxy (.int .u64 (j : Int))) (HJ.out.2.2.setCell (p := ⟨gx, j, none⟩) hgx (.int .u64 (j : Int)))))
          clear hx0 HJ hset hr10
          go_wp2
          go_roundw
          case rel => exact ⟨j + 1, by go_num, by omega, HN⟩
          case measure => simp [intOf]; omega
        · obtain rfl : j = x.n := by omega
          have hbw := below_next HBW.out HBW.out.size (below_next HBZ.out HBZ.out.size HJ.out.2.2)
          have hp := dec_c (some ⟨gx, 0, none⟩) (some ⟨gy, 0, none⟩) (fillL x.n x.n) (List.replicate x.m 0) x.n x.m x.t x.q wr HJ.out.1.cells (by rw [List.map_replicate]; exact HJ.out.2.1.cells) (by rw [fillL_len]; omega) (by rw [List.length_replicate]; omega) (fillL_u64 _ _ (by omega)) (zeros_u64 _) ok3 ok4 (HT.out.below hbw)
          rw [fillL_len, List.length_replicate, HDC.out] at hp
          have HP := hid hp
          have e2 := hr10.cell (k := 2) rfl
          have e3 := hr10.cell (k := 3) rfl
          have HR10 := hid hr10
          have HBX := hid (below_next HBZ.out HBZ.out.size HJ.out.2.2)
          clear hp HJ hbw hr10
          go_wp2_with (fail)
          refine HP.out.mono ?_
          rintro e w5 ⟨v1, v2, rfl, o1, o2, hb5⟩
          dsimp only at o1 o2 ⊢
          obtain ⟨A1, k1, e1', _⟩ := o1.form
          obtain ⟨A2, k2, e2', _⟩ := o2.form
          subst e1'
          subst e2'
          have e4 := (HR10.out.below hb5).cell (k := 4) rfl
          have hee : (x.e != x.e) = false := by simp
          have HN := hid (below_next HBX.out HBX.out.size hb5)
          clear o1 o2 hb5
          go_wp2
          go_roundw
          case rel => exact ⟨k + 1, by go_num, by omega, HN⟩
          case measure => simp [intOf]; omega
    · rw [show (k : Int) = 12 by omega]
      have h6 := H6.out.below HI.out
      have hbw := below_next HBW.out HBW.out.size HI.out
      have hT6 := HT.out.below hbw
      clear HI H6
      generalize wr = wq at *
      go_upto_region 16 with (fail)
      refine Rgi.wp_region (l := [_, _, _, _, _, _, _, _, _, _, _]) (tail := [_]) (⟨LitsB wq madeE, [0, 1, 2, 7, 8]⟩) [some 88, some 89, some 90, some 91, some 92, some 93, some 94, some 95, some 96, some 97, some 98, some 0] 99 rfl (by kernel_rfl) (by kernel_rfl) rfl (LitsB.start _ _) ?_
      refine Rgi.op_sp [] rfl rfl (by kernel_rfl) ?_ ?_
      · intro g wx hb hg
        refine Rgi.from_nil fun T hT => ?_
        go_wp2
        exact hT _ _ rfl (LitsB.new hb (j := 0) (e := 24) (xs := [.int .u64 3]) rfl)
      refine Rgi.op_sp [] rfl rfl (by kernel_rfl) ?_ ?_
      · intro g wx hb hg
        refine Rgi.from_nil fun T hT => ?_
        go_wp2
        exact hT _ _ rfl (LitsB.new hb (j := 1) (e := 24) (xs := [.int .u64 9]) rfl)
      refine Rgi.op_sp [] rfl rfl (by kernel_rfl) ?_ ?_
      · intro g wx hb hg
        refine Rgi.from_nil fun T hT => ?_
        go_wp2
        exact hT _ _ rfl (LitsB.new hb (j := 2) (e := 24) (xs := [.int .u64 1]) rfl)
      refine Rgi.op_is (.bool true) [0, 1, 2] rfl rfl (by kernel_rfl) ?_ ?_
      · intro g wx hb
        refine Rgi.from_sp (some 88) rfl rfl rfl fun v88 h88 => ?_
        refine Rgi.from_sp (some 89) rfl rfl rfl fun v89 h89 => ?_
        refine Rgi.from_sp (some 90) rfl rfl rfl fun v90 h90 => ?_
        refine Rgi.from_nil fun T hT => ?_
        obtain ⟨a1, rfl, r1, _⟩ := LitsB.row hb 0 _ _ rfl _ h88
        obtain ⟨a2, rfl, r2, _⟩ := LitsB.row hb 1 _ _ rfl _ h89
        obtain ⟨a3, rfl, r3, _⟩ := LitsB.row hb 2 _ _ rfl _ h90
        go_wp2_with (fail)
        refine (is_c (some ⟨a1, 0, none⟩) (some ⟨a2, 0, none⟩) (some ⟨a3, 0, none⟩) none [3] [9] [1] [] 1 1 1 0 0 2 _ r1.cells r2.cells r3.cells (.inl rfl) (by decide) (by decide) (by decide) (by decide) (u64s_of' (by decide)) (u64s_of' (by decide)) ⟨by decide, by decide⟩ ⟨by decide, by decide⟩ (hT6.below (LitsB.b hb))).mono ?_
        rintro e w3 ⟨rfl, hb3⟩
        rw [rn_3]
        go_wp2
        exact hT _ _ rfl (LitsB.keep hb hb3) rfl
      refine Rgi.op_is (.bool true) [3] rfl rfl (by kernel_rfl) ?_ ?_
      · intro g wx hb
        refine Rgi.from_is (some 91) rfl rfl ?_
        refine Rgi.from_nil fun T hT => ?_
        go_wp2
        exact hT _ _ rfl hb (by first | rfl | exact congrArg _ (by decide))
      refine' Rgi.op_is _ [] rfl rfl (by kernel_rfl) ?_ ?_
      rotate_left
      · intro g wx hb
        refine Rgi.from_nil fun T hT => ?_
        go_wp2
        refine hT _ _ rfl hb ?_
        simp only [Rgi.last, List.getElem?_toArray, List.getElem?_cons_succ, List.getElem?_cons_zero, Option.getD_some]
        rfl
      refine' Rgi.op_is _ [5] rfl rfl (by kernel_rfl) ?_ ?_
      rotate_left
      · intro g wx hb
        refine Rgi.from_is (some 93) rfl rfl ?_
        refine Rgi.from_nil fun T hT => ?_
        go_wp2
        refine hT _ _ rfl hb ?_
        simp only [Rgi.last, List.getElem?_toArray, List.getElem?_cons_succ, List.getElem?_cons_zero, Option.getD_some]
        rfl
      refine Rgi.op_sp [] rfl rfl (by kernel_rfl) ?_ ?_
      · intro g wx hb hg
        refine Rgi.from_nil fun T hT => ?_
        at_make
        refine wpList_make_row elt_u64 _ rfl _ _ rfl .i64 .i64 _ _ 5 rfl rfl rfl rfl (by omega) (by omega) ?_
        intro w2 hr2 hs2 hb2
        have hN := LitsB.made hb (j := 7) rfl hr2 hb2
        go_wp2
        exact hT _ _ rfl hN
      refine Rgi.op_sp [] rfl rfl (by kernel_rfl) ?_ ?_
      · intro g wx hb hg
        refine Rgi.from_nil fun T hT => ?_
        at_make
        refine wpList_make_row elt_u64 _ rfl _ _ rfl .i64 .i64 _ _ 3 rfl rfl rfl rfl (by omega) (by omega) ?_
        intro w2 hr2 hs2 hb2
        have hN := LitsB.made hb (j := 8) rfl hr2 hb2
        go_wp2
        exact hT _ _ rfl hN
      refine Rgi.op_is (.bool true) [6, 7, 8] rfl rfl (by kernel_rfl) ?_ ?_
      · intro g wx hb
        refine Rgi.from_is (some 94) rfl rfl ?_
        refine Rgi.from_sp (some 95) rfl rfl rfl fun v95 h95 => ?_
        refine Rgi.from_sp (some 96) rfl rfl rfl fun v96 h96 => ?_
        refine Rgi.from_nil fun T hT => ?_
        obtain ⟨a1, rfl, r1, _⟩ := LitsB.row hb 7 _ _ rfl _ h95
        obtain ⟨a2, rfl, r2, _⟩ := LitsB.row hb 8 _ _ rfl _ h96
        go_wp2_with (fail)
        refine (is_c (some ⟨_, 0, none⟩) (some ⟨a1, 0, none⟩) (some ⟨a2, 0, none⟩) none [1, 2, 3, 4, 5] [0, 0, 0, 0, 0] [0, 0, 0] [] 6 5 3 0 2 11 _ (cells_take (h6.below (LitsB.b hb)).cells 5) r1.cells r2.cells (.inl rfl) (by decide) (by decide) (by decide) (by decide) (u64s_of' (by decide)) (u64s_of' (by decide)) ⟨by decide, by decide⟩ ⟨by decide, by decide⟩ (hT6.below (LitsB.b hb))).mono ?_
        rintro e w3 ⟨rfl, hb3⟩
        rw [rn_4]
        go_wp2
        exact hT _ _ rfl (LitsB.keep hb hb3) rfl
      refine Rgi.op_is (.bool true) [4, 9] rfl rfl (by kernel_rfl) ?_ ?_
      · intro g wx hb
        refine Rgi.from_is (some 92) rfl rfl ?_
        refine Rgi.from_is (some 97) rfl rfl ?_
        refine Rgi.from_nil fun T hT => ?_
        go_wp2
        exact hT _ _ rfl hb (by first | rfl | exact congrArg _ (by decide))
      refine Rgi.walk_nil [0, 1, 2, 3, 4, 5, 6, 7, 8, 9, 10] (by kernel_rfl) ?_
      intro g wx hb
      refine Rgi.from_sp (some 88) rfl rfl rfl fun v88 h88 => ?_
      refine Rgi.from_sp (some 89) rfl rfl rfl fun v89 h89 => ?_
      refine Rgi.from_sp (some 90) rfl rfl rfl fun v90 h90 => ?_
      refine Rgi.from_is (some 91) rfl rfl ?_
      refine Rgi.from_is (some 92) rfl rfl ?_
      refine Rgi.from_is (some 93) rfl rfl ?_
      refine Rgi.from_is (some 94) rfl rfl ?_
      refine Rgi.from_sp (some 95) rfl rfl rfl fun v95 h95 => ?_
      refine Rgi.from_sp (some 96) rfl rfl rfl fun v96 h96 => ?_
      refine Rgi.from_is (some 97) rfl rfl ?_
      refine Rgi.from_is (some 98) rfl rfl ?_
      refine Rgi.from_nil ?_
      simp only [List.map, Act.put, List.setIfInBounds_toArray, List.set_cons_zero, List.set_cons_succ]
      have hbz := below_next hbw hbw.size (LitsB.b hb)
      clear hb h88 h89 h90 h95 h96
      go_wp2
      go_ret
      exact ⟨rfl, hbz⟩
end Go.Proofs.YtmmmdidbnjcooaaDoor
