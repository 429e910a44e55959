/-
  The document's columns as rows.
-/
import Derived.Test.YtlbhmoiicbhgkaaDoorRnkQ1
import Derived.Test.YtlbhmoiicbhgkaaDoorRnkQ2
import Derived.Test.YtlbhmoiicbhgkaaDoorRnkQ3
import Derived.Test.YtlbhmoiicbhgkaaDoorRnkQ4
import Derived.Test.YtlbhmoiicbhgkaaDoorRnkQ5
import Derived.Test.YtlbhmoiicbhgkaaDoorRnkQ6
import Derived.Test.YtlbhmoiicbhgkaaDoorRnkQ7
import Derived.Test.YtlbhmoiicbhgkaaDoorRnkQ8
import Derived.Test.YtlbhmoiicbhgkaaDoorRkT
import Derived.Test.YtlbhmoiicbhgkaaDoorMinT
namespace Go.Proofs.YtlbhmoiicbhgkaaDoor
open Go Go.RowKit Go.Maps Go.Shelf Go.Proofs Go.Lin Go.Psi

attribute [local go_sem] Oper.semAt_some

/-- a column's numbers, the first ones. -/
def colK (f : List (List Int)) (j n : Nat) : List Int := (List.range n).map fun i => nth (f.getD i []) j
theorem colK_succ (f : List (List Int)) (j n : Nat) : colK f j (n + 1) = colK f j n ++ [nth (f.getD n []) j] := by simp [colK, List.range_succ]
theorem colK_len (f : List (List Int)) (j n : Nat) : (colK f j n).length = n := by simp [colK]
theorem turnC_at {f : List (List Int)} {j : Nat} (h : j < wideL f) : (turnL f)[j]? = some (colK f j f.length) := by
  unfold turnL
  rw [List.getElem?_map, List.getElem?_range h]
  rfl
theorem turnC_len (f : List (List Int)) : (turnL f).length = wideL f := by simp [turnL]
/-- columns are told, as rows. -/
def TurnE (f : List (List Int)) (w : World) (e : Ending) (w' : World) : Prop := ∃ v, e = .returned v ∧ OwnRows w' w.heap.size 23 24 v ((turnL f).map (·.map (.int .u64))) ∧ Below w.heap.size w w'
set_option maxRecDepth 100000 in
set_option maxHeartbeats 1600000 in
theorem turned_c (A : Option Addr) (f : List (List Int)) (c : Nat) (w : World) (hA : Grid w A f) (hl : f.length ≤ 1000) (hw : wideL f ≤ 1000) :
    Calls Tryd.prog 47 #[.slice A f.length c] w (TurnE f w) := by
  have HA := hid hA
  have HW := hid (fun (w' : World) (hb : Below w.heap.size w w') => wide04_c A f c w' (HA.out.below hb) (by omega))
  have HTA := hid (fun (j : Nat) (h : j < wideL f) => turnC_at h)
  have HTL := hid (turnC_len f)
  have HWI := hid (wideL_le f)
  generalize wideL f = W at *
  clear hA
  go_enter Tryd.func47, Tryd.ntmps47
  go_wp2
  go_loopw [3, 4] (fun o x wr => ∃ j : Nat, x = .int .i64 (j : Int) ∧ j ≤ W ∧ Hid (OwnRows wr w.heap.size 23 24 o (((turnL f).take j).map (·.map (.int .u64))) ∧ Below w.heap.size w wr)) (fun _ x _ => W - (intOf x).toNat)
  case atStart => exact ⟨0, rfl, by omega, hid ⟨OwnRows.nil _ _ _ _, Below.refl _ _⟩⟩
  case round =>
  obtain ⟨j, rfl, hj, HI⟩ := hrel
  have HW1 := hid (HW.out wr HI.out.2)
  by_cases hlt : j < W
  case neg =>
    obtain rfl : j = W := by omega
    have hlt' : ¬ (j : Int) < (j : Int) := by omega
    go_wp2_with (fail)
    refine HW1.out.mono ?_
    rintro e w9 ⟨rfl, rfl⟩
    go_wp2
    go_ret
    refine ⟨_, rfl, ?_, HI.out.2⟩
    have := HI.out.1
    rwa [List.take_of_length_le (by rw [HTL.out]; exact Nat.le_refl _)] at this
  have hlt' : (j : Int) < (W : Int) := by omega
  go_wp2_with (fail)
  refine HW1.out.mono ?_
  rintro e w9 ⟨rfl, rfl⟩
  clear HW1
  go_wp2
  generalize wr = w1 at *
  go_loopw [5, 6] (fun o x wr => ∃ i : Nat, x = .int .i64 (i : Int) ∧ i ≤ f.length ∧ Hid (Own wr w1.heap.size 24 o ((colK f j i).map (.int .u64)) ∧ Below w1.heap.size w1 wr)) (fun _ x _ => f.length - (intOf x).toNat)
  case atStart => exact ⟨0, rfl, by omega, hid ⟨Own.nil _ _ _, Below.refl _ _⟩⟩
  case round =>
  obtain ⟨i, rfl, hi, HJ⟩ := hrel
  by_cases hlti : i < f.length
  · have hlti' : (i : Int) < (f.length : Int) := by omega
    obtain ⟨l, hl'⟩ := get_of_lt hlti
    have hbw := below_next HI.out.2 HI.out.2.size HJ.out.2
    obtain ⟨b1, o1, A1, c1, rfl, hcl, hcs, hln⟩ := (HA.out.below hbw).at_ hl'
    have hcK := colK_succ f j i
    have hlK := colK_len f j i
    rw [(getD_of hl').1] at hcK
    have HCK := hid hcK
    have HP := hid HJ.out
    have hlW := HWI.out l (List.mem_of_getElem? hl')
    clear hl' hbw hcK HJ
    by_cases hjl : j < l.length
    · have hjl' : (j : Int) < (l.length : Int) := by omega
      obtain ⟨x, hx⟩ := get_of_lt hjl
      obtain ⟨b2, o2, rfl, hcx⟩ := hcs.at_map hx
      have hnx : nth l j = x := by unfold nth; rw [List.getD_eq_getElem?_getD, hx]; rfl
      rw [hnx] at HCK
      clear hx hnx hcs
      go_wp2_with (first | (at_builtin; refine wpList_pushN elt_u64 wr (by rfl) _ _ rfl w1.heap.size HP.out.1 rfl (.int .u64 x) rfl rfl (by rw [List.length_map, hlK]; omega) (by rw [List.length_map, hlK]; omega) HP.out.2.size ?_; intro v4 w4 ho4 hk4 hb4 hn4) | fail)
      have HN := hid (show Own w4 w1.heap.size 24 v4 ((colK f j (i + 1)).map (.int .u64)) ∧ Below w1.heap.size w1 w4 from ⟨by rw [HCK.out, List.map_append]; exact ho4, HP.out.2.trans hb4⟩)
      clear ho4 hk4 hb4 hn4 HP
      go_wp2
      go_roundw
      case rel => exact ⟨i + 1, by go_num, by omega, HN⟩
      case measure => simp [intOf]; omega
    · have hjl' : ¬ (j : Int) < (l.length : Int) := by omega
      have hnx : nth l j = 0 := nth_ge (by omega)
      rw [hnx] at HCK
      clear hnx hcs
      go_wp2_with (first | (at_builtin; refine wpList_pushN elt_u64 wr (by rfl) _ _ rfl w1.heap.size HP.out.1 rfl (.int .u64 0) rfl rfl (by rw [List.length_map, hlK]; omega) (by rw [List.length_map, hlK]; omega) HP.out.2.size ?_; intro v4 w4 ho4 hk4 hb4 hn4) | fail)
      have HN := hid (show Own w4 w1.heap.size 24 v4 ((colK f j (i + 1)).map (.int .u64)) ∧ Below w1.heap.size w1 w4 from ⟨by rw [HCK.out, List.map_append]; exact ho4, HP.out.2.trans hb4⟩)
      clear ho4 hk4 hb4 hn4 HP
      go_wp2
      go_roundw
      case rel => exact ⟨i + 1, by go_num, by omega, HN⟩
      case measure => simp [intOf]; omega
  obtain rfl : i = f.length := by omega
  have hlti' : ¬ (f.length : Int) < (f.length : Int) := by omega
  have hcol := HJ.out.1
  obtain ⟨A3, c3, e3, _⟩ := hcol.form
  rw [List.length_map, colK_len] at e3
  subst e3
  have hcr := hcol.rowT
  obtain ⟨vs, p1, p2, p3⟩ := HI.out.1
  have hvk : vs.length = j := by rw [p2]; simp only [List.length_map, List.length_take, HTL.out]; omega
  have HP := hid (⟨p1.below HJ.out.2, p2, fun j u xs h1 h2 => (p3 j u xs h1 h2).below HJ.out.2, below_next HI.out.2 HI.out.2.size HJ.out.2⟩ : Own wr w.heap.size 23 u3 vs ∧ _ ∧ (∀ (j : Nat) u xs, vs[j]? = some u → _ → RowT wr 24 u xs) ∧ Below w.heap.size w wr)
  clear p1 p2 p3 hcol HJ
  go_wp2_with (first | (at_builtin; refine wpList_pushN elt_rows wr (by rfl) _ _ rfl w.heap.size HP.out.1 rfl (.slice A3 f.length c3) rfl rfl (by omega) (by omega) HP.out.2.2.2.size ?_; intro v4 w4 ho4 hk4 hb4 hn4) | fail)
  have hN := OwnRows.push (by decide) HP.out.2.1 HP.out.2.2.1 HP.out.1 hcr ho4 hk4
  have HN := hid (show OwnRows w4 w.heap.size 23 24 v4 (((turnL f).take (j + 1)).map (·.map (.int .u64))) ∧ Below w.heap.size w w4 from
    ⟨by rw [List.take_add_one, HTA.out j hlt, List.map_append]; exact hN, HP.out.2.2.2.trans hb4⟩)
  clear hN ho4 hk4 hb4 hn4 HP hcr
  go_wp2
  go_roundw
  case rel => exact ⟨j + 1, by go_num, by omega, HN⟩
  case measure => simp [intOf]; omega
end Go.Proofs.YtlbhmoiicbhgkaaDoor
