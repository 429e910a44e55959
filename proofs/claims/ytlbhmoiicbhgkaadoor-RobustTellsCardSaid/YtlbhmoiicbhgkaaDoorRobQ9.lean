/-
  Parts of these texts that the statement needs: RobC, RobD, RaF, RobE, RobF, RobP, RobG, RobH, RobI.
-/
import Derived.Test.YtlbhmoiicbhgkaaDoorRobQ8
import Derived.Test.YtlbhmoiicbhgkaaDoorRobQ4

section
namespace Go.Proofs.YtlbhmoiicbhgkaaDoor
open Go.RowKit Go.Shelf
attribute [local go_sem] Oper.semAt_some
def offB (l m c : List Int) (q : Int) (i : Nat) : Bool := decide (mEval c (l.getD i 0) q ≠ m.getD i 0 % q)
def offK (l m c : List Int) (q : Int) (k : Nat) : List Nat := (List.range k).filter (offB l m c q)
/-- the points off. -/
def offL (l m c : List Int) (q : Int) : List Nat := offK l m c q l.length
theorem offK_succ (l m c : List Int) (q : Int) (k : Nat) : offK l m c q (k + 1) = offK l m c q k ++ if offB l m c q k then [k] else [] := by
  unfold offK
  rw [List.range_succ, List.filter_append]
  simp only [List.filter_cons, List.filter_nil]
theorem offK_len (l m c : List Int) (q : Int) (k : Nat) : (offK l m c q k).length ≤ k := by
  have := List.length_filter_le (offB l m c q) (List.range k)
  rw [List.length_range] at this
  exact this
abbrev natv (s : List Nat) : List Value := s.map fun (i : Nat) => Value.int .i64 (i : Int)
set_option maxRecDepth 100000 in
set_option maxHeartbeats 4000000 in
theorem roff_c (A B C : Option Addr) (l m cs : List Int) (c d e : Nat) (q : Int) (w : World) (hA : Cells w A (l.map (.int .u64))) (hB : Cells w B (m.map (.int .u64))) (hC : Cells w C (cs.map (.int .u64)))
    (_ : l.length ≤ 1000) (hlm : l.length = m.length) (hcl : cs.length ≤ 1000) (hu : U64s l) (hu' : U64s m) (hcu : U64s cs) (hq : U64 q) (hk : okm q = true) :
    Calls Tryd.prog 63 #[pts A B l.length m.length c d q, .slice C cs.length e] w fun x w' => ∃ v, x = .returned v ∧ Own w' w.heap.size 3 v (natv (offL l m cs q)) ∧ Below w.heap.size w w' := by
  have hb0 := below_alloc w (.cells (ptsL A B l.length m.length c d q).toArray 87)
  have hP := row1_new w (ptsL A B l.length m.length c d q) 87
  have hq0 := okm_pos hk
  have HA := hid hA
  have HB := hid hB
  have HC := hid hC
  have HLM := hid hlm
  clear hA hB hC hlm
  go_enter Tryd.func63, Tryd.ntmps63
  have cp := hP.cell (k := 0) rfl
  go_wp2
  simp only [List.toArray] at hb0 hP cp
  generalize w.alloc (.cells #[.slice A l.length c, .slice B m.length d, .int .u64 q] 87) = w1 at *
  have HP := hid hP
  have HB0 := hid hb0
  clear hP hb0 cp
  go_loopw [5, 11] (fun x i wr => ∃ k : Nat, i = .int .i64 (k : Int) ∧ k ≤ l.length ∧ Hid (Own wr w1.heap.size 3 x (natv (offK l m cs q k)) ∧ Below w1.heap.size w1 wr)) (fun _ i _ => l.length - (intOf i).toNat)
  case atStart => exact ⟨0, rfl, by omega, hid ⟨Own.nil _ _ _, Below.refl _ _⟩⟩
  case round =>
    obtain ⟨k, rfl, hk2, HI⟩ := hrel
    by_cases hlt : k < l.length
    · have hbw := below_next HB0.out HB0.out.size HI.out.2
      obtain ⟨z, hz⟩ := get_of_lt hlt
      obtain ⟨z', hz'⟩ := get_of_lt (l := m) (show k < m.length by have := HLM.out; omega)
      obtain ⟨b2, off2, rfl, cA⟩ := (HA.out.below hbw).at_map hz
      obtain ⟨b3, off3, rfl, cB⟩ := (HB.out.below hbw).at_map hz'
      have hCc := HC.out.below hbw
      have hP := HP.out.below HI.out.2
      have hX := HI.out.1
      have hbl := HI.out.2
      have huz := hu.at_ hz
      have huz' := hu'.at_ hz'
      have hk2' : (k : Int) < (m.length : Int) := by have := HLM.out; omega
      have hob : offB l m cs q k = decide (mEval cs z q ≠ z' % q) := by
        unfold offB
        rw [List.getD_eq_getElem?_getD, List.getD_eq_getElem?_getD, hz, hz']; rfl
      have HOB := hid hob
      have cp1 := hP.cell (k := 1) rfl
      have cp2 := hP.cell (k := 2) rfl
      have hw1r : w1.heap.size ≤ wr.heap.size := hbl.size
      have hfl := offK_len l m cs q k
      have hlX : (natv (offK l m cs q k)).length ≤ 1000 := by rw [List.length_map]; omega
      clear HI hz hz' hob
      obtain ⟨E, hE⟩ : ∃ E, mEval cs z q = E := ⟨_, rfl⟩
      have HE := hid hE
      clear hE
      by_cases hcmp : E = z' % q
      · have hne : (E != z' % q) = false := by simpa using hcmp
        have HCMP := hid hcmp
        clear hcmp
        go_upto_region 5 with (fail)
        refine Rgb.wp_region (l := [_, _, _, _, _, _, _, _, _, _, _, _, _]) (tail := [_]) (Rgb.grows _ 14) [some 16, some 17, some 18, some 19, some 20, some 21, some 22, some 23, some 24, some 25, some 26, some 27, some 28, some 29] 36 (by kernel_rfl) (by kernel_rfl) (by kernel_rfl) rfl (Rgb.grows_fair _ _) (Rgb.keep_drew _) (trivial) ?_
        refine' Rgb.op_is _ [] rfl rfl (by kernel_rfl) ?_ ?_
        rotate_left
        · intro wx hb
          refine Rgb.from_nil fun T hT => ?_
          go_wp2
          refine hT _ _ rfl (by first | exact Rgb.Keep.refl _ | exact below_of_dr hw2 | exact hw2 | exact (Below.refl _ _).alloc (Nat.le_refl _) _) ?_
          simp only [Rgb.last, List.getElem?_toArray, List.getElem?_cons_succ, List.getElem?_cons_zero, Option.getD_some]
          rfl
        refine' Rgb.op_is _ [] rfl rfl (by kernel_rfl) ?_ ?_
        rotate_left
        · intro wx hb
          refine Rgb.from_nil fun T hT => ?_
          go_wp2
          refine hT _ _ rfl (by first | exact Rgb.Keep.refl _ | exact below_of_dr hw2 | exact hw2 | exact (Below.refl _ _).alloc (Nat.le_refl _) _) ?_
          simp only [Rgb.last, List.getElem?_toArray, List.getElem?_cons_succ, List.getElem?_cons_zero, Option.getD_some]
          rfl
        refine' Rgb.op_is _ [] rfl rfl (by kernel_rfl) ?_ ?_
        rotate_left
        · intro wx hb
          refine Rgb.from_nil fun T hT => ?_
          go_wp2
          refine hT _ _ rfl (by first | exact Rgb.Keep.refl _ | exact below_of_dr hw2 | exact hw2 | exact (Below.refl _ _).alloc (Nat.le_refl _) _) ?_
          simp only [Rgb.last, List.getElem?_toArray, List.getElem?_cons_succ, List.getElem?_cons_zero, Option.getD_some]
          rfl
        refine Rgb.op_is (.int .u64 q) [2] rfl rfl (by kernel_rfl) ?_ ?_
        · intro wx hb
          refine Rgb.from_is (some 18) rfl rfl ?_
          refine Rgb.from_nil fun T hT => ?_
          have g1 := (hb.cell (lt_of_cell cp2)).trans cp2
          go_wp2
          exact hT _ _ rfl (by first | exact Rgb.Keep.refl _ | exact below_of_dr hw2 | exact hw2 | exact (Below.refl _ _).alloc (Nat.le_refl _) _) (by first | rfl | exact congrArg _ (by decide))
        refine Rgb.op_is (.int .u64 E) [0, 1, 3] rfl rfl (by kernel_rfl) ?_ ?_
        · intro wx hb
          refine Rgb.from_is (some 16) rfl rfl ?_
          refine Rgb.from_is (some 17) rfl rfl ?_
          refine Rgb.from_is (some 19) rfl rfl ?_
          refine Rgb.from_nil fun T hT => ?_
          have hcs2 := hCc.keep fun p hp => hb.cell hp
          go_wp2_with (fail)
          refine (eval_c _ _ _ _ _ _ hcs2 (by omega) hcu huz hq).mono ?_
          rintro e w5 ⟨rfl, hw5⟩
          rw [HE.out]
          go_wp2
          exact hT _ _ rfl (below_of_dr hw5) rfl
        refine' Rgb.op_is _ [] rfl rfl (by kernel_rfl) ?_ ?_
        rotate_left
        · intro wx hb
          refine Rgb.from_nil fun T hT => ?_
          go_wp2
          refine hT _ _ rfl (by first | exact Rgb.Keep.refl _ | exact below_of_dr hw2 | exact hw2 | exact (Below.refl _ _).alloc (Nat.le_refl _) _) ?_
          simp only [Rgb.last, List.getElem?_toArray, List.getElem?_cons_succ, List.getElem?_cons_zero, Option.getD_some]
          rfl
        refine Rgb.op_is (.slice (some ⟨b3, off3, none⟩) m.length d) [5] rfl rfl (by kernel_rfl) ?_ ?_
        · intro wx hb
          refine Rgb.from_is (some 21) rfl rfl ?_
          refine Rgb.from_nil fun T hT => ?_
          have g1 := (hb.cell (lt_of_cell cp1)).trans cp1
          go_wp2
          exact hT _ _ rfl (by first | exact Rgb.Keep.refl _ | exact below_of_dr hw2 | exact hw2 | exact (Below.refl _ _).alloc (Nat.le_refl _) _) (by first | rfl | exact congrArg _ (by decide))
        refine' Rgb.op_is _ [] rfl rfl (by kernel_rfl) ?_ ?_
        rotate_left
        · intro wx hb
          refine Rgb.from_nil fun T hT => ?_
          go_wp2
          refine hT _ _ rfl (by first | exact Rgb.Keep.refl _ | exact below_of_dr hw2 | exact hw2 | exact (Below.refl _ _).alloc (Nat.le_refl _) _) ?_
          simp only [Rgb.last, List.getElem?_toArray, List.getElem?_cons_succ, List.getElem?_cons_zero, Option.getD_some]
          rfl
        refine Rgb.op_is (.pointer (some ⟨b3, off3 + k, none⟩)) [6, 7] rfl rfl (by kernel_rfl) ?_ ?_
        · intro wx hb
          refine Rgb.from_is (some 22) rfl rfl ?_
          refine Rgb.from_is (some 23) rfl rfl ?_
          refine Rgb.from_nil fun T hT => ?_
          go_wp2
          exact hT _ _ rfl (by first | exact Rgb.Keep.refl _ | exact below_of_dr hw2 | exact hw2 | exact (Below.refl _ _).alloc (Nat.le_refl _) _) (by first | rfl | exact congrArg _ (by decide))
        refine Rgb.op_is (.int .u64 z') [8] rfl rfl (by kernel_rfl) ?_ ?_
        · intro wx hb
          refine Rgb.from_is (some 24) rfl rfl ?_
          refine Rgb.from_nil fun T hT => ?_
          have g1 := (hb.cell (lt_of_cell cB)).trans cB
          go_wp2
          exact hT _ _ rfl (by first | exact Rgb.Keep.refl _ | exact below_of_dr hw2 | exact hw2 | exact (Below.refl _ _).alloc (Nat.le_refl _) _) (by first | rfl | exact congrArg _ (by decide))
        refine' Rgb.op_is _ [] rfl rfl (by kernel_rfl) ?_ ?_
        rotate_left
        · intro wx hb
          refine Rgb.from_nil fun T hT => ?_
          go_wp2
          refine hT _ _ rfl (by first | exact Rgb.Keep.refl _ | exact below_of_dr hw2 | exact hw2 | exact (Below.refl _ _).alloc (Nat.le_refl _) _) ?_
          simp only [Rgb.last, List.getElem?_toArray, List.getElem?_cons_succ, List.getElem?_cons_zero, Option.getD_some]
          rfl
        refine Rgb.op_is (.int .u64 q) [10] rfl rfl (by kernel_rfl) ?_ ?_
        · intro wx hb
          refine Rgb.from_is (some 26) rfl rfl ?_
          refine Rgb.from_nil fun T hT => ?_
          have g1 := (hb.cell (lt_of_cell cp2)).trans cp2
          go_wp2
          exact hT _ _ rfl (by first | exact Rgb.Keep.refl _ | exact below_of_dr hw2 | exact hw2 | exact (Below.refl _ _).alloc (Nat.le_refl _) _) (by first | rfl | exact congrArg _ (by decide))
        refine Rgb.op_is (.int .u64 (z' % q)) [9, 11] rfl rfl (by kernel_rfl) ?_ ?_
        · intro wx hb
          refine Rgb.from_is (some 25) rfl rfl ?_
          refine Rgb.from_is (some 27) rfl rfl ?_
          refine Rgb.from_nil fun T hT => ?_
          have h0 := huz'.lo
          have h1 : (q == 0) = false := by simp; omega
          have h2 := Int.tmod_eq_emod_of_nonneg (b := q) h0
          go_wp2
          exact hT _ _ rfl (by first | exact Rgb.Keep.refl _ | exact below_of_dr hw2 | exact hw2 | exact (Below.refl _ _).alloc (Nat.le_refl _) _) (by first | rfl | exact congrArg _ (by decide))
        refine Rgb.walk_nil [0, 1, 2, 3, 4, 5, 6, 7, 8, 9, 10, 11, 12] (by kernel_rfl) ?_
        intro wx hb
        refine Rgb.from_is (some 16) rfl rfl ?_
        refine Rgb.from_is (some 17) rfl rfl ?_
        refine Rgb.from_is (some 18) rfl rfl ?_
        refine Rgb.from_is (some 19) rfl rfl ?_
        refine Rgb.from_is (some 20) rfl rfl ?_
        refine Rgb.from_is (some 21) rfl rfl ?_
        refine Rgb.from_is (some 22) rfl rfl ?_
        refine Rgb.from_is (some 23) rfl rfl ?_
        refine Rgb.from_is (some 24) rfl rfl ?_
        refine Rgb.from_is (some 25) rfl rfl ?_
        refine Rgb.from_is (some 26) rfl rfl ?_
        refine Rgb.from_is (some 27) rfl rfl ?_
        refine Rgb.from_is (some 28) rfl rfl ?_
        refine Rgb.from_nil ?_
        simp only [List.map, Act.put, List.setIfInBounds_toArray, List.set_cons_zero, List.set_cons_succ]
        have HN := hid (show Own wx w1.heap.size 3 u5 (natv (offK l m cs q (k + 1))) ∧ Below w1.heap.size w1 wx by
          have h0 : offB l m cs q k = false := by rw [HOB.out, HE.out]; simpa using HCMP.out
          rw [offK_succ, h0]
          simp only [Bool.false_eq_true, if_false, List.append_nil]
          exact ⟨hX.below hb, below_next hbl hbl.size hb⟩)
        clear hX hbl hb hP hCc
        go_wp2
        go_roundw
        case rel => exact ⟨k + 1, by go_num, by omega, HN⟩
        case measure => simp [intOf]; omega
      · have hne : (E != z' % q) = true := by simpa using hcmp
        go_upto_region 5 with (fail)
        refine Rgb.wp_region (l := [_, _, _, _, _, _, _, _, _, _, _, _, _]) (tail := [_]) (Rgb.grows _ 14) [some 16, some 17, some 18, some 19, some 20, some 21, some 22, some 23, some 24, some 25, some 26, some 27, some 28, some 29] 36 (by kernel_rfl) (by kernel_rfl) (by kernel_rfl) rfl (Rgb.grows_fair _ _) (Rgb.keep_drew _) (trivial) ?_
        refine' Rgb.op_is _ [] rfl rfl (by kernel_rfl) ?_ ?_
        rotate_left
        · intro wx hb
          refine Rgb.from_nil fun T hT => ?_
          go_wp2
          refine hT _ _ rfl (by first | exact Rgb.Keep.refl _ | exact below_of_dr hw2 | exact hw2 | exact (Below.refl _ _).alloc (Nat.le_refl _) _) ?_
          simp only [Rgb.last, List.getElem?_toArray, List.getElem?_cons_succ, List.getElem?_cons_zero, Option.getD_some]
          rfl
        refine' Rgb.op_is _ [] rfl rfl (by kernel_rfl) ?_ ?_
        rotate_left
        · intro wx hb
          refine Rgb.from_nil fun T hT => ?_
          go_wp2
          refine hT _ _ rfl (by first | exact Rgb.Keep.refl _ | exact below_of_dr hw2 | exact hw2 | exact (Below.refl _ _).alloc (Nat.le_refl _) _) ?_
          simp only [Rgb.last, List.getElem?_toArray, List.getElem?_cons_succ, List.getElem?_cons_zero, Option.getD_some]
          rfl
        refine' Rgb.op_is _ [] rfl rfl (by kernel_rfl) ?_ ?_
        rotate_left
        · intro wx hb
          refine Rgb.from_nil fun T hT => ?_
          go_wp2
          refine hT _ _ rfl (by first | exact Rgb.Keep.refl _ | exact below_of_dr hw2 | exact hw2 | exact (Below.refl _ _).alloc (Nat.le_refl _) _) ?_
          simp only [Rgb.last, List.getElem?_toArray, List.getElem?_cons_succ, List.getElem?_cons_zero, Option.getD_some]
          rfl
        refine Rgb.op_is (.int .u64 q) [2] rfl rfl (by kernel_rfl) ?_ ?_
        · intro wx hb
          refine Rgb.from_is (some 18) rfl rfl ?_
          refine Rgb.from_nil fun T hT => ?_
          have g1 := (hb.cell (lt_of_cell cp2)).trans cp2
          go_wp2
          exact hT _ _ rfl (by first | exact Rgb.Keep.refl _ | exact below_of_dr hw2 | exact hw2 | exact (Below.refl _ _).alloc (Nat.le_refl _) _) (by first | rfl | exact congrArg _ (by decide))
        refine Rgb.op_is (.int .u64 E) [0, 1, 3] rfl rfl (by kernel_rfl) ?_ ?_
        · intro wx hb
          refine Rgb.from_is (some 16) rfl rfl ?_
          refine Rgb.from_is (some 17) rfl rfl ?_
          refine Rgb.from_is (some 19) rfl rfl ?_
          refine Rgb.from_nil fun T hT => ?_
          have hcs2 := hCc.keep fun p hp => hb.cell hp
          go_wp2_with (fail)
          refine (eval_c _ _ _ _ _ _ hcs2 (by omega) hcu huz hq).mono ?_
          rintro e w5 ⟨rfl, hw5⟩
          rw [HE.out]
          go_wp2
          exact hT _ _ rfl (below_of_dr hw5) rfl
        refine' Rgb.op_is _ [] rfl rfl (by kernel_rfl) ?_ ?_
        rotate_left
        · intro wx hb
          refine Rgb.from_nil fun T hT => ?_
          go_wp2
          refine hT _ _ rfl (by first | exact Rgb.Keep.refl _ | exact below_of_dr hw2 | exact hw2 | exact (Below.refl _ _).alloc (Nat.le_refl _) _) ?_
          simp only [Rgb.last, List.getElem?_toArray, List.getElem?_cons_succ, List.getElem?_cons_zero, Option.getD_some]
          rfl
        refine Rgb.op_is (.slice (some ⟨b3, off3, none⟩) m.length d) [5] rfl rfl (by kernel_rfl) ?_ ?_
        · intro wx hb
          refine Rgb.from_is (some 21) rfl rfl ?_
          refine Rgb.from_nil fun T hT => ?_
          have g1 := (hb.cell (lt_of_cell cp1)).trans cp1
          go_wp2
          exact hT _ _ rfl (by first | exact Rgb.Keep.refl _ | exact below_of_dr hw2 | exact hw2 | exact (Below.refl _ _).alloc (Nat.le_refl _) _) (by first | rfl | exact congrArg _ (by decide))
        refine' Rgb.op_is _ [] rfl rfl (by kernel_rfl) ?_ ?_
        rotate_left
        · intro wx hb
          refine Rgb.from_nil fun T hT => ?_
          go_wp2
          refine hT _ _ rfl (by first | exact Rgb.Keep.refl _ | exact below_of_dr hw2 | exact hw2 | exact (Below.refl _ _).alloc (Nat.le_refl _) _) ?_
          simp only [Rgb.last, List.getElem?_toArray, List.getElem?_cons_succ, List.getElem?_cons_zero, Option.getD_some]
          rfl
        refine Rgb.op_is (.pointer (some ⟨b3, off3 + k, none⟩)) [6, 7] rfl rfl (by kernel_rfl) ?_ ?_
        · intro wx hb
          refine Rgb.from_is (some 22) rfl rfl ?_
          refine Rgb.from_is (some 23) rfl rfl ?_
          refine Rgb.from_nil fun T hT => ?_
          go_wp2
          exact hT _ _ rfl (by first | exact Rgb.Keep.refl _ | exact below_of_dr hw2 | exact hw2 | exact (Below.refl _ _).alloc (Nat.le_refl _) _) (by first | rfl | exact congrArg _ (by decide))
        refine Rgb.op_is (.int .u64 z') [8] rfl rfl (by kernel_rfl) ?_ ?_
        · intro wx hb
          refine Rgb.from_is (some 24) rfl rfl ?_
          refine Rgb.from_nil fun T hT => ?_
          have g1 := (hb.cell (lt_of_cell cB)).trans cB
          go_wp2
          exact hT _ _ rfl (by first | exact Rgb.Keep.refl _ | exact below_of_dr hw2 | exact hw2 | exact (Below.refl _ _).alloc (Nat.le_refl _) _) (by first | rfl | exact congrArg _ (by decide))
        refine' Rgb.op_is _ [] rfl rfl (by kernel_rfl) ?_ ?_
        rotate_left
        · intro wx hb
          refine Rgb.from_nil fun T hT => ?_
          go_wp2
          refine hT _ _ rfl (by first | exact Rgb.Keep.refl _ | exact below_of_dr hw2 | exact hw2 | exact (Below.refl _ _).alloc (Nat.le_refl _) _) ?_
          simp only [Rgb.last, List.getElem?_toArray, List.getElem?_cons_succ, List.getElem?_cons_zero, Option.getD_some]
          rfl
        refine Rgb.op_is (.int .u64 q) [10] rfl rfl (by kernel_rfl) ?_ ?_
        · intro wx hb
          refine Rgb.from_is (some 26) rfl rfl ?_
          refine Rgb.from_nil fun T hT => ?_
          have g1 := (hb.cell (lt_of_cell cp2)).trans cp2
          go_wp2
          exact hT _ _ rfl (by first | exact Rgb.Keep.refl _ | exact below_of_dr hw2 | exact hw2 | exact (Below.refl _ _).alloc (Nat.le_refl _) _) (by first | rfl | exact congrArg _ (by decide))
        refine Rgb.op_is (.int .u64 (z' % q)) [9, 11] rfl rfl (by kernel_rfl) ?_ ?_
        · intro wx hb
          refine Rgb.from_is (some 25) rfl rfl ?_
          refine Rgb.from_is (some 27) rfl rfl ?_
          refine Rgb.from_nil fun T hT => ?_
          have h0 := huz'.lo
          have h1 : (q == 0) = false := by simp; omega
          have h2 := Int.tmod_eq_emod_of_nonneg (b := q) h0
          go_wp2
          exact hT _ _ rfl (by first | exact Rgb.Keep.refl _ | exact below_of_dr hw2 | exact hw2 | exact (Below.refl _ _).alloc (Nat.le_refl _) _) (by first | rfl | exact congrArg _ (by decide))
        refine Rgb.walk_nil [0, 1, 2, 3, 4, 5, 6, 7, 8, 9, 10, 11, 12] (by kernel_rfl) ?_
        intro wx hb
        refine Rgb.from_is (some 16) rfl rfl ?_
        refine Rgb.from_is (some 17) rfl rfl ?_
        refine Rgb.from_is (some 18) rfl rfl ?_
        refine Rgb.from_is (some 19) rfl rfl ?_
        refine Rgb.from_is (some 20) rfl rfl ?_
        refine Rgb.from_is (some 21) rfl rfl ?_
        refine Rgb.from_is (some 22) rfl rfl ?_
        refine Rgb.from_is (some 23) rfl rfl ?_
        refine Rgb.from_is (some 24) rfl rfl ?_
        refine Rgb.from_is (some 25) rfl rfl ?_
        refine Rgb.from_is (some 26) rfl rfl ?_
        refine Rgb.from_is (some 27) rfl rfl ?_
        refine Rgb.from_is (some 28) rfl rfl ?_
        refine Rgb.from_nil ?_
        simp only [List.map, Act.put, List.setIfInBounds_toArray, List.set_cons_zero, List.set_cons_succ]
        have hX5 := hX.below hb
        have hbl5 := below_next hbl hbl.size hb
        have hB := Bun.nil wx
        obtain ⟨A5, c5, e5, _⟩ := hX5.form
        subst e5
        clear hX hbl hP hCc
        have hsz := hbl5.size
        go_wp2_with (first | (refine wpList_named hB rfl ?_; clear hB; intro wn gn hB hbn hg; (try rw [hg]); clear hg; replace hX5 := hX5.below hbn; clear hbn) | (at_builtin; refine wpList_push_at elt_int _ rfl _ _ rfl w1.heap.size hX5 rfl (.int .i64 (k : Int)) _ rfl (hB.row (i := 0) rfl) rfl (by rw [List.length_map]; omega) (by rw [List.length_map]; omega) (Nat.le_trans hsz hB.b.size) ?_; intro v7 w7 ho7 hg7 _))
        have HN := hid (show Own w7 w1.heap.size 3 v7 (natv (offK l m cs q (k + 1))) ∧ Below w1.heap.size w1 w7 by
          have h0 : offB l m cs q k = true := by rw [HOB.out, HE.out]; simpa using hcmp
          rw [offK_succ, h0]
          simp only [if_true]
          rw [natv, List.map_append]
          exact ⟨ho7, (below_next hbl5 hsz hB.b).grown hg7 (Nat.le_trans hsz hB.b.size) fun g e => (hX5.block g e).1⟩)
        clear hX5 ho7 hg7 hB hbl5 hb
        go_roundw
        case rel => exact ⟨k + 1, by go_num, by omega, HN⟩
        case measure => simp [intOf]; omega
    · obtain rfl : k = l.length := by omega
      go_wp2
      go_ret
      exact ⟨_, rfl, HI.out.1.from_ (HB0.out.size), below_next HB0.out HB0.out.size HI.out.2⟩
end Go.Proofs.YtlbhmoiicbhgkaaDoor
end

section
namespace Go.Proofs.YtlbhmoiicbhgkaaDoor
open Go.RowKit Go.Shelf
attribute [local go_sem] Oper.semAt_some
theorem tVal_len {xs ys : List Int} {q : Int} (h : tErr xs ys q = 0) : (tVal xs ys q).length = xs.length := by
  have he : eAll xs q = 0 := by
    unfold tErr at h
    split at h
    · exact h
    · omega
  have hk : okm q = true := by
    by_cases h0 : eUnlike xs q = 0
    · exact unlike_okm h0
    · rw [eAll_bad h0] at he; exact absurd he h0
  rw [tVal_ok h, pOut_len hk]
theorem tVal_u64 (xs ys : List Int) (q : Int) : U64s (tVal xs ys q) := by
  unfold tVal
  split
  · exact pOut_u64 _ _ _ _
  · intro z hz; cases hz
/-- what a set of points tells, if it tells something. -/
noncomputable def tryS (xs ys : List Int) (t q : Int) (s : List Nat) : Option (List Int × List Nat × Int) :=
  if tErr (pick xs s) (pick ys s) q = 0 then
    if (xs.length : Int) - (offL xs ys (tVal (pick xs s) (pick ys s) q) q).length > 2 * t then some (tVal (pick xs s) (pick ys s) q, offL xs ys (tVal (pick xs s) (pick ys s) q) q, 0) else none
  else some ([], [], tErr (pick xs s) (pick ys s) q)
noncomputable def decR (xs ys : List Int) (t q : Int) : List Int × List Nat × Int :=
  if t < 0 ∨ t > 2 ∨ xs.length ≠ ys.length ∨ primeV q = false then ([], [], 1)
  else if xs.length > 7 then ([], [], 40)
  else if eAll xs q ≠ 0 then ([], [], eAll xs q)
  else ((setsL (t.toNat + 1) 0 xs.length).findSome? (tryS xs ys t q)).getD ([], [], 5)
def DecR (r : List Int × List Nat × Int) (w : World) (x : Ending) (w' : World) : Prop :=
  ∃ v1 v2, x = .returned (.tuple #[v1, v2, .int .i64 r.2.2]) ∧ Own w' w.heap.size 24 v1 (r.1.map (.int .u64)) ∧ Own w' w.heap.size 3 v2 (natv r.2.1) ∧ Below w.heap.size w w'
theorem DecR.none (e : Int) (w w' : World) (hb : Below w.heap.size w w') : DecR ([], [], e) w (.returned (.tuple #[.slice none 0 0, .slice none 0 0, .int .i64 e])) w' :=
  ⟨_, _, rfl, Own.nil _ _ _, Own.nil _ _ _, hb⟩
/-- what lies in memory while sets are tried. -/
structure DS (gx gt g8 g9 g10 gp : Nat) (A B : Option Addr) (n m c d : Nat) (t q : Int) (N : Nat) (w0 w : World) : Prop where
  X : Row1 w gx 23 [.slice A n c]
  T : Row1 w gt 3 [.int .i64 t]
  R8 : Row1 w g8 23 [.slice none 0 0]
  R9 : Row1 w g9 47 [.slice none 0 0]
  R10 : Row1 w g10 29 [.int .i64 0]
  P : Row1 w gp 87 (ptsL A B n m c d q)
  b : Below N w0 w
theorem DS.below {gx gt g8 g9 g10 gp : Nat} {A B : Option Addr} {n m c d : Nat} {t q : Int} {N : Nat} {w0 w5 w w' : World} (h : DS gx gt g8 g9 g10 gp A B n m c d t q N w0 w) (h5 : DS gx gt g8 g9 g10 gp A B n m c d t q N w0 w5) (hN : N ≤ w5.heap.size) (hb : Below w5.heap.size w w') : DS gx gt g8 g9 g10 gp A B n m c d t q N w0 w' :=
  ⟨h.X.keep (hb.block _ h5.X.lt), h.T.keep (hb.block _ h5.T.lt), h.R8.keep (hb.block _ h5.R8.lt), h.R9.keep (hb.block _ h5.R9.lt), h.R10.keep (hb.block _ h5.R10.lt), h.P.keep (hb.block _ h5.P.lt), h.b.trans (hb.mono hN)⟩
theorem Own.cu {A B : World} {base : Nat} {e : TypeId} {v : Value} {xs : List Value} (h : Own A base e v xs) (hc : CellsUp 0 A B) : Own B base e v xs := h.keep fun g hg => by
  rcases h.2 with ⟨rfl, h0⟩ | ⟨g', cap, cur, rfl, hb, hg', hn, hm, hs, ht⟩
  · cases hg
  · simp only [Value.ownBlock, Option.some.injEq] at hg
    subst hg
    exact hc _ _ _ _ (Nat.zero_le _) hg'
/-- what is told. -/
structure DX (g8 g9 g10 : Nat) (r : List Int × List Nat × Int) (N : Nat) (w0 w : World) : Prop where
  ex : ∃ v1 v2, Row1 w g8 23 [v1] ∧ Row1 w g9 47 [v2] ∧ Own w N 24 v1 (r.1.map (.int .u64)) ∧ Own w N 3 v2 (natv r.2.1)
  R10 : Row1 w g10 29 [.int .i64 r.2.2]
  b : Below N w0 w
theorem DX.cu {g8 g9 g10 : Nat} {r : List Int × List Nat × Int} {N : Nat} {w0 A B : World} (h : DX g8 g9 g10 r N w0 A) (hc : CellsUp 0 A B) (hb : Below N w0 B) : DX g8 g9 g10 r N w0 B := by
  obtain ⟨v1, v2, h1, h2, h3, h4⟩ := h.ex
  exact ⟨⟨v1, v2, h1.up hc (Nat.zero_le _), h2.up hc (Nat.zero_le _), h3.cu hc, h4.cu hc⟩, h.R10.up hc (Nat.zero_le _), hb⟩
theorem Up.setCell {N : Nat} {A B : World} {p : Addr} (h : Up N A B) (hp : p.block < N) (u : Value) : Up N A (B.setCell p u) := ⟨by simpa using h.1, fun b h1 h2 => (Below.heap_setCell B p u b (by omega)).trans (h.2 b h1 h2)⟩
theorem Own.setCell {A : World} {base : Nat} {e : TypeId} {v : Value} {xs : List Value} {p : Addr} (h : Own A base e v xs) (hp : p.block < base) (u : Value) : Own (A.setCell p u) base e v xs := h.keep fun g hg => Below.heap_setCell A p u g (by have := (h.block g hg).1; omega)
theorem find_at {α β : Type} {f : α → Option β} {pre rest : List α} {s : α} {r : β} (h1 : ∀ x ∈ pre, f x = none) (h2 : f s = some r) : (pre ++ s :: rest).findSome? f = some r := by
  rw [List.findSome?_append, List.findSome?_eq_none_iff.2 h1, List.findSome?_cons, h2]; rfl
theorem find_no {α β : Type} {f : α → Option β} {l : List α} (h1 : ∀ x ∈ l, f x = none) : l.findSome? f = none := List.findSome?_eq_none_iff.2 h1
set_option maxRecDepth 100000 in
set_option maxHeartbeats 8000000 in
theorem dec_c (A B : Option Addr) (l m : List Int) (c d : Nat) (t q : Int) (w : World) (hA : Cells w A (l.map (.int .u64))) (hB : Cells w B (m.map (.int .u64))) (hl : l.length ≤ 1000) (_hlm : m.length ≤ 1000) (hu : U64s l) (hu' : U64s m) (ht : I64 t) (hq : U64 q) (hTab : Tabs w) :
    Calls Tryd.prog 24 #[.slice A l.length c, .slice B m.length d, .int .i64 t, .int .u64 q] w (DecR (decR l m t q) w) := by
  have HA := hid hA
  have HB := hid hB
  have HT := hid hTab
  have HD := hid (show decR l m t q = decR l m t q from rfl)
  clear hA hB hTab
  refine (callsIn_wide (n := 10)).1 ?_
  refine callsIn_of_wp_marks Tryd.func24 rfl trivial ?_ rfl
  refine (wpIn_wide (n := 10)).2 ?_
  simp only [Tryd.ntmps24, List.size_toArray, List.length_cons, List.length_nil, Nat.reduceAdd, Nat.reduceSub, Array.replicate_succ, Array.replicate_zero, List.push_toArray, List.append_toArray, List.nil_append, List.cons_append]
  go_upto_region 1 with (fail)
  have k1 := (row1_new w [.slice A l.length c] 23)
  have k2 := (row1_in (w.alloc (.cells #[.slice A l.length c] 23)) [.int .i64 t] 3 (w.heap.size + 1) (by simp))
  have k3 := (row1_in ((w.alloc (.cells #[.slice A l.length c] 23)).alloc (.cells #[.int .i64 t] 3)) [.slice none 0 0] 23 (w.heap.size + 1 + 1) (by simp))
  have k4 := (row1_in (((w.alloc (.cells #[.slice A l.length c] 23)).alloc (.cells #[.int .i64 t] 3)).alloc (.cells #[.slice none 0 0] 23)) [.slice none 0 0] 47 (w.heap.size + 1 + 1 + 1) (by simp))
  have k5 := (row1_in ((((w.alloc (.cells #[.slice A l.length c] 23)).alloc (.cells #[.int .i64 t] 3)).alloc (.cells #[.slice none 0 0] 23)).alloc (.cells #[.slice none 0 0] 47)) [.int .i64 0] 29 (w.heap.size + 1 + 1 + 1 + 1) (by simp))
  have KX := (((k1.alloc (.cells #[.int .i64 t] 3)).alloc (.cells #[.slice none 0 0] 23)).alloc (.cells #[.slice none 0 0] 47)).alloc (.cells #[.int .i64 0] 29)
  have KT := ((k2.alloc (.cells #[.slice none 0 0] 23)).alloc (.cells #[.slice none 0 0] 47)).alloc (.cells #[.int .i64 0] 29)
  have K8 := (k3.alloc (.cells #[.slice none 0 0] 47)).alloc (.cells #[.int .i64 0] 29)
  have K9 := k4.alloc (.cells #[.int .i64 0] 29)
  have K10 := k5
  have KB := ((((below_alloc w (.cells #[.slice A l.length c] 23)).alloc (by simp) (.cells #[.int .i64 t] 3)).alloc (by simp; omega) (.cells #[.slice none 0 0] 23)).alloc (by simp; omega) (.cells #[.slice none 0 0] 47)).alloc (by simp; omega) (.cells #[.int .i64 0] 29)
  clear k1 k2 k3 k4 k5
  simp only [List.toArray] at KX KT K8 K9 K10 KB
  generalize ((((w.alloc (.cells #[.slice A l.length c] 23)).alloc (.cells #[.int .i64 t] 3)).alloc (.cells #[.slice none 0 0] 23)).alloc (.cells #[.slice none 0 0] 47)).alloc (.cells #[.int .i64 0] 29) = w1 at *
  obtain ⟨g10, e10⟩ : ∃ g, w.heap.size + 1 + 1 + 1 + 1 = g := ⟨_, rfl⟩
  obtain ⟨g9, e9⟩ : ∃ g, w.heap.size + 1 + 1 + 1 = g := ⟨_, rfl⟩
  obtain ⟨g8, e8⟩ : ∃ g, w.heap.size + 1 + 1 = g := ⟨_, rfl⟩
  obtain ⟨gt, et⟩ : ∃ g, w.heap.size + 1 = g := ⟨_, rfl⟩
  obtain ⟨gx, ex⟩ : ∃ g, w.heap.size = g := ⟨_, rfl⟩
  rw [e10] at K10 ⊢
  rw [e9] at K9 ⊢
  rw [e8] at K8 ⊢
  rw [et] at KT ⊢
  rw [ex]
  have KX' : Row1 w1 gx 23 [.slice A l.length c] := by rw [← ex]; exact KX
  clear KX
  have n8 : w.heap.size ≤ g8 := by omega
  have n9 : w.heap.size ≤ g9 := by omega
  have n10 : w.heap.size ≤ g10 := by omega
  have d1 : g8 ≠ g9 := by omega
  have d2 : g8 ≠ g10 := by omega
  have d3 : g9 ≠ g10 := by omega
  have dx1 : gx < g8 := by omega
  have dx2 : gt < g8 := by omega
  have dx3 : g8 < g9 := by omega
  have dx4 : g9 < g10 := by omega
  have EX := hid ex
  clear e10 e9 e8 et ex
  have cX := KX'.cell (k := 0) rfl
  have cT := KT.cell (k := 0) rfl
  have f8 := K8.frozen 0
  have f9 := K9.frozen 0
  have f10 := K10.frozen 0
  have c8 := K8.cell (k := 0) rfl
  have c9 := K9.cell (k := 0) rfl
  have c10 := K10.cell (k := 0) rfl
  have hbad := hid (show (t < 0 ∨ t > 2 ∨ l.length ≠ m.length ∨ primeV q = false) → decR l m t q = ([], [], 1) from fun h => if_pos h)
  by_cases ht0 : t < 0
  · go_wp2
    refine ⟨.tuple #[.slice none 0 0, .slice none 0 0, .int .i64 1], ?_, ?_⟩
    · have q8 := (((K8.set 0 (.slice none 0 0)).far (p := ⟨g9, 0, none⟩) (by simp; omega) (.slice none 0 0)).far (p := ⟨g10, 0, none⟩) (by simp; omega) (.int .i64 1)).cell (k := 0) rfl
      have q9 := (((K9.far (p := ⟨g8, 0, none⟩) (by simp; omega) (.slice none 0 0)).set 0 (.slice none 0 0)).far (p := ⟨g10, 0, none⟩) (by simp; omega) (.int .i64 1)).cell (k := 0) rfl
      have q10 := (((K10.far (p := ⟨g8, 0, none⟩) (by simp; omega) (.slice none 0 0)).far (p := ⟨g9, 0, none⟩) (by simp; omega) (.slice none 0 0)).set 0 (.int .i64 1)).cell (k := 0) rfl
      simp [results, Tryd.f24, go_sem, q8, q9, q10]
    · rw [hbad.out (.inl ht0)]
      exact DecR.none _ _ _ (((KB.setCell (p := ⟨g8, 0, none⟩) n8 _).setCell (p := ⟨g9, 0, none⟩) n9 _).setCell (p := ⟨g10, 0, none⟩) n10 _)
  by_cases ht2 : t > 2
  · go_wp2
    refine ⟨.tuple #[.slice none 0 0, .slice none 0 0, .int .i64 1], ?_, ?_⟩
    · have q8 := (((K8.set 0 (.slice none 0 0)).far (p := ⟨g9, 0, none⟩) (by simp; omega) (.slice none 0 0)).far (p := ⟨g10, 0, none⟩) (by simp; omega) (.int .i64 1)).cell (k := 0) rfl
      have q9 := (((K9.far (p := ⟨g8, 0, none⟩) (by simp; omega) (.slice none 0 0)).set 0 (.slice none 0 0)).far (p := ⟨g10, 0, none⟩) (by simp; omega) (.int .i64 1)).cell (k := 0) rfl
      have q10 := (((K10.far (p := ⟨g8, 0, none⟩) (by simp; omega) (.slice none 0 0)).far (p := ⟨g9, 0, none⟩) (by simp; omega) (.slice none 0 0)).set 0 (.int .i64 1)).cell (k := 0) rfl
      simp [results, Tryd.f24, go_sem, q8, q9, q10]
    · rw [hbad.out (.inr (.inl ht2))]
      exact DecR.none _ _ _ (((KB.setCell (p := ⟨g8, 0, none⟩) n8 _).setCell (p := ⟨g9, 0, none⟩) n9 _).setCell (p := ⟨g10, 0, none⟩) n10 _)
  by_cases hlen : l.length ≠ m.length
  · have hne : ((l.length : Int) != (m.length : Int)) = true := by simp; omega
    go_wp2
    refine ⟨.tuple #[.slice none 0 0, .slice none 0 0, .int .i64 1], ?_, ?_⟩
    · have q8 := (((K8.set 0 (.slice none 0 0)).far (p := ⟨g9, 0, none⟩) (by simp; omega) (.slice none 0 0)).far (p := ⟨g10, 0, none⟩) (by simp; omega) (.int .i64 1)).cell (k := 0) rfl
      have q9 := (((K9.far (p := ⟨g8, 0, none⟩) (by simp; omega) (.slice none 0 0)).set 0 (.slice none 0 0)).far (p := ⟨g10, 0, none⟩) (by simp; omega) (.int .i64 1)).cell (k := 0) rfl
      have q10 := (((K10.far (p := ⟨g8, 0, none⟩) (by simp; omega) (.slice none 0 0)).far (p := ⟨g9, 0, none⟩) (by simp; omega) (.slice none 0 0)).set 0 (.int .i64 1)).cell (k := 0) rfl
      simp [results, Tryd.f24, go_sem, q8, q9, q10]
    · rw [hbad.out (.inr (.inr (.inl hlen)))]
      exact DecR.none _ _ _ (((KB.setCell (p := ⟨g8, 0, none⟩) n8 _).setCell (p := ⟨g9, 0, none⟩) n9 _).setCell (p := ⟨g10, 0, none⟩) n10 _)
  have hlen2 : l.length = m.length := Decidable.of_not_not hlen
  have hne : ((l.length : Int) != (m.length : Int)) = false := by simp; omega
  have HLEN := hid hlen2
  clear hlen hlen2
  go_wp2_with (fail)
  refine (prime_c q hq _ (HT.out.below KB)).mono ?_
  rintro e w2 ⟨rfl, hd2⟩
  replace KX' := KX'.dr hd2
  replace KT := KT.dr hd2
  replace K8 := K8.dr hd2
  replace K9 := K9.dr hd2
  replace K10 := K10.dr hd2
  replace KB := below_dr KB hd2
  clear cX cT f8 f9 f10 c8 c9 c10
  have cX := KX'.cell (k := 0) rfl
  have cT := KT.cell (k := 0) rfl
  have f8 := K8.frozen 0
  have f9 := K9.frozen 0
  have f10 := K10.frozen 0
  have c8 := K8.cell (k := 0) rfl
  have c9 := K9.cell (k := 0) rfl
  have c10 := K10.cell (k := 0) rfl
  cases hpr : primeV q with
  | false =>
    go_wp2
    refine ⟨.tuple #[.slice none 0 0, .slice none 0 0, .int .i64 1], ?_, ?_⟩
    · have q8 := (((K8.set 0 (.slice none 0 0)).far (p := ⟨g9, 0, none⟩) (by simp; omega) (.slice none 0 0)).far (p := ⟨g10, 0, none⟩) (by simp; omega) (.int .i64 1)).cell (k := 0) rfl
      have q9 := (((K9.far (p := ⟨g8, 0, none⟩) (by simp; omega) (.slice none 0 0)).set 0 (.slice none 0 0)).far (p := ⟨g10, 0, none⟩) (by simp; omega) (.int .i64 1)).cell (k := 0) rfl
      have q10 := (((K10.far (p := ⟨g8, 0, none⟩) (by simp; omega) (.slice none 0 0)).far (p := ⟨g9, 0, none⟩) (by simp; omega) (.slice none 0 0)).set 0 (.int .i64 1)).cell (k := 0) rfl
      simp [results, Tryd.f24, go_sem, q8, q9, q10]
    · rw [hbad.out (.inr (.inr (.inr hpr)))]
      exact DecR.none _ _ _ (((KB.setCell (p := ⟨g8, 0, none⟩) n8 _).setCell (p := ⟨g9, 0, none⟩) n9 _).setCell (p := ⟨g10, 0, none⟩) n10 _)
  | true =>
    have HPR := hid hpr
    clear hpr hd2
    by_cases hl7 : l.length > 7
    · have hl7' : (l.length : Int) > 7 := by omega
      have hr : decR l m t q = ([], [], 40) := by
        unfold decR
        rw [if_neg (by rw [HPR.out, HLEN.out]; simp; omega), if_pos hl7]
      go_wp2
      refine ⟨.tuple #[.slice none 0 0, .slice none 0 0, .int .i64 40], ?_, ?_⟩
      · have q8 := (((K8.set 0 (.slice none 0 0)).far (p := ⟨g9, 0, none⟩) (by simp; omega) (.slice none 0 0)).far (p := ⟨g10, 0, none⟩) (by simp; omega) (.int .i64 40)).cell (k := 0) rfl
        have q9 := (((K9.far (p := ⟨g8, 0, none⟩) (by simp; omega) (.slice none 0 0)).set 0 (.slice none 0 0)).far (p := ⟨g10, 0, none⟩) (by simp; omega) (.int .i64 40)).cell (k := 0) rfl
        have q10 := (((K10.far (p := ⟨g8, 0, none⟩) (by simp; omega) (.slice none 0 0)).far (p := ⟨g9, 0, none⟩) (by simp; omega) (.slice none 0 0)).set 0 (.int .i64 40)).cell (k := 0) rfl
        simp [results, Tryd.f24, go_sem, q8, q9, q10]
      · rw [hr]
        exact DecR.none _ _ _ (((KB.setCell (p := ⟨g8, 0, none⟩) n8 _).setCell (p := ⟨g9, 0, none⟩) n9 _).setCell (p := ⟨g10, 0, none⟩) n10 _)
    · have hl7' : ¬ (l.length : Int) > 7 := by omega
      have hb5 := below_alloc w2 (.cells (ptsL A B l.length m.length c d q).toArray 87)
      have KP := row1_new w2 (ptsL A B l.length m.length c d q) 87
      have hgp : g10 < w2.heap.size := K10.lt
      go_upto_region 6 with (fail)
      replace KX' := KX'.below hb5
      replace KT := KT.below hb5
      replace K8 := K8.below hb5
      replace K9 := K9.below hb5
      replace K10 := K10.below hb5
      replace KB := below_next KB KB.size hb5
      clear cX cT f8 f9 f10 c8 c9 c10
      have cX := KX'.cell (k := 0) rfl
      have cT := KT.cell (k := 0) rfl
      have f8 := K8.frozen 0
      have f9 := K9.frozen 0
      have f10 := K10.frozen 0
      have c8 := K8.cell (k := 0) rfl
      have c9 := K9.cell (k := 0) rfl
      have c10 := K10.cell (k := 0) rfl
      simp only [List.toArray] at KX' KT K8 K9 K10 KB KP cX cT f8 f9 f10 c8 c9 c10
      generalize w2.alloc (.cells #[.slice A l.length c, .slice B m.length d, .int .u64 q] 87) = w3 at *
      obtain ⟨gp, hgpe⟩ : ∃ g, w2.heap.size = g := ⟨_, rfl⟩
      rw [hgpe] at KP hgp ⊢
      clear hb5 hgpe
      go_wp2_with (fail)
      refine (pweights_c A l c 0 q w3 (HA.out.below KB) (by omega) hu ⟨by decide, by decide⟩ hq).mono ?_
      rintro e w4 ⟨v4, rfl, _, hb4⟩
      replace KX' := KX'.below hb4
      replace KT := KT.below hb4
      replace K8 := K8.below hb4
      replace K9 := K9.below hb4
      replace K10 := K10.below hb4
      replace KB := below_next KB KB.size hb4
      clear cX cT f8 f9 f10 c8 c9 c10
      have cX := KX'.cell (k := 0) rfl
      have cT := KT.cell (k := 0) rfl
      have f8 := K8.frozen 0
      have f9 := K9.frozen 0
      have f10 := K10.frozen 0
      have c8 := K8.cell (k := 0) rfl
      have c9 := K9.cell (k := 0) rfl
      have c10 := K10.cell (k := 0) rfl
      replace KP := KP.below hb4
      have hgp4 : gp < w4.heap.size := KP.lt
      obtain ⟨E, hE⟩ : ∃ E, eAll l q = E := ⟨_, rfl⟩
      have HE := hid hE
      rw [hE]
      clear hE hb4
      by_cases hE0 : E ≠ 0
      · have hbe : (E != 0) = true := by simpa using hE0
        have hr : decR l m t q = ([], [], E) := by
          unfold decR
          rw [if_neg (by rw [HPR.out, HLEN.out]; simp; omega), if_neg hl7, if_pos (by rw [HE.out]; exact hE0), HE.out]
        go_wp2
        refine ⟨.tuple #[.slice none 0 0, .slice none 0 0, .int .i64 E], ?_, ?_⟩
        · have q8 := (((K8.set 0 (.slice none 0 0)).far (p := ⟨g9, 0, none⟩) (by simp; omega) (.slice none 0 0)).far (p := ⟨g10, 0, none⟩) (by simp; omega) (.int .i64 E)).cell (k := 0) rfl
          have q9 := (((K9.far (p := ⟨g8, 0, none⟩) (by simp; omega) (.slice none 0 0)).set 0 (.slice none 0 0)).far (p := ⟨g10, 0, none⟩) (by simp; omega) (.int .i64 E)).cell (k := 0) rfl
          have q10 := (((K10.far (p := ⟨g8, 0, none⟩) (by simp; omega) (.slice none 0 0)).far (p := ⟨g9, 0, none⟩) (by simp; omega) (.slice none 0 0)).set 0 (.int .i64 E)).cell (k := 0) rfl
          simp [results, Tryd.f24, go_sem, q8, q9, q10]
        · rw [hr]
          exact DecR.none _ _ _ (((KB.setCell (p := ⟨g8, 0, none⟩) n8 _).setCell (p := ⟨g9, 0, none⟩) n9 _).setCell (p := ⟨g10, 0, none⟩) n10 _)
      · have hE1 : E = 0 := Decidable.of_not_not hE0
        subst hE1
        obtain ⟨tn, htn⟩ : ∃ n : Nat, t = n := ⟨t.toNat, by omega⟩
        subst htn
        go_wp2_with (fail)
        refine (sets_c 0 l.length ((tn : Int) + 1) w4).mono ?_
        rintro e w5 ⟨gf, gn, gm, rfl, rm, rf, rn, l1, l2, l3, hb5⟩
        replace KX' := KX'.below hb5
        replace KT := KT.below hb5
        replace K8 := K8.below hb5
        replace K9 := K9.below hb5
        replace K10 := K10.below hb5
        replace KB := below_next KB KB.size hb5
        clear cX cT f8 f9 f10 c8 c9 c10
        have cX := KX'.cell (k := 0) rfl
        have cT := KT.cell (k := 0) rfl
        have f8 := K8.frozen 0
        have f9 := K9.frozen 0
        have f10 := K10.frozen 0
        have c8 := K8.cell (k := 0) rfl
        have c9 := K9.cell (k := 0) rfl
        have c10 := K10.cell (k := 0) rfl
        replace KP := KP.below hb5
        have S5 : DS gx gt g8 g9 g10 gp A B l.length m.length c d tn q w.heap.size w w5 := ⟨KX', KT, K8, K9, K10, KP, KB⟩
        have hdec := hid (show decR l m tn q = ((setsL (tn + 1) 0 l.length).findSome? (tryS l m tn q)).getD ([], [], 5) by
          unfold decR
          rw [if_neg (by rw [HPR.out, HLEN.out]; simp; omega), if_neg hl7, if_neg (by rw [HE.out]; simp)]
          rfl)
        go_wp2
        refine (wpIn_wide (n := 10)).1 ?_
        have hN5 := S5.b.size
        refine wpIn_rangeStop (n := 10) rfl (by decide) (gf := 92) (lb := #[.pointer (some ⟨gm, 0, none⟩), .pointer (some ⟨gf, 0, none⟩), .pointer (some ⟨gn, 0, none⟩)]) rfl trivial (enters_of Tryd.func92 (by kernel_rfl) rfl) (encs := encN) (fun _ => rfl)
          (fun xs W => DS gx gt g8 g9 g10 gp A B l.length m.length c d tn q w.heap.size w W ∧ ∀ s ∈ xs.map (·.2), tryS l m tn q s = none)
          (fun cc xs W => cc = .ret ∧ ∃ pre s r, xs.map (·.2) = pre ++ [s] ∧ (∀ s ∈ pre, tryS l m tn q s = none) ∧ tryS l m tn q s = some r ∧ DX g8 g9 g10 r w.heap.size w W)
          (RowN (tn + 1) l.length) _ _ ?ib ?ixb ?op ⟨S5, fun s h => by cases h⟩ (sets_ok (tn + 1) (by omega) 9 0 l.length gm gf gn w4.heap.size w5 (by omega) (by omega) l1 l2 l3 rm rf rn) ?a₁ ?assign ?body ?done ?stop
        case assign =>
          intro l y W K hK
          gi_wp2
          exact hK
        case ib => exact fun xs W1 W2 h hb => ⟨h.1.below S5 hN5 hb, h.2⟩
        case ixb => exact fun cc xs W1 W2 h hb hcu => ⟨h.1, by obtain ⟨pre, s, r, h1, h2, h3, h4⟩ := h.2; exact ⟨pre, s, r, h1, h2, h3, h4.cu hcu (h4.b.trans (hb.mono hN5))⟩⟩
        case op => exact fun x W1 l o o' h _ h1 h2 => ⟨h.1.put o' h1 h2, h.2⟩
        case body =>
          intro lp pre x W hszW hI hOk
          obtain ⟨v, s⟩ := x
          obtain ⟨SW, hno⟩ := hI
          obtain ⟨hrt, hlen, hlts⟩ := hOk
          dsimp only at hrt hlen hlts
          obtain ⟨A5, c5, rfl, hcs, hln⟩ := hrt.form
          rw [List.length_map] at hln ⊢
          have HSL := hid hlen
          clear hlen
          have p0 := SW.P.cell (k := 0) rfl
          have p1 := SW.P.cell (k := 1) rfl
          have p2 := SW.P.cell (k := 2) rfl
          have hWA := HA.out.below SW.b
          have hWB := HB.out.below SW.b
          have h45 := hb5.size
          have hbW : w.heap.size ≤ W.heap.size := SW.b.size
          clear cX cT f8 f9 f10 c8 c9 c10 hb5
          gi_wp2_with (fail)
          refine ⟨trivial, Rgb.calls_in_round ((rthrough_c A B A5 l m s c d c5 q W hWA hWB hcs (by omega) HLEN.out (by rw [HSL.out]; omega) hlts hu hu' hq).mono ?_)⟩
          rintro e W2 ⟨v2, rfl, ho2, hb2⟩
          have SW2 := SW.below S5 hN5 (hb2.mono (by omega))
          obtain ⟨TE, hTE⟩ : ∃ TE, tErr (pick l s) (pick m s) q = TE := ⟨_, rfl⟩
          obtain ⟨TV, hTV⟩ : ∃ TV, tVal (pick l s) (pick m s) q = TV := ⟨_, rfl⟩
          rw [hTV] at ho2
          rw [hTE]
          have HTE := hid hTE
          have HTV := hid hTV
          have hTVu := tVal_u64 (pick l s) (pick m s) q
          rw [hTV] at hTVu
          clear hTE hTV p0 p1 p2
          by_cases hT0 : TE ≠ 0
          · have hbe : (TE != 0) = true := by simpa using hT0
            have f8 := SW2.R8.frozen 0
            have f9 := SW2.R9.frozen 0
            have f10 := SW2.R10.frozen 0
            have c8 := SW2.R8.cell (k := 0) rfl
            have c9 := SW2.R9.cell (k := 0) rfl
            have c10 := SW2.R10.cell (k := 0) rfl
            have cX := SW2.X.cell (k := 0) rfl
            have cT := SW2.T.cell (k := 0) rfl
            have r8 := ((SW2.R8.set 0 (.slice none 0 0)).far (p := ⟨g9, 0, none⟩) (by simp; omega) (.slice none 0 0)).far (p := ⟨g10, 0, none⟩) (by simp; omega) (.int .i64 TE)
            have r9 := ((SW2.R9.far (p := ⟨g8, 0, none⟩) (by simp; omega) (.slice none 0 0)).set 0 (.slice none 0 0)).far (p := ⟨g10, 0, none⟩) (by simp; omega) (.int .i64 TE)
            have r10 := ((SW2.R10.far (p := ⟨g8, 0, none⟩) (by simp; omega) (.slice none 0 0)).far (p := ⟨g9, 0, none⟩) (by simp; omega) (.slice none 0 0)).set 0 (.int .i64 TE)
            have rb := ((SW2.b.setCell (p := ⟨g8, 0, none⟩) n8 (.slice none 0 0)).setCell (p := ⟨g9, 0, none⟩) n9 (.slice none 0 0)).setCell (p := ⟨g10, 0, none⟩) n10 (.int .i64 TE)
            have hup : Up w4.heap.size W (((W2.setCell ⟨g8, 0, none⟩ (.slice none 0 0)).setCell ⟨g9, 0, none⟩ (.slice none 0 0)).setCell ⟨g10, 0, none⟩ (.int .i64 TE)) := (((Up.below hb2).setCell (p := ⟨g8, 0, none⟩) (by simp; omega) _).setCell (p := ⟨g9, 0, none⟩) (by simp; omega) _).setCell (p := ⟨g10, 0, none⟩) (by simp; omega) _
            have htr : tryS l m tn q s = some ([], [], TE) := by unfold tryS; rw [HTE.out, if_neg hT0]
            gi_wp2
            exact ⟨⟨hup.from_ h45, .of_up hup⟩, rfl, pre.map (·.2), s, ([], [], TE), by simp, hno, htr, ⟨_, _, r8, r9, Own.nil _ _ _, Own.nil _ _ _⟩, r10, rb⟩
          · have hT1 : TE = 0 := Decidable.of_not_not hT0
            subst hT1
            obtain ⟨A2, c2, e2, hc2⟩ := ho2.form
            rw [List.length_map] at e2
            subst e2
            have p0 := SW2.P.cell (k := 0) rfl
            have p1 := SW2.P.cell (k := 1) rfl
            have p2 := SW2.P.cell (k := 2) rfl
            have htl : TV.length ≤ 1000 := by rw [← HTV.out, tVal_len HTE.out]; simp only [pick, List.length_map]; rw [HSL.out]; omega
            gi_wp2_with (fail)
            refine ⟨trivial, Rgb.calls_in_round ((roff_c A B A2 l m TV c d c2 q W2 (HA.out.below SW2.b) (HB.out.below SW2.b) hc2 (by omega) HLEN.out htl hu hu' hTVu hq (okm_prime HPR.out).1).mono ?_)⟩
            rintro e W3 ⟨v3, rfl, ho3, hb3⟩
            have SW3 := SW2.below S5 hN5 (hb3.mono (by have := hb2.size; omega))
            have ho2' := ho2.below hb3
            have ho3' := ho3.from_ hb2.size
            have hb13 := hb2.trans (hb3.mono hb2.size)
            obtain ⟨A3, c3, e3, hc3⟩ := ho3.form
            rw [List.length_map] at e3
            subst e3
            obtain ⟨K, hKl⟩ : ∃ K, (offL l m TV q).length = K := ⟨_, rfl⟩
            have HKL := hid hKl
            rw [hKl] at ho3 ho3' ⊢
            have hKle : K ≤ l.length := by rw [← hKl]; exact offK_len _ _ _ _ _
            clear hKl p0 p1 p2
            have f8 := SW3.R8.frozen 0
            have f9 := SW3.R9.frozen 0
            have f10 := SW3.R10.frozen 0
            have c8 := SW3.R8.cell (k := 0) rfl
            have c9 := SW3.R9.cell (k := 0) rfl
            have c10 := SW3.R10.cell (k := 0) rfl
            have cX := SW3.X.cell (k := 0) rfl
            have cT := SW3.T.cell (k := 0) rfl
            by_cases hgt : (l.length : Int) - (K : Int) > 2 * (tn : Int)
            · have o2 := (((ho2'.setCell (p := ⟨g8, 0, none⟩) (by simp; omega) (.slice A2 TV.length c2)).setCell (p := ⟨g9, 0, none⟩) (by simp; omega) (.slice A3 K c3)).setCell (p := ⟨g10, 0, none⟩) (by simp; omega) (.int .i64 0)).from_ hbW
              have o3 := (((ho3'.setCell (p := ⟨g8, 0, none⟩) (by simp; omega) (.slice A2 TV.length c2)).setCell (p := ⟨g9, 0, none⟩) (by simp; omega) (.slice A3 K c3)).setCell (p := ⟨g10, 0, none⟩) (by simp; omega) (.int .i64 0)).from_ hbW
              have r8 := ((SW3.R8.set 0 (.slice A2 TV.length c2)).far (p := ⟨g9, 0, none⟩) (by simp; omega) (.slice A3 K c3)).far (p := ⟨g10, 0, none⟩) (by simp; omega) (.int .i64 0)
              have r9 := ((SW3.R9.far (p := ⟨g8, 0, none⟩) (by simp; omega) (.slice A2 TV.length c2)).set 0 (.slice A3 K c3)).far (p := ⟨g10, 0, none⟩) (by simp; omega) (.int .i64 0)
              have r10 := ((SW3.R10.far (p := ⟨g8, 0, none⟩) (by simp; omega) (.slice A2 TV.length c2)).far (p := ⟨g9, 0, none⟩) (by simp; omega) (.slice A3 K c3)).set 0 (.int .i64 0)
              have rb := ((SW3.b.setCell (p := ⟨g8, 0, none⟩) n8 (.slice A2 TV.length c2)).setCell (p := ⟨g9, 0, none⟩) n9 (.slice A3 K c3)).setCell (p := ⟨g10, 0, none⟩) n10 (.int .i64 0)
              have hup : Up w4.heap.size W (((W3.setCell ⟨g8, 0, none⟩ (.slice A2 TV.length c2)).setCell ⟨g9, 0, none⟩ (.slice A3 K c3)).setCell ⟨g10, 0, none⟩ (.int .i64 0)) := (((Up.below hb13).setCell (p := ⟨g8, 0, none⟩) (by simp; omega) _).setCell (p := ⟨g9, 0, none⟩) (by simp; omega) _).setCell (p := ⟨g10, 0, none⟩) (by simp; omega) _
              have htr : tryS l m tn q s = some (TV, offL l m TV q, 0) := by unfold tryS; rw [HTE.out, if_pos rfl, HTV.out, HKL.out, if_pos hgt]
              gi_wp2
              exact ⟨⟨hup.from_ h45, .of_up hup⟩, rfl, pre.map (·.2), s, (TV, offL l m TV q, 0), by simp, hno, htr, ⟨_, _, r8, r9, o2, o3⟩, r10, rb⟩
            · have htr : tryS l m tn q s = none := by unfold tryS; rw [HTE.out, if_pos rfl, HTV.out, HKL.out, if_neg hgt]
              have hup : Up w4.heap.size W W3 := Up.below hb13
              gi_wp2
              exact ⟨⟨hup.from_ h45, .of_up hup⟩, SW3, fun s' a' hs' => by
                rcases List.mem_append.1 hs' with h | h
                · exact hno _ (List.mem_map.2 ⟨(a', s'), h, rfl⟩)
                · obtain ⟨_, rfl⟩ := Prod.mk.inj (List.mem_singleton.1 h)
                  exact htr⟩
        case done =>
          intro D xs W hD hWz hS hI hK
          obtain ⟨SW, hno⟩ := hI
          have hr : decR l m tn q = ([], [], 5) := by
            rw [hdec.out, find_no]
            · rfl
            · rw [← hS]; exact hno
          have hDl := (Array.getElem?_eq_some_iff.1 hK).1
          have h45 := hb5.size
          clear cX cT f8 f9 f10 c8 c9 c10
          have f8 := SW.R8.frozen 0
          have f9 := SW.R9.frozen 0
          have f10 := SW.R10.frozen 0
          have c8 := SW.R8.cell (k := 0) rfl
          have c9 := SW.R9.cell (k := 0) rfl
          have c10 := SW.R10.cell (k := 0) rfl
          have r8 := ((SW.R8.set 0 (.slice none 0 0)).far (p := ⟨g9, 0, none⟩) (by simp; omega) (.slice none 0 0)).far (p := ⟨g10, 0, none⟩) (by simp; omega) (.int .i64 5)
          have r9 := ((SW.R9.far (p := ⟨g8, 0, none⟩) (by simp; omega) (.slice none 0 0)).set 0 (.slice none 0 0)).far (p := ⟨g10, 0, none⟩) (by simp; omega) (.int .i64 5)
          have r10 := ((SW.R10.far (p := ⟨g8, 0, none⟩) (by simp; omega) (.slice none 0 0)).far (p := ⟨g9, 0, none⟩) (by simp; omega) (.slice none 0 0)).set 0 (.int .i64 5)
          have rb := ((SW.b.setCell (p := ⟨g8, 0, none⟩) n8 (.slice none 0 0)).setCell (p := ⟨g9, 0, none⟩) n9 (.slice none 0 0)).setCell (p := ⟨g10, 0, none⟩) n10 (.int .i64 5)
          have hK2 : (((W.setCell ⟨g8, 0, none⟩ (.slice none 0 0)).setCell ⟨g9, 0, none⟩ (.slice none 0 0)).setCell ⟨g10, 0, none⟩ (.int .i64 5)).heap[D]? = some (.deferred (some [])) := (Below.heap_setCell _ _ _ D (by simp; omega)).trans ((Below.heap_setCell _ _ _ D (by simp; omega)).trans ((Below.heap_setCell _ _ _ D (by simp; omega)).trans hK))
          go_wp2
          refine ⟨by simp, .inl ⟨_, _, rfl, run_takeDeferred hK2, ?_⟩⟩
          have q8 := (r8.put (.deferred none) hK2 rfl).cell (k := 0) rfl
          have q9 := (r9.put (.deferred none) hK2 rfl).cell (k := 0) rfl
          have q10 := (r10.put (.deferred none) hK2 rfl).cell (k := 0) rfl
          refine ⟨.tuple #[.slice none 0 0, .slice none 0 0, .int .i64 5], by simp [results, Tryd.f24, go_sem, q8, q9, q10], ?_⟩
          rw [hr]
          exact DecR.none _ _ _ (below_put _ rb (by omega))
        case stop =>
          intro D cc xs W hD hWz hSp hI hK
          obtain ⟨rfl, pre, s, r, h1, h2, h3, hX⟩ := hI
          obtain ⟨_, rest, hrest⟩ := hSp
          have hr : decR l m tn q = r := by
            rw [hdec.out, ← hrest, h1, List.append_assoc, List.singleton_append, find_at h2 h3]; rfl
          obtain ⟨v1, v2, r8, r9, o1, o2⟩ := hX.ex
          gi_wp2
          refine ⟨by simp, .inl ⟨_, _, rfl, run_takeDeferred hK, ?_⟩⟩
          have q8 := (r8.put (.deferred none) hK rfl).cell (k := 0) rfl
          have q9 := (r9.put (.deferred none) hK rfl).cell (k := 0) rfl
          have q10 := (hX.R10.put (.deferred none) hK rfl).cell (k := 0) rfl
          refine ⟨.tuple #[v1, v2, .int .i64 r.2.2], by simp [results, Tryd.f24, go_sem, q8, q9, q10], ?_⟩
          rw [hr]
          exact ⟨_, _, rfl, o1.cu (CellsUp.put hK rfl), o2.cu (CellsUp.put hK rfl), below_put _ hX.b (by omega)⟩
end Go.Proofs.YtlbhmoiicbhgkaaDoor
end

section
namespace Go.Proofs.YtlbhmoiicbhgkaaDoor
open Go Go.RowKit Go.Maps Go.Shelf Go.Proofs
def SameUpto {α : Type} (la lb : List α) (k : Nat) : Prop := ∀ i, i < k → la[i]? = lb[i]?
theorem SameUpto.step {α : Type} {la lb : List α} {k : Nat} {x : α} (h : SameUpto la lb k) (h1 : la[k]? = some x) (h2 : lb[k]? = some x) : SameUpto la lb (k + 1) := by
  intro i hi
  rcases Nat.lt_or_ge i k with h3 | h3
  · exact h i h3
  · obtain rfl : i = k := by omega
    rw [h1, h2]
theorem SameUpto.all {α : Type} {la lb : List α} (h : SameUpto la lb la.length) (hl : la.length = lb.length) : la = lb := by
  apply List.ext_getElem?
  intro i
  rcases Nat.lt_or_ge i la.length with h1 | h1
  · exact h i h1
  · rw [List.getElem?_eq_none h1, List.getElem?_eq_none (by omega)]
/-- the inverse, by trying all. -/
def invS (q x : Int) : Int := match (List.range q.toNat).find? (fun (y : Nat) => decide ((y : Int) * x % q = 1)) with
  | some y => (y : Int)
  | none => 0
theorem iVal_invS {q : Int} (h : okm q = true) (h2 : 2 ≤ q) (x : Int) : iVal x q = invS q x := by
  unfold invS
  cases hf : (List.range q.toNat).find? (fun (y : Nat) => decide ((y : Int) * x % q = 1)) with
  | some y =>
    have h1 := List.find?_some hf
    have h3 := List.mem_range.1 (List.mem_of_find?_eq_some hf)
    have h1 : (y : Int) * x % q = 1 := by simpa using h1
    show iVal x q = (y : Int)
    refine iVal_is h ⟨by omega, by omega, (y : Int) * x / q, ?_⟩
    have := Int.mul_ediv_add_emod ((y : Int) * x) q
    omega
  | none =>
    refine iVal_none ?_
    rintro ⟨z, z0, z1, k, hk⟩
    rw [List.find?_eq_none] at hf
    refine hf z.toNat (List.mem_range.2 (by omega)) ?_
    have e : ((z.toNat : Nat) : Int) = z := by omega
    simp only [decide_eq_true_eq]
    rw [e, hk, Int.add_mul_emod_self_left]
    exact Int.emod_eq_of_lt (by omega) (by omega)
theorem iv_invS {q : Int} (h : primeV q = true) : iv q = invS q := funext fun x => iVal_invS (okm_prime h).1 (okm_prime h).2 x
theorem hangsV_at {f : List (List Int)} {row : List Int} {q : Int} (h : primeV q = true) : hangsV f row q = hangsL q (invS q) f row := by
  unfold hangsV
  rw [h, iv_invS h]; rfl
/-- rows, one by one. -/
def RowsV (w : World) : List Value → List (List Int) → Prop
  | [], [] => True
  | v :: vs, l :: f => RowV w v l ∧ RowsV w vs f
  | _, _ => False
theorem RowsV.len {w : World} : ∀ {vs : List Value} {f : List (List Int)}, RowsV w vs f → vs.length = f.length
  | [], [], _ => rfl
  | _ :: _, _ :: _, h => by rw [List.length_cons, List.length_cons, RowsV.len h.2]
theorem RowsV.at_ {w : World} : ∀ {vs : List Value} {f : List (List Int)} (_ : RowsV w vs f) (i : Nat) (l : List Int), f[i]? = some l → ∃ v, vs[i]? = some v ∧ RowV w v l
  | v :: _, l' :: _, h, 0, l, hl => ⟨v, rfl, by obtain rfl : l' = l := by simpa using hl
                                                exact h.1⟩
  | _ :: _, _ :: _, h, i + 1, l, hl => by
    obtain ⟨v, h1, h2⟩ := RowsV.at_ h.2 i l (by simpa using hl)
    exact ⟨v, by simpa using h1, h2⟩
  | [], [], _, i, l, hl => by simp at hl
theorem p2 : primeV 2 = true := by decide +kernel
theorem p3 : primeV 3 = true := by decide +kernel
theorem hg1 : hangsV [[1, 2]] [3, 6] 7 = true := by rw [hangsV_at prime_7]; decide +kernel
theorem hg2 : hangsV [] [0, 0] 7 = true := by rw [hangsV_at prime_7]; decide +kernel
end Go.Proofs.YtlbhmoiicbhgkaaDoor
end

section
namespace Go.Proofs.YtlbhmoiicbhgkaaDoor
open Go.RowKit Go.Shelf
attribute [local go_sem] Oper.semAt_some
set_option maxHeartbeats 400000 in
theorem numbersR_c (A B : Option Addr) (la lb : List Int) (ca cb : Nat) (w : World) (hA : Cells w A (la.map (.int .u64))) (hB : Cells w B (lb.map (.int .u64))) (hl : la.length ≤ 9223372036854775807) (hl' : lb.length ≤ 9223372036854775807) :
    Calls Tryd.prog 26 #[.slice A la.length ca, .slice B lb.length cb] w fun e w' => e = .returned (.bool (decide (la = lb))) ∧ Dr w w' := by
  by_cases hlen : la.length = lb.length
  · have hb : (((la.length : Nat) : Int) != ((lb.length : Nat) : Int)) = false := by simp [hlen]
    have HL := hid hlen
    clear hlen
    go_enter Tryd.func26, Tryd.ntmps26
    go_wp2
    go_loopw [5] (fun i wr => ∃ k : Nat, i = .int .i64 k ∧ k ≤ la.length ∧ SameUpto la lb k ∧ Dr w wr) (fun i _ => la.length - (intOf i).toNat)
    case atStart => exact ⟨0, rfl, by omega, fun i hi => absurd hi (by omega), Dr.refl w⟩
    case round =>
      obtain ⟨k, rfl, hk, hsame, hw⟩ := hrel
      by_cases hlt : k < la.length
      · obtain ⟨x, hx⟩ := get_of_lt hlt
        obtain ⟨y, hy⟩ := get_of_lt (l := lb) (show k < lb.length by have := HL.out; omega)
        obtain ⟨b, off, rfl, hc⟩ := (hA.dr hw).at_map hx
        obtain ⟨b', off', rfl, hc'⟩ := (hB.dr hw).at_map hy
        have hlt' : k < lb.length := by have := HL.out; omega
        by_cases hxy : x = y
        · subst hxy
          have hn : (x != x) = false := by simp
          have hs := hsame.step hx hy
          go_wp2
          go_quiet (fail)
          go_wp2
          go_roundw
          case rel => exact ⟨k + 1, by go_num, by omega, hs, hw.more _⟩
          case measure => simp [intOf]; omega
        · have hn : (x != y) = true := by simpa using hxy
          have hfin : decide (la = lb) = false := by
            simp only [decide_eq_false_iff_not]
            rintro rfl
            rw [hx] at hy
            exact hxy (Option.some.inj hy)
          have HF := hid hfin
          clear hfin hxy
          go_wp2
          go_quiet (fail)
          go_wp2
          go_ret
          exact ⟨ret_bool HF.out.symm, hw.more _⟩
      · have hfin : decide (la = lb) = true := by
          obtain rfl : k = la.length := by omega
          simp only [decide_eq_true_eq]
          exact hsame.all HL.out
        have HF := hid hfin
        clear hfin
        go_wp2
        go_ret
        exact ⟨ret_bool HF.out.symm, hw⟩
  · have hb : (((la.length : Nat) : Int) != ((lb.length : Nat) : Int)) = true := by simp; omega
    have hfin : decide (la = lb) = false := by
      simp only [decide_eq_false_iff_not]
      rintro rfl
      exact hlen rfl
    have HF := hid hfin
    clear hfin hlen
    go_enter Tryd.func26, Tryd.ntmps26
    go_wp2
    go_ret
    exact ⟨ret_bool HF.out.symm, Dr.refl w⟩
set_option maxHeartbeats 400000 in
theorem ints5_c (A B : Option Addr) (la lb : List Int) (ca cb : Nat) (w : World) (hA : Cells w A (la.map (.int .i64))) (hB : Cells w B (lb.map (.int .i64))) (hl : la.length ≤ 9223372036854775807) (hl' : lb.length ≤ 9223372036854775807) :
    Calls Tryd.prog 27 #[.slice A la.length ca, .slice B lb.length cb] w fun e w' => e = .returned (.bool (decide (la = lb))) ∧ Dr w w' := by
  by_cases hlen : la.length = lb.length
  · have hb : (((la.length : Nat) : Int) != ((lb.length : Nat) : Int)) = false := by simp [hlen]
    have HL := hid hlen
    clear hlen
    go_enter Tryd.func27, Tryd.ntmps27
    go_wp2
    go_loopw [5] (fun i wr => ∃ k : Nat, i = .int .i64 k ∧ k ≤ la.length ∧ SameUpto la lb k ∧ Dr w wr) (fun i _ => la.length - (intOf i).toNat)
    case atStart => exact ⟨0, rfl, by omega, fun i hi => absurd hi (by omega), Dr.refl w⟩
    case round =>
      obtain ⟨k, rfl, hk, hsame, hw⟩ := hrel
      by_cases hlt : k < la.length
      · obtain ⟨x, hx⟩ := get_of_lt hlt
        obtain ⟨y, hy⟩ := get_of_lt (l := lb) (show k < lb.length by have := HL.out; omega)
        obtain ⟨b, off, rfl, hc⟩ := (hA.dr hw).at_map hx
        obtain ⟨b', off', rfl, hc'⟩ := (hB.dr hw).at_map hy
        have hlt' : k < lb.length := by have := HL.out; omega
        by_cases hxy : x = y
        · subst hxy
          have hn : (x != x) = false := by simp
          have hs := hsame.step hx hy
          go_wp2
          go_quiet (fail)
          go_wp2
          go_roundw
          case rel => exact ⟨k + 1, by go_num, by omega, hs, hw.more _⟩
          case measure => simp [intOf]; omega
        · have hn : (x != y) = true := by simpa using hxy
          have hfin : decide (la = lb) = false := by
            simp only [decide_eq_false_iff_not]
            rintro rfl
            rw [hx] at hy
            exact hxy (Option.some.inj hy)
          have HF := hid hfin
          clear hfin hxy
          go_wp2
          go_quiet (fail)
          go_wp2
          go_ret
          exact ⟨ret_bool HF.out.symm, hw.more _⟩
      · have hfin : decide (la = lb) = true := by
          obtain rfl : k = la.length := by omega
          simp only [decide_eq_true_eq]
          exact hsame.all HL.out
        have HF := hid hfin
        clear hfin
        go_wp2
        go_ret
        exact ⟨ret_bool HF.out.symm, hw⟩
  · have hb : (((la.length : Nat) : Int) != ((lb.length : Nat) : Int)) = true := by simp; omega
    have hfin : decide (la = lb) = false := by
      simp only [decide_eq_false_iff_not]
      rintro rfl
      exact hlen rfl
    have HF := hid hfin
    clear hfin hlen
    go_enter Tryd.func27, Tryd.ntmps27
    go_wp2
    go_ret
    exact ⟨ret_bool HF.out.symm, Dr.refl w⟩
theorem natv_eq (s : List Nat) : natv s = (s.map fun (i : Nat) => (i : Int)).map (Value.int .i64) := by simp [natv]
theorem nats_inj {a b : List Nat} : (a.map fun (i : Nat) => (i : Int)) = (b.map fun (i : Nat) => (i : Int)) ↔ a = b := by
  constructor
  · intro h
    have e : ∀ l : List Nat, (l.map fun (i : Nat) => (i : Int)).map Int.toNat = l := by
      intro l
      induction l with
      | nil => rfl
      | cons x l ih => rw [List.map_cons, List.map_cons, ih]; rfl
    have := congrArg (List.map Int.toNat) h
    rw [e, e] at this
    exact this
  · intro h; rw [h]
noncomputable def isB (l m : List Int) (t q : Int) (cs : List Int) (ws : List Nat) : Bool := decide ((decR l m t q).2.2 = 0) && decide (cs = (decR l m t q).1) && decide (ws = (decR l m t q).2.1)
theorem isB_at {l m : List Int} {t q : Int} {cs : List Int} {ws : List Nat} (h : decR l m t q = (cs, ws, 0)) : isB l m t q cs ws = true := by unfold isB; rw [h]; simp
set_option maxRecDepth 100000 in
set_option maxHeartbeats 1000000 in
theorem is_c (A B C D : Option Addr) (l m cs : List Int) (ws : List Nat) (a b c d : Nat) (t q : Int) (w : World) (hA : Cells w A (l.map (.int .u64))) (hB : Cells w B (m.map (.int .u64))) (hC : Cells w C (cs.map (.int .u64))) (hD : Cells w D (natv ws)) (hl : l.length ≤ 1000) (hlm : m.length ≤ 1000) (hcl : cs.length ≤ 1000) (hwl : ws.length ≤ 1000)
    (hu : U64s l) (hu' : U64s m) (ht : I64 t) (hq : U64 q) (hTab : Tabs w) :
    Calls Tryd.prog 59 #[.slice A l.length a, .slice B m.length b, .int .i64 t, .int .u64 q, .slice C cs.length c, .slice D ws.length d] w fun e w' => e = .returned (.bool (isB l m t q cs ws)) ∧ Below w.heap.size w w' := by
  have HIS := hid (show isB l m t q cs ws = (decide ((decR l m t q).2.2 = 0) && decide (cs = (decR l m t q).1) && decide (ws = (decR l m t q).2.1)) from rfl)
  generalize isB l m t q cs ws = R at *
  have HD := hid (dec_c A B l m a b t q w hA hB hl hlm hu hu' ht hq hTab)
  have HC := hid hC
  have HW := hid hD
  clear hA hB hC hD hTab
  generalize decR l m t q = r at *
  obtain ⟨r1, r2, r3⟩ := r
  go_enter Tryd.func59, Tryd.ntmps59
  go_wp2_with (fail)
  refine HD.out.mono ?_
  rintro e w2 ⟨v1, v2, rfl, o1, o2, hb2⟩
  dsimp only at o1 o2 HIS ⊢
  obtain ⟨A1, c1, e1, h1⟩ := o1.form
  obtain ⟨A2, c2, e2, h2⟩ := o2.form
  have l1 := o1.len_le
  have l2 := o2.len_le
  rw [List.length_map] at e1 e2 l1 l2
  subst e1
  subst e2
  by_cases hr : r3 = 0
  · subst hr
    have hC2 := HC.out.below hb2
    have hW2 := HW.out.below hb2
    clear HD HC HW o1 o2
    go_wp2_with (fail)
    refine (numbersR_c C A1 cs r1 c c1 w2 hC2 h1 (by omega) l1).mono ?_
    rintro e w3 ⟨rfl, hd3⟩
    by_cases h3 : cs = r1
    · have h3' : decide (cs = r1) = true := by simpa using h3
      rw [h3']
      have hW3 := hW2.dr hd3
      have h23 := h2.dr hd3
      rw [natv_eq] at hW3 h23
      have hp := ints5_c D A2 (ws.map fun (i : Nat) => (i : Int)) (r2.map fun (i : Nat) => (i : Int)) d c2 w3 hW3 h23 (by simp; omega) (by simpa using l2)
      rw [List.length_map, List.length_map] at hp
      have HP := hid hp
      clear hp
      go_wp2_with (fail)
      refine HP.out.mono ?_
      rintro e w4 ⟨rfl, hd4⟩
      go_wp2
      go_ret
      refine ⟨?_, below_dr (below_dr hb2 hd3) hd4⟩
      rw [HIS.out]
      simp [h3', nats_inj]
    · have h3' : decide (cs = r1) = false := by simpa using h3
      rw [h3']
      go_wp2
      go_ret
      refine ⟨?_, below_dr hb2 hd3⟩
      rw [HIS.out, h3']
      simp
  · have hne : (r3 == 0) = false := by simpa using hr
    go_wp2
    go_ret
    refine ⟨?_, hb2⟩
    rw [HIS.out]
    simp [hr]
end Go.Proofs.YtlbhmoiicbhgkaaDoor
end

section
namespace Go.Proofs.YtlbhmoiicbhgkaaDoor
open Go.RowKit
def unB (q a : Int) : Bool := (List.range q.toNat).any fun (y : Nat) => decide ((y : Int) * a % q = 1 % q)
theorem unB_iff {q a : Int} (h : 0 < q) : unB q a = true ↔ Un a q := by
  unfold unB Un
  rw [List.any_eq_true]
  constructor
  · rintro ⟨y, _, hy⟩
    exact ⟨y, of_decide_eq_true hy⟩
  · rintro ⟨x, hx⟩
    have h1 := Int.emod_nonneg x (show q ≠ 0 by omega)
    have h2 := Int.emod_lt_of_pos x h
    refine ⟨(x % q).toNat, List.mem_range.2 (by omega), decide_eq_true ?_⟩
    rw [Int.toNat_of_nonneg h1, ml_mul]
    exact hx
def apartB : List Int → Int → Bool
  | [], _ => true
  | a :: l, q => (l.all fun b => unB q (b - a)) && apartB l q
theorem apartB_iff {q : Int} (h : 0 < q) : ∀ xs : List Int, apartB xs q = true ↔ Apart xs q
  | [] => by simp [apartB, Apart]
  | a :: l => by
    unfold apartB Apart
    rw [Bool.and_eq_true, apartB_iff h l, List.pairwise_cons, List.all_eq_true]
    constructor
    · rintro ⟨h1, h2⟩
      exact ⟨fun b hb => (unB_iff h).1 (h1 b hb), h2⟩
    · rintro ⟨h1, h2⟩
      exact ⟨fun b hb => (unB_iff h).2 (h1 b hb), h2⟩
def eAllV (xs : List Int) (q : Int) : Int := if eUnlike xs q = 0 then (if apartB xs q = true then 0 else 5) else eUnlike xs q
theorem eAll_V {xs : List Int} {q : Int} (h : 0 < q) : eAll xs q = eAllV xs q := by
  unfold eAllV
  by_cases h0 : eUnlike xs q = 0
  · rw [if_pos h0]
    by_cases h1 : Apart xs q
    · rw [eAll_yes h0 h1, if_pos ((apartB_iff h xs).2 h1)]
    · rw [eAll_no h0 h1, if_neg (fun h2 => h1 ((apartB_iff h xs).1 h2))]
  · rw [eAll_bad h0, if_neg h0]
def pOutV (xs ys : List Int) (q : Int) : Nat → List Int
  | 0 => List.replicate xs.length 0
  | k + 1 => pSum (pOutV xs ys q k) (pScale (withoutL (pAll xs q) (xs.getD k 0) q) (mMul (invS q (mProd (but xs k) (xs.getD k 0) q)) (ys.getD k 0) q) q) q
theorem pOut_V {q : Int} (h : okm q = true) (h2 : 2 ≤ q) (xs ys : List Int) : ∀ k, pOut xs ys q k = pOutV xs ys q k
  | 0 => rfl
  | k + 1 => by rw [pOut, pOutV, pOut_V h h2 xs ys k, iVal_invS h h2]
def tErrV (xs ys : List Int) (q : Int) : Int := if xs.length = ys.length then eAllV xs q else 1
def tValV (xs ys : List Int) (q : Int) : List Int := if tErrV xs ys q = 0 then pOutV xs ys q xs.length else []
theorem tErr_V {q : Int} (h : 0 < q) (xs ys : List Int) : tErr xs ys q = tErrV xs ys q := by unfold tErr tErrV; rw [eAll_V h]
theorem tVal_V {q : Int} (h : okm q = true) (h2 : 2 ≤ q) (xs ys : List Int) : tVal xs ys q = tValV xs ys q := by unfold tVal tValV; rw [tErr_V (by omega), pOut_V h h2]
def tryV (xs ys : List Int) (t q : Int) (s : List Nat) : Option (List Int × List Nat × Int) :=
  if tErrV (pick xs s) (pick ys s) q = 0 then
    if (xs.length : Int) - (offL xs ys (tValV (pick xs s) (pick ys s) q) q).length > 2 * t then some (tValV (pick xs s) (pick ys s) q, offL xs ys (tValV (pick xs s) (pick ys s) q) q, 0) else none
  else some ([], [], tErrV (pick xs s) (pick ys s) q)
theorem try_V {q : Int} (h : okm q = true) (h2 : 2 ≤ q) (xs ys : List Int) (t : Int) : tryS xs ys t q = tryV xs ys t q := by
  funext s
  unfold tryS tryV
  rw [tErr_V (by omega), tVal_V h h2]
def decV (xs ys : List Int) (t q : Int) : List Int × List Nat × Int :=
  if t < 0 ∨ t > 2 ∨ xs.length ≠ ys.length ∨ primeV q = false then ([], [], 1)
  else if xs.length > 7 then ([], [], 40)
  else if eAllV xs q ≠ 0 then ([], [], eAllV xs q)
  else ((setsL (t.toNat + 1) 0 xs.length).findSome? (tryV xs ys t q)).getD ([], [], 5)
theorem decR_V (xs ys : List Int) (t q : Int) : decR xs ys t q = decV xs ys t q := by
  unfold decR decV
  by_cases h : t < 0 ∨ t > 2 ∨ xs.length ≠ ys.length ∨ primeV q = false
  · rw [if_pos h, if_pos h]
  · rw [if_neg h, if_neg h]
    have hp : primeV q = true := by
      cases hq : primeV q with
      | true => rfl
      | false => exact absurd (.inr (.inr (.inr hq))) h
    obtain ⟨h1, h2⟩ := okm_prime hp
    rw [eAll_V (by omega), try_V h1 h2]
theorem ro_1 : decR [1, 2, 3, 4] [5, 7, 0, 1] 1 11 = ([], [], 5) := by rw [decR_V]; decide +kernel
theorem ro_2 : decR [1, 2, 3, 4] [5, 7, 9, 1] 1 11 = ([3, 2], [3], 0) := by rw [decR_V]; decide +kernel
theorem ro_3 : decR [1, 2, 3, 4] [4, 6, 6, 4] 0 11 = ([4], [1, 2], 0) := by rw [decR_V]; decide +kernel
end Go.Proofs.YtlbhmoiicbhgkaaDoor
end

section
namespace Go.Proofs.YtlbhmoiicbhgkaaDoor
open Go.RowKit
theorem rising_len {n : Nat} : ∀ (r : List Nat) (a : Nat), r.Pairwise (· < ·) → (∀ i ∈ r, a ≤ i ∧ i < n) → r ≠ [] → a + r.length ≤ n
  | [], _, _, _, h => absurd rfl h
  | [x], a, _, h, _ => by have := h x (List.mem_singleton.2 rfl); simp; omega
  | x :: y :: r, a, hp, h, _ => by
    have h1 := h x (List.mem_cons_self ..)
    have h2 := List.pairwise_cons.1 hp
    have := rising_len (y :: r) (a + 1) h2.2 (fun i hi => ⟨by have := h2.1 i hi; omega, (h i (List.mem_cons_of_mem _ hi)).2⟩) (by simp)
    simp only [List.length_cons] at this ⊢
    omega
theorem setsL_mem : ∀ (m fr n : Nat) (s : List Nat), s ∈ setsL m fr n ↔ s.length = m ∧ s.Pairwise (· < ·) ∧ ∀ i ∈ s, fr ≤ i ∧ i < n
  | 0, fr, n, s => by
    simp only [setsL, List.mem_singleton]
    constructor
    · rintro rfl; exact ⟨rfl, List.Pairwise.nil, fun i h => by cases h⟩
    · rintro ⟨h, _⟩; exact List.eq_nil_of_length_eq_zero h
  | m + 1, fr, n, s => by
    simp only [setsL, List.mem_flatMap, List.mem_map, List.mem_range'_1]
    constructor
    · rintro ⟨i, ⟨h1, h2⟩, r, hr, rfl⟩
      obtain ⟨h3, h4, h5⟩ := (setsL_mem m (i + 1) n r).1 hr
      refine ⟨by simp [h3], List.pairwise_cons.2 ⟨fun j hj => (h5 j hj).1, h4⟩, fun j hj => ?_⟩
      rcases List.mem_cons.1 hj with rfl | hj
      · omega
      · have := h5 j hj; omega
    · rintro ⟨h1, h2, h3⟩
      cases s with
      | nil => cases h1
      | cons i r =>
        have h4 := List.pairwise_cons.1 h2
        have h5 := h3 i (List.mem_cons_self ..)
        simp only [List.length_cons, Nat.add_right_cancel_iff] at h1
        have h6 : ∀ j ∈ r, i + 1 ≤ j ∧ j < n := fun j hj => ⟨h4.1 j hj, (h3 j (List.mem_cons_of_mem _ hj)).2⟩
        refine ⟨i, ⟨h5.1, ?_⟩, r, (setsL_mem m (i + 1) n r).2 ⟨h1, h4.2, h6⟩, rfl⟩
        by_cases hr : r = []
        · subst hr; simp at h1; omega
        · have := rising_len r (i + 1) h4.2 h6 hr
          omega
theorem un_ne {a q : Int} (h2 : 2 ≤ q) (h : Un a q) : a % q ≠ 0 := by
  rintro h0
  obtain ⟨x, hx⟩ := h
  rw [← mr_mul, h0, Int.mul_zero, Int.zero_emod, Int.emod_eq_of_lt (by omega) (by omega)] at hx
  omega
theorem apart_nodup {q : Int} (h2 : 2 ≤ q) {xs : List Int} (h : Apart xs q) : (mods xs q).Nodup := by
  unfold mods
  rw [List.Nodup, List.pairwise_map]
  refine h.imp fun {a b} hu => fun e => un_ne h2 hu ?_
  exact (emod_sub_congr e.symm rfl).trans (by rw [Int.sub_self, Int.zero_emod])
theorem eAll_apart {q : Int} (hq : okm q = true) (h2 : 2 ≤ q) {xs : List Int} (h : Apart xs q) (hl : xs.length ≤ 1024) : eAll xs q = 0 :=
  eAll_yes (by unfold eUnlike; rw [if_pos hq, if_pos hl, if_pos (apart_nodup h2 h)]) h
theorem apart_of_eAll {q : Int} {xs : List Int} (h : eAll xs q = 0) : Apart xs q := by
  by_cases h0 : eUnlike xs q = 0
  · by_cases h1 : Apart xs q
    · exact h1
    · rw [eAll_no h0 h1] at h; cases h
  · rw [eAll_bad h0] at h; exact absurd h h0
theorem apart_at {xs : List Int} {q : Int} (h : Apart xs q) {i j : Nat} (hij : i < j) (hj : j < xs.length) : Un (xs.getD j 0 - xs.getD i 0) q := by
  have := List.pairwise_iff_getElem.1 h i j (by omega) hj hij
  rw [List.getD_eq_getElem?_getD, List.getD_eq_getElem?_getD, List.getElem?_eq_getElem hj, List.getElem?_eq_getElem (show i < xs.length by omega)]
  exact this
theorem apart_pick {xs : List Int} {q : Int} (h : Apart xs q) {s : List Nat} (hs : s.Pairwise (· < ·)) (hl : ∀ i ∈ s, i < xs.length) : Apart (pick xs s) q := by
  unfold Apart pick
  rw [List.pairwise_map]
  exact hs.imp_of_mem fun {i j} _ hj hij => apart_at h hij (hl j hj)
theorem pick_len (xs : List Int) (s : List Nat) : (pick xs s).length = s.length := by simp [pick]
/-- a polynomial goes through point i. -/
def onB (l m c : List Int) (q : Int) (i : Nat) : Bool := !offB l m c q i
theorem onB_iff {l m c : List Int} {q : Int} {i : Nat} : onB l m c q i = true ↔ mEval c (l.getD i 0) q = m.getD i 0 % q := by
  unfold onB offB; simp
/-- two of as many coefficients that go through as many points as these are one. -/
theorem one_fit {xs ys c c' : List Int} {q : Int} (hq : okm q = true) (ha : Apart xs q) {u : List Nat} (hu : u.Pairwise (· < ·)) (hul : ∀ i ∈ u, i < xs.length) (hc : c.length = u.length) (hc' : c'.length = u.length)
    (hr : c.map (· % q) = c) (hr' : c'.map (· % q) = c') (h1 : ∀ i ∈ u, onB xs ys c q i = true) (h2 : ∀ i ∈ u, onB xs ys c' q i = true) : c = c' := by
  rw [← hr, ← hr']
  refine only_one (apart_pick ha hu hul) (by rw [pick_len, hc]) (by rw [pick_len, hc']) fun x hx => ?_
  obtain ⟨i, hi, rfl⟩ := List.mem_map.1 hx
  have e1 := onB_iff.1 (h1 i hi)
  have e2 := onB_iff.1 (h2 i hi)
  rw [mEval_ok hq] at e1 e2
  exact e1.trans e2.symm
/-- the polynomial through some points. -/
theorem tVal_spec {xs ys : List Int} {q : Int} (hq : okm q = true) (h2 : 2 ≤ q) (ha : Apart xs q) (_ : xs.length ≤ 1000) {s : List Nat} (hs : s.Pairwise (· < ·)) (hsl : ∀ i ∈ s, i < xs.length) (hsn : s.length ≤ 1000) :
    tErr (pick xs s) (pick ys s) q = 0 ∧ (tVal (pick xs s) (pick ys s) q).length = s.length ∧ (tVal (pick xs s) (pick ys s) q).map (· % q) = tVal (pick xs s) (pick ys s) q ∧ ∀ i ∈ s, onB xs ys (tVal (pick xs s) (pick ys s) q) q i = true := by
  have hap := apart_pick ha hs hsl
  have he : tErr (pick xs s) (pick ys s) q = 0 := by
    unfold tErr
    rw [if_pos (by rw [pick_len, pick_len]), eAll_apart hq h2 hap (by rw [pick_len]; omega)]
  refine ⟨he, by rw [tVal_len he, pick_len], by rw [tVal_ok he, pOut_red hq], fun i hi => ?_⟩
  rw [onB_iff, mEval_ok hq, tVal_ok he]
  obtain ⟨j, hj⟩ := List.getElem?_of_mem hi
  have hjl := (List.getElem?_eq_some_iff.1 hj).1
  have := pOut_ev hq (pick ys s) hap (pick xs s).length (Nat.le_refl _) j (xs.getD i 0) (by unfold pick; rw [List.getElem?_map, hj]; rfl)
  rw [this, if_pos (by rw [pick_len]; exact hjl)]
  unfold pick
  rw [List.getD_eq_getElem?_getD, List.getElem?_map, hj]; rfl
theorem filter_not {α : Type} (p : α → Bool) : ∀ l : List α, (l.filter p).length + (l.filter fun x => !p x).length = l.length
  | [] => by simp
  | a :: l => by
    have := filter_not p l
    simp only [List.filter_cons]
    cases p a <;> simp <;> omega
theorem range_rising (n : Nat) (p : Nat → Bool) : ((List.range n).filter p).Pairwise (· < ·) := List.Pairwise.filter _ List.pairwise_lt_range
/-- so many through which it goes. -/
theorem on_len (l m c : List Int) (q : Int) : ((List.range l.length).filter (onB l m c q)).length + (offL l m c q).length = l.length := by
  have := filter_not (onB l m c q) (List.range l.length)
  rw [List.length_range] at this
  unfold offL offK
  have e : (fun x => !onB l m c q x) = offB l m c q := by funext x; simp [onB]
  rw [e] at this
  exact this
/-- a set that tells something. -/
theorem tryS_some {xs ys : List Int} {t q : Int} (hq : okm q = true) (h2 : 2 ≤ q) (ha : Apart xs q) (hl : xs.length ≤ 7) {s : List Nat} (hs : s.Pairwise (· < ·)) (hsl : ∀ i ∈ s, i < xs.length) (hsn : s.length ≤ 1000) {r : List Int × List Nat × Int} (h : tryS xs ys t q s = some r) :
    r = (tVal (pick xs s) (pick ys s) q, offL xs ys (tVal (pick xs s) (pick ys s) q) q, 0) ∧ (xs.length : Int) - (offL xs ys (tVal (pick xs s) (pick ys s) q) q).length > 2 * t := by
  unfold tryS at h
  rw [if_pos (tVal_spec hq h2 ha (by omega) hs hsl hsn).1] at h
  split at h
  · rename_i hgt
    exact ⟨(Option.some.inj h).symm, hgt⟩
  · cases h
end Go.Proofs.YtlbhmoiicbhgkaaDoor
end

section
namespace Go.Proofs.YtlbhmoiicbhgkaaDoor
open Go Go.RowKit Go.Maps Go.Shelf Go.Proofs
attribute [local go_sem] Oper.semAt_some
theorem u64s_of' {l : List Int} (h : (l.all fun n => decide (0 ≤ n) && decide (n < 18446744073709551616)) = true) : U64s l := by
  intro z hz
  have := List.all_eq_true.1 h z hz
  simp only [Bool.and_eq_true, decide_eq_true_eq] at this
  exact this
theorem is_1 : isB [1, 2, 3, 4] [5, 7, 9, 1] 1 11 [3, 2] [3] = true := isB_at ro_2
theorem is_2 : isB [1, 2, 3, 4] [4, 6, 6, 4] 0 11 [4] [1, 2] = true := isB_at ro_3
set_option maxRecDepth 100000 in
set_option maxHeartbeats 4000000 in
theorem awake05_c (w : World) (hTab : Tabs w) :
    Calls Tryd.prog 23 #[] w fun e w' => e = .returned (.bool true) ∧ Below w.heap.size w w' := by
  have hB := Bun.nil w
  go_enter Tryd.func23, Tryd.ntmps23
  go_wp2_with (first | (refine wpList_named hB rfl ?_; clear hB; intro wn gn hB hbn hg; (try rw [hg]); clear hg hbn) | fail)
  refine (dec_c _ _ [1, 2, 3, 4] [5, 7, 0, 1] 4 4 1 11 _ ((hB.row (i := 1) rfl).cells) ((hB.row (i := 0) rfl).cells) (by decide) (by decide) (u64s_of' (by decide)) (u64s_of' (by decide)) ⟨by decide, by decide⟩ ⟨by decide, by decide⟩ (hTab.below hB.b)).mono ?_
  rintro e w2 ⟨v1, v2, rfl, _, _, hb2⟩
  rw [ro_1]
  replace hB := (hB.more hb2)
  clear hb2
  go_wp2_with (first | (refine wpList_named hB rfl ?_; clear hB; intro wn gn hB hbn hg; (try rw [hg]); clear hg hbn) | fail)
  refine (is_c _ _ _ _ [1, 2, 3, 4] [5, 7, 9, 1] [3, 2] [3] 4 4 2 1 1 11 _ ((hB.row (i := 4) rfl).cells) ((hB.row (i := 2) rfl).cells) ((hB.row (i := 1) rfl).cells) ((hB.row (i := 0) rfl).cells) (by decide) (by decide) (by decide) (by decide) (u64s_of' (by decide)) (u64s_of' (by decide)) ⟨by decide, by decide⟩ ⟨by decide, by decide⟩ (hTab.below hB.b)).mono ?_
  rintro e w3 ⟨rfl, hb3⟩
  rw [is_1]
  replace hB := (hB.more hb3)
  clear hb3
  go_wp2_with (first | (refine wpList_named hB rfl ?_; clear hB; intro wn gn hB hbn hg; (try rw [hg]); clear hg hbn) | fail)
  refine (is_c _ _ _ _ [1, 2, 3, 4] [4, 6, 6, 4] [4] [1, 2] 4 4 1 2 0 11 _ ((hB.row (i := 7) rfl).cells) ((hB.row (i := 2) rfl).cells) ((hB.row (i := 1) rfl).cells) ((hB.row (i := 0) rfl).cells) (by decide) (by decide) (by decide) (by decide) (u64s_of' (by decide)) (u64s_of' (by decide)) ⟨by decide, by decide⟩ ⟨by decide, by decide⟩ (hTab.below hB.b)).mono ?_
  rintro e w4 ⟨rfl, hb4⟩
  rw [is_2]
  replace hB := (hB.more hb4)
  clear hb4
  go_wp2
  go_ret
  exact ⟨rfl, hB.b⟩
end Go.Proofs.YtlbhmoiicbhgkaaDoor
end

section
namespace Go.Proofs.YtlbhmoiicbhgkaaDoor
open Go Go.RowKit Go.Maps Go.Shelf Go.Proofs
attribute [local go_sem] Oper.semAt_some
abbrev someQ : List Int := [11, 13, 23, 101, 65537, 2147483647, 2305843009213693951]
def pickQ (n : Int) : Int := if 7 < n ∧ primeV n = true then n else someQ.getD (n % 7).toNat 0
theorem someQ_ok : ∀ q ∈ someQ, primeV q = true ∧ 7 < q := by
  have h : (someQ.all fun q => primeV q && decide (7 < q)) = true := by decide +kernel
  intro q hq
  have := List.all_eq_true.1 h q hq
  simpa using this
theorem cellQ {w : World} {g : Nat} {e : TypeId} (h : Row1 w g e (someQ.map (.int .u64))) {n : Int} (_h0 : 0 ≤ n) : w.cell? ⟨g, (n % 7).toNat, none⟩ = some (.int .u64 (someQ.getD (n % 7).toNat 0)) := by
  have hl : (n % 7).toNat < someQ.length := by simp; omega
  refine h.cell ?_
  rw [List.getElem?_map, List.getD_eq_getElem?_getD, List.getElem?_eq_getElem hl]; rfl
theorem pickQ_ok {n : Int} (_ : 0 ≤ n) : primeV (pickQ n) = true ∧ 7 < pickQ n := by
  unfold pickQ
  split
  · rename_i h1; exact ⟨h1.2, h1.1⟩
  · have hl : (n % 7).toNat < someQ.length := by simp; omega
    rw [List.getD_eq_getElem?_getD, List.getElem?_eq_getElem hl]
    exact someQ_ok _ (List.getElem_mem hl)
theorem wrap64_small {x : Int} (h0 : 0 ≤ x) (h1 : x < 9223372036854775808) : wrap64 x = x := by
  unfold wrap64
  omega
def Places (t : Nat) (w : World) (e : Ending) (w' : World) : Prop := ∃ (v : Value) (xs : List Int), e = .returned v ∧ Own w' w.heap.size 24 v (xs.map (.int .u64)) ∧ 2 * t + 1 ≤ xs.length ∧ xs.length ≤ 7 ∧ (∀ x ∈ xs, 1 ≤ x ∧ x ≤ 7) ∧ Below w.heap.size w w'
theorem own_snoc {w : World} {b : Nat} {e : TypeId} {v : Value} {xs : List Int} {X : Int} (h : Own w b e v (xs.map (.int .u64) ++ [.int .u64 X])) : Own w b e v ((xs ++ [X]).map (.int .u64)) := by rw [List.map_append]; exact h
end Go.Proofs.YtlbhmoiicbhgkaaDoor
end

section
namespace Go.Proofs.YtlbhmoiicbhgkaaDoor
open Go Go.RowKit Go.Maps Go.Shelf Go.Proofs
attribute [local go_sem] Oper.semAt_some
def Unlike5 (xs : List Int) (w : World) (e : Ending) (w' : World) : Prop := ∃ b, e = .returned (.bool b) ∧ (b = true → ∀ (i k : Nat) (x y : Int), k < i → xs[i]? = some x → xs[k]? = some y → x ≠ y) ∧ Dr w w'
def rowK5 (c : List Int) (t : Nat) (q : Int) (k : Nat) : List Int := (List.range (t + 1)).map fun i => if i < k ∧ i < c.length then c.getD i 0 % q else 0
/-- the first t + 1 of some numbers. -/
def rowL5 (c : List Int) (t : Nat) (q : Int) : List Int := rowK5 c t q (t + 1)
theorem rowK5_len (c : List Int) (t : Nat) (q : Int) (k : Nat) : (rowK5 c t q k).length = t + 1 := by simp [rowK5]
theorem rowK5_at {c : List Int} {t : Nat} {q : Int} {k i : Nat} (h : i < t + 1) : (rowK5 c t q k)[i]? = some (if i < k ∧ i < c.length then c.getD i 0 % q else 0) := by
  unfold rowK5
  rw [List.getElem?_map, List.getElem?_range h]; rfl
theorem rowK5_zero (c : List Int) (t : Nat) (q : Int) : (rowK5 c t q 0).map (Value.int .u64) = List.replicate (t + 1) (.int .u64 0) := by
  apply List.ext_getElem?
  intro i
  rcases Nat.lt_or_ge i (t + 1) with h | h
  · rw [List.getElem?_map, rowK5_at h, List.getElem?_replicate, if_pos h, if_neg (by omega)]; rfl
  · rw [List.getElem?_eq_none (by simpa [rowK5] using h), List.getElem?_eq_none (by simpa using h)]
theorem rowK5_set {c : List Int} {t : Nat} {q : Int} {k : Nat} {z : Int} (hz : c[k]? = some z) : ((rowK5 c t q k).map (Value.int .u64)).set k (.int .u64 (z % q)) = (rowK5 c t q (k + 1)).map (Value.int .u64) := by
  have hkc := (List.getElem?_eq_some_iff.1 hz).1
  apply List.ext_getElem?
  intro i
  rw [List.getElem?_set, List.getElem?_map, List.getElem?_map]
  rcases Nat.lt_or_ge i (t + 1) with h | h
  · rw [rowK5_at h, rowK5_at h]
    by_cases e : k = i
    · subst e
      rw [if_pos rfl, if_pos (by simp [rowK5]; omega), if_pos ⟨by omega, hkc⟩, List.getD_eq_getElem?_getD, hz]; rfl
    · rw [if_neg e]
      by_cases h1 : i < k ∧ i < c.length
      · rw [if_pos h1, if_pos ⟨by omega, h1.2⟩]
      · rw [if_neg h1, if_neg (by omega)]
  · have h1 : (rowK5 c t q k)[i]? = none := List.getElem?_eq_none (by simpa [rowK5] using h)
    have h2 : (rowK5 c t q (k + 1))[i]? = none := List.getElem?_eq_none (by simpa [rowK5] using h)
    rw [h1, h2]
    by_cases e : k = i
    · subst e; rw [if_pos rfl, if_neg (by simp [rowK5]; omega)]; rfl
    · rw [if_neg e]
theorem rowK5_end {c : List Int} {t : Nat} {q : Int} {k : Nat} (h : t + 1 ≤ k ∨ c.length ≤ k) : rowK5 c t q k = rowL5 c t q := by
  unfold rowL5 rowK5
  refine List.map_congr_left fun i hi => ?_
  have := List.mem_range.1 hi
  by_cases h1 : i < c.length
  · rw [if_pos ⟨by omega, h1⟩, if_pos ⟨by omega, h1⟩]
  · rw [if_neg (by omega), if_neg (by omega)]
theorem rowL5_u64 (c : List Int) (t : Nat) {q : Int} (h : okm q = true) : U64s (rowL5 c t q) := by
  intro z hz
  obtain ⟨i, _, rfl⟩ := List.mem_map.1 hz
  split
  · exact mod_u64 h
  · exact ⟨by simp, by simp⟩
theorem rowL5_red (c : List Int) (t : Nat) (q : Int) : (rowL5 c t q).map (· % q) = rowL5 c t q := by
  unfold rowL5 rowK5
  rw [List.map_map]
  refine List.map_congr_left fun i _ => ?_
  simp only [Function.comp]
  split
  · exact Int.emod_emod _ _
  · exact Int.zero_emod _
end Go.Proofs.YtlbhmoiicbhgkaaDoor
end
