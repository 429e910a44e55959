/-
  Which points a polynomial does not go through: the program's.
-/
import Derived.Test.YtmmmdidbnjcooaaDoorRobB
import Derived.Test.YtmmmdidbnjcooaaDoorLitB
namespace Go.Proofs.YtmmmdidbnjcooaaDoor
open Go.RowKit Go.Shelf

attribute [local go_sem] Oper.semAt_some

def offB (l m c : List Int) (q : Int) (i : Nat) : Bool := decide (mEval c (l.getD i 0) q ≠ m.getD i 0 % q)
def offK (l m c : List Int) (q : Int) (k : Nat) : List Nat := (List.range k).filter (offB l m c q)
/-- the points off. -/
def offL (l m c : List Int) (q : Int) : List Nat := offK l m c q l.length
theorem offK_succ (l m c : List Int) (q : Int) (k : Nat) : offK l m c q (k + 1) = offK l m c q k ++ if offB l m c q k then [k] else [] := by
  unfold offK
  rw [List.range_succ, List.filter_append]
  simp only [List.filter_cons, List.filter_nil]
theorem offK_len (l m c : List Int) (q : Int) (k : Nat) : (offK l m c q k).length ≤ k := by
  have := List.length_filter_le (offB l m c q) (List.range k)
  rw [List.length_range] at this
  exact this
abbrev natv (s : List Nat) : List Value := s.map fun (i : Nat) => Value.int .i64 (i : Int)
set_option maxRecDepth 100000 in
set_option maxHeartbeats 4000000 in
theorem roff_c (A B C : Option Addr) (l m cs : List Int) (c d e : Nat) (q : Int) (w : World) (hA : Cells w A (l.map (.int .u64))) (hB : Cells w B (m.map (.int .u64))) (hC : Cells w C (cs.map (.int .u64)))
    (_ : l.length ≤ 1000) (hlm : l.length = m.length) (hcl : cs.length ≤ 1000) (hu : U64s l) (hu' : U64s m) (hcu : U64s cs) (hq : U64 q) (hk : okm q = true) :
    Calls Tryd.prog 60 #[pts A B l.length m.length c d q, .slice C cs.length e] w fun x w' => ∃ v, x = .returned v ∧ Own w' w.heap.size 3 v (natv (offL l m cs q)) ∧ Below w.heap.size w w' := by
  have hb0 := below_alloc w (.cells (ptsL A B l.length m.length c d q).toArray 92)
  have hP := row1_new w (ptsL A B l.length m.length c d q) 92
  have hq0 := okm_pos hk
  have HA := hid hA
  have HB := hid hB
  have HC := hid hC
  have HLM := hid hlm
  clear hA hB hC hlm
  go_enter Tryd.func60, Tryd.ntmps60
  have cp := hP.cell (k := 0) rfl
  go_wp2
  simp only [List.toArray] at hb0 hP cp
  generalize w.alloc (.cells #[.slice A l.length c, .slice B m.length d, .int .u64 q] 92) = w1 at *
  have HP := hid hP
  have HB0 := hid hb0
  clear hP hb0 cp
  go_loopw [5, 11] (fun x i wr => ∃ k : Nat, i = .int .i64 (k : Int) ∧ k ≤ l.length ∧ Hid (Own wr w1.heap.size 3 x (natv (offK l m cs q k)) ∧ Below w1.heap.size w1 wr)) (fun _ i _ => l.length - (intOf i).toNat)
  case atStart => exact ⟨0, rfl, by omega, hid ⟨Own.nil _ _ _, Below.refl _ _⟩⟩
  case round =>
    obtain ⟨k, rfl, hk2, HI⟩ := hrel
    by_cases hlt : k < l.length
    · have hbw := below_next HB0.out HB0.out.size HI.out.2
      obtain ⟨z, hz⟩ := get_of_lt hlt
      obtain ⟨z', hz'⟩ := get_of_lt (l := m) (show k < m.length by have := HLM.out; omega)
      obtain ⟨b2, off2, rfl, cA⟩ := (HA.out.below hbw).at_map hz
      obtain ⟨b3, off3, rfl, cB⟩ := (HB.out.below hbw).at_map hz'
      have hCc := HC.out.below hbw
      have hP := HP.out.below HI.out.2
      have hX := HI.out.1
      have hbl := HI.out.2
      have huz := hu.at_ hz
      have huz' := hu'.at_ hz'
      have hk2' : (k : Int) < (m.length : Int) := by have := HLM.out; omega
      have hob : offB l m cs q k = decide (mEval cs z q ≠ z' % q) := by
        unfold offB
        rw [List.getD_eq_getElem?_getD, List.getD_eq_getElem?_getD, hz, hz']; rfl
      have HOB := hid hob
      have cp1 := hP.cell (k := 1) rfl
      have cp2 := hP.cell (k := 2) rfl
      have hw1r : w1.heap.size ≤ wr.heap.size := hbl.size
      have hfl := offK_len l m cs q k
      have hlX : (natv (offK l m cs q k)).length ≤ 1000 := by rw [List.length_map]; omega
      clear HI hz hz' hob
      obtain ⟨E, hE⟩ : ∃ E, mEval cs z q = E := ⟨_, rfl⟩
      have HE := hid hE
      clear hE
      by_cases hcmp : E = z' % q
      · have hne : (E != z' % q) = false := by simpa using hcmp
        have HCMP := hid hcmp
        clear hcmp
        go_upto_region 5 with (fail)
        refine Rgb.wp_region (l := [_, _, _, _, _, _, _, _, _, _, _, _, _]) (tail := [_]) (Rgb.grows _ 14) [some 16, some 17, some 18, some 19, some 20, some 21, some 22, some 23, some 24, some 25, some 26, some 27, some 28, some 29] 36 (by kernel_rfl) (by kernel_rfl) (by kernel_rfl) rfl (Rgb.grows_fair _ _) (Rgb.keep_drew _) (trivial) ?_
        refine' Rgb.op_is _ [] rfl rfl (by kernel_rfl) ?_ ?_
        rotate_left
        · intro wx hb
          refine Rgb.from_nil fun T hT => ?_
          go_wp2
          refine hT _ _ rfl (by first | exact Rgb.Keep.refl _ | exact below_of_dr hw2 | exact hw2 | exact (Below.refl _ _).alloc (Nat.le_refl _) _) ?_
          simp only [Rgb.last, List.getElem?_toArray, List.getElem?_cons_succ, List.getElem?_cons_zero, Option.getD_some]
          rfl
        refine' Rgb.op_is _ [] rfl rfl (by kernel_rfl) ?_ ?_
        rotate_left
        · intro wx hb
          refine Rgb.from_nil fun T hT => ?_
          go_wp2
          refine hT _ _ rfl (by first | exact Rgb.Keep.refl _ | exact below_of_dr hw2 | exact hw2 | exact (Below.refl _ _).alloc (Nat.le_refl _) _) ?_
          simp only [Rgb.last, List.getElem?_toArray, List.getElem?_cons_succ, List.getElem?_cons_zero, Option.getD_some]
          rfl
        refine' Rgb.op_is _ [] rfl rfl (by kernel_rfl) ?_ ?_
        rotate_left
        · intro wx hb
          refine Rgb.from_nil fun T hT => ?_
          go_wp2
          refine hT _ _ rfl (by first | exact Rgb.Keep.refl _ | exact below_of_dr hw2 | exact hw2 | exact (Below.refl _ _).alloc (Nat.le_refl _) _) ?_
          simp only [Rgb.last, List.getElem?_toArray, List.getElem?_cons_succ, List.getElem?_cons_zero, Option.getD_some]
          rfl
        refine Rgb.op_is (.int .u64 q) [2] rfl rfl (by kernel_rfl) ?_ ?_
        · intro wx hb
          refine Rgb.from_is (some 18) rfl rfl ?_
          refine Rgb.from_nil fun T hT => ?_
          have g1 := (hb.cell (lt_of_cell cp2)).trans cp2
          go_wp2
          exact hT _ _ rfl (by first | exact Rgb.Keep.refl _ | exact below_of_dr hw2 | exact hw2 | exact (Below.refl _ _).alloc (Nat.le_refl _) _) (by first | rfl | exact congrArg _ (by decide))
        refine Rgb.op_is (.int .u64 E) [0, 1, 3] rfl rfl (by kernel_rfl) ?_ ?_
        · intro wx hb
          refine Rgb.from_is (some 16) rfl rfl ?_
          refine Rgb.from_is (some 17) rfl rfl ?_
          refine Rgb.from_is (some 19) rfl rfl ?_
          refine Rgb.from_nil fun T hT => ?_
          have hcs2 := hCc.keep fun p hp => hb.cell hp
          go_wp2_with (fail)
          refine (eval_c _ _ _ _ _ _ hcs2 (by omega) hcu huz hq).mono ?_
          rintro e w5 ⟨rfl, hw5⟩
          rw [HE.out]
          go_wp2
          exact hT _ _ rfl (below_of_dr hw5) rfl
        refine' Rgb.op_is _ [] rfl rfl (by kernel_rfl) ?_ ?_
        rotate_left
        · intro wx hb
          refine Rgb.from_nil fun T hT => ?_
          go_wp2
          refine hT _ _ rfl (by first | exact Rgb.Keep.refl _ | exact below_of_dr hw2 | exact hw2 | exact (Below.refl _ _).alloc (Nat.le_refl _) _) ?_
          simp only [Rgb.last, List.getElem?_toArray, List.getElem?_cons_succ, List.getElem?_cons_zero, Option.getD_some]
          rfl
        refine Rgb.op_is (.slice (some ⟨b3, off3, none⟩) m.length d) [5] rfl rfl (by kernel_rfl) ?_ ?_
        · intro wx hb
          refine Rgb.from_is (some 21) rfl rfl ?_
          refine Rgb.from_nil fun T hT => ?_
          have g1 := (hb.cell (lt_of_cell cp1)).trans cp1
          go_wp2
          exact hT _ _ rfl (by first | exact Rgb.Keep.refl _ | exact below_of_dr hw2 | exact hw2 | exact (Below.refl _ _).alloc (Nat.le_refl _) _) (by first | rfl | exact congrArg _ (by decide))
        refine' Rgb.op_is _ [] rfl rfl (by kernel_rfl) ?_ ?_
        rotate_left
        · intro wx hb
          refine Rgb.from_nil fun T hT => ?_
          go_wp2
          refine hT _ _ rfl (by first | exact Rgb.Keep.refl _ | exact below_of_dr hw2 | exact hw2 | exact (Below.refl _ _).alloc (Nat.le_refl _) _) ?_
          simp only [Rgb.last, List.getElem?_toArray, List.getElem?_cons_succ, List.getElem?_cons_zero, Option.getD_some]
          rfl
        refine Rgb.op_is (.pointer (some ⟨b3, off3 + k, none⟩)) [6, 7] rfl rfl (by kernel_rfl) ?_ ?_
        · intro wx hb
          refine Rgb.from_is (some 22) rfl rfl ?_
          refine Rgb.from_is (some 23) rfl rfl ?_
          refine Rgb.from_nil fun T hT => ?_
          go_wp2
          exact hT _ _ rfl (by first | exact Rgb.Keep.refl _ | exact below_of_dr hw2 | exact hw2 | exact (Below.refl _ _).alloc (Nat.le_refl _) _) (by first | rfl | exact congrArg _ (by decide))
        refine Rgb.op_is (.int .u64 z') [8] rfl rfl (by kernel_rfl) ?_ ?_
        · intro wx hb
          refine Rgb.from_is (some 24) rfl rfl ?_
          refine Rgb.from_nil fun T hT => ?_
          have g1 := (hb.cell (lt_of_cell cB)).trans cB
          go_wp2
          exact hT _ _ rfl (by first | exact Rgb.Keep.refl _ | exact below_of_dr hw2 | exact hw2 | exact (Below.refl _ _).alloc (Nat.le_refl _) _) (by first | rfl | exact congrArg _ (by decide))
        refine' Rgb.op_is _ [] rfl rfl (by kernel_rfl) ?_ ?_
        rotate_left
        · intro wx hb
          refine Rgb.from_nil fun T hT => ?_
          go_wp2
          refine hT _ _ rfl (by first | exact Rgb.Keep.refl _ | exact below_of_dr hw2 | exact hw2 | exact (Below.refl _ _).alloc (Nat.le_refl _) _) ?_
          simp only [Rgb.last, List.getElem?_toArray, List.getElem?_cons_succ, List.getElem?_cons_zero, Option.getD_some]
          rfl
        refine Rgb.op_is (.int .u64 q) [10] rfl rfl (by kernel_rfl) ?_ ?_
        · intro wx hb
          refine Rgb.from_is (some 26) rfl rfl ?_
          refine Rgb.from_nil fun T hT => ?_
          have g1 := (hb.cell (lt_of_cell cp2)).trans cp2
          go_wp2
          exact hT _ _ rfl (by first | exact Rgb.Keep.refl _ | exact below_of_dr hw2 | exact hw2 | exact (Below.refl _ _).alloc (Nat.le_refl _) _) (by first | rfl | exact congrArg _ (by decide))
        refine Rgb.op_is (.int .u64 (z' % q)) [9, 11] rfl rfl (by kernel_rfl) ?_ ?_
        · intro wx hb
          refine Rgb.from_is (some 25) rfl rfl ?_
          refine Rgb.from_is (some 27) rfl rfl ?_
          refine Rgb.from_nil fun T hT => ?_
          have h0 := huz'.lo
          have h1 : (q == 0) = false := by simp; omega
          have h2 := Int.tmod_eq_emod_of_nonneg (b := q) h0
          go_wp2
          exact hT _ _ rfl (by first | exact Rgb.Keep.refl _ | exact below_of_dr hw2 | exact hw2 | exact (Below.refl _ _).alloc (Nat.le_refl _) _) (by first | rfl | exact congrArg _ (by decide))
        refine Rgb.walk_nil [0, 1, 2, 3, 4, 5, 6, 7, 8, 9, 10, 11, 12] (by kernel_rfl) ?_
        intro wx hb
        refine Rgb.from_is (some 16) rfl rfl ?_
        refine Rgb.from_is (some 17) rfl rfl ?_
        refine Rgb.from_is (some 18) rfl rfl ?_
        refine Rgb.from_is (some 19) rfl rfl ?_
        refine Rgb.from_is (some 20) rfl rfl ?_
        refine Rgb.from_is (some 21) rfl rfl ?_
        refine Rgb.from_is (some 22) rfl rfl ?_
        refine Rgb.from_is (some 23) rfl rfl ?_
        refine Rgb.from_is (some 24) rfl rfl ?_
        refine Rgb.from_is (some 25) rfl rfl ?_
        refine Rgb.from_is (some 26) rfl rfl ?_
        refine Rgb.from_is (some 27) rfl rfl ?_
        refine Rgb.from_is (some 28) rfl rfl ?_
        refine Rgb.from_nil ?_
        simp only [List.map, Act.put, List.setIfInBounds_toArray, List.set_cons_zero, List.set_cons_succ]
        have HN := hid (show Own wx w1.heap.size 3 u5 (natv (offK l m cs q (k + 1))) ∧ Below w1.heap.size w1 wx by
          have h0 : offB l m cs q k = false := by rw [HOB.out, HE.out]; simpa using HCMP.out
          rw [offK_succ, h0]
          simp only [Bool.false_eq_true, if_false, List.append_nil]
          exact ⟨hX.below hb, below_next hbl hbl.size hb⟩)
        clear hX hbl hb hP hCc
        go_wp2
        go_roundw
        case rel => exact ⟨k + 1, by go_num, by omega, HN⟩
        case measure => simp [intOf]; omega
      · have hne : (E != z' % q) = true := by simpa using hcmp
        go_upto_region 5 with (fail)
        refine Rgb.wp_region (l := [_, _, _, _, _, _, _, _, _, _, _, _, _]) (tail := [_]) (Rgb.grows _ 14) [some 16, some 17, some 18, some 19, some 20, some 21, some 22, some 23, some 24, some 25, some 26, some 27, some 28, some 29] 36 (by kernel_rfl) (by kernel_rfl) (by kernel_rfl) rfl (Rgb.grows_fair _ _) (Rgb.keep_drew _) (trivial) ?_
        refine' Rgb.op_is _ [] rfl rfl (by kernel_rfl) ?_ ?_
        rotate_left
        · intro wx hb
          refine Rgb.from_nil fun T hT => ?_
          go_wp2
          refine hT _ _ rfl (by first | exact Rgb.Keep.refl _ | exact below_of_dr hw2 | exact hw2 | exact (Below.refl _ _).alloc (Nat.le_refl _) _) ?_
          simp only [Rgb.last, List.getElem?_toArray, List.getElem?_cons_succ, List.getElem?_cons_zero, Option.getD_some]
          rfl
        refine' Rgb.op_is _ [] rfl rfl (by kernel_rfl) ?_ ?_
        rotate_left
        · intro wx hb
          refine Rgb.from_nil fun T hT => ?_
          go_wp2
          refine hT _ _ rfl (by first | exact Rgb.Keep.refl _ | exact below_of_dr hw2 | exact hw2 | exact (Below.refl _ _).alloc (Nat.le_refl _) _) ?_
          simp only [Rgb.last, List.getElem?_toArray, List.getElem?_cons_succ, List.getElem?_cons_zero, Option.getD_some]
          rfl
        refine' Rgb.op_is _ [] rfl rfl (by kernel_rfl) ?_ ?_
        rotate_left
        · intro wx hb
          refine Rgb.from_nil fun T hT => ?_
          go_wp2
          refine hT _ _ rfl (by first | exact Rgb.Keep.refl _ | exact below_of_dr hw2 | exact hw2 | exact (Below.refl _ _).alloc (Nat.le_refl _) _) ?_
          simp only [Rgb.last, List.getElem?_toArray, List.getElem?_cons_succ, List.getElem?_cons_zero, Option.getD_some]
          rfl
        refine Rgb.op_is (.int .u64 q) [2] rfl rfl (by kernel_rfl) ?_ ?_
        · intro wx hb
          refine Rgb.from_is (some 18) rfl rfl ?_
          refine Rgb.from_nil fun T hT => ?_
          have g1 := (hb.cell (lt_of_cell cp2)).trans cp2
          go_wp2
          exact hT _ _ rfl (by first | exact Rgb.Keep.refl _ | exact below_of_dr hw2 | exact hw2 | exact (Below.refl _ _).alloc (Nat.le_refl _) _) (by first | rfl | exact congrArg _ (by decide))
        refine Rgb.op_is (.int .u64 E) [0, 1, 3] rfl rfl (by kernel_rfl) ?_ ?_
        · intro wx hb
          refine Rgb.from_is (some 16) rfl rfl ?_
          refine Rgb.from_is (some 17) rfl rfl ?_
          refine Rgb.from_is (some 19) rfl rfl ?_
          refine Rgb.from_nil fun T hT => ?_
          have hcs2 := hCc.keep fun p hp => hb.cell hp
          go_wp2_with (fail)
          refine (eval_c _ _ _ _ _ _ hcs2 (by omega) hcu huz hq).mono ?_
          rintro e w5 ⟨rfl, hw5⟩
          rw [HE.out]
          go_wp2
          exact hT _ _ rfl (below_of_dr hw5) rfl
        refine' Rgb.op_is _ [] rfl rfl (by kernel_rfl) ?_ ?_
        rotate_left
        · intro wx hb
          refine Rgb.from_nil fun T hT => ?_
          go_wp2
          refine hT _ _ rfl (by first | exact Rgb.Keep.refl _ | exact below_of_dr hw2 | exact hw2 | exact (Below.refl _ _).alloc (Nat.le_refl _) _) ?_
          simp only [Rgb.last, List.getElem?_toArray, List.getElem?_cons_succ, List.getElem?_cons_zero, Option.getD_some]
          rfl
        refine Rgb.op_is (.slice (some ⟨b3, off3, none⟩) m.length d) [5] rfl rfl (by kernel_rfl) ?_ ?_
        · intro wx hb
          refine Rgb.from_is (some 21) rfl rfl ?_
          refine Rgb.from_nil fun T hT => ?_
          have g1 := (hb.cell (lt_of_cell cp1)).trans cp1
          go_wp2
          exact hT _ _ rfl (by first | exact Rgb.Keep.refl _ | exact below_of_dr hw2 | exact hw2 | exact (Below.refl _ _).alloc (Nat.le_refl _) _) (by first | rfl | exact congrArg _ (by decide))
        refine' Rgb.op_is _ [] rfl rfl (by kernel_rfl) ?_ ?_
        rotate_left
        · intro wx hb
          refine Rgb.from_nil fun T hT => ?_
          go_wp2
          refine hT _ _ rfl (by first | exact Rgb.Keep.refl _ | exact below_of_dr hw2 | exact hw2 | exact (Below.refl _ _).alloc (Nat.le_refl _) _) ?_
          simp only [Rgb.last, List.getElem?_toArray, List.getElem?_cons_succ, List.getElem?_cons_zero, Option.getD_some]
          rfl
        refine Rgb.op_is (.pointer (some ⟨b3, off3 + k, none⟩)) [6, 7] rfl rfl (by kernel_rfl) ?_ ?_
        · intro wx hb
          refine Rgb.from_is (some 22) rfl rfl ?_
          refine Rgb.from_is (some 23) rfl rfl ?_
          refine Rgb.from_nil fun T hT => ?_
          go_wp2
          exact hT _ _ rfl (by first | exact Rgb.Keep.refl _ | exact below_of_dr hw2 | exact hw2 | exact (Below.refl _ _).alloc (Nat.le_refl _) _) (by first | rfl | exact congrArg _ (by decide))
        refine Rgb.op_is (.int .u64 z') [8] rfl rfl (by kernel_rfl) ?_ ?_
        · intro wx hb
          refine Rgb.from_is (some 24) rfl rfl ?_
          refine Rgb.from_nil fun T hT => ?_
          have g1 := (hb.cell (lt_of_cell cB)).trans cB
          go_wp2
          exact hT _ _ rfl (by first | exact Rgb.Keep.refl _ | exact below_of_dr hw2 | exact hw2 | exact (Below.refl _ _).alloc (Nat.le_refl _) _) (by first | rfl | exact congrArg _ (by decide))
        refine' Rgb.op_is _ [] rfl rfl (by kernel_rfl) ?_ ?_
        rotate_left
        · intro wx hb
          refine Rgb.from_nil fun T hT => ?_
          go_wp2
          refine hT _ _ rfl (by first | exact Rgb.Keep.refl _ | exact below_of_dr hw2 | exact hw2 | exact (Below.refl _ _).alloc (Nat.le_refl _) _) ?_
          simp only [Rgb.last, List.getElem?_toArray, List.getElem?_cons_succ, List.getElem?_cons_zero, Option.getD_some]
          rfl
        refine Rgb.op_is (.int .u64 q) [10] rfl rfl (by kernel_rfl) ?_ ?_
        · intro wx hb
          refine Rgb.from_is (some 26) rfl rfl ?_
          refine Rgb.from_nil fun T hT => ?_
          have g1 := (hb.cell (lt_of_cell cp2)).trans cp2
          go_wp2
          exact hT _ _ rfl (by first | exact Rgb.Keep.refl _ | exact below_of_dr hw2 | exact hw2 | exact (Below.refl _ _).alloc (Nat.le_refl _) _) (by first | rfl | exact congrArg _ (by decide))
        refine Rgb.op_is (.int .u64 (z' % q)) [9, 11] rfl rfl (by kernel_rfl) ?_ ?_
        · intro wx hb
          refine Rgb.from_is (some 25) rfl rfl ?_
          refine Rgb.from_is (some 27) rfl rfl ?_
          refine Rgb.from_nil fun T hT => ?_
          have h0 := huz'.lo
          have h1 : (q == 0) = false := by simp; omega
          have h2 := Int.tmod_eq_emod_of_nonneg (b := q) h0
          go_wp2
          exact hT _ _ rfl (by first | exact Rgb.Keep.refl _ | exact below_of_dr hw2 | exact hw2 | exact (Below.refl _ _).alloc (Nat.le_refl _) _) (by first | rfl | exact congrArg _ (by decide))
        refine Rgb.walk_nil [0, 1, 2, 3, 4, 5, 6, 7, 8, 9, 10, 11, 12] (by kernel_rfl) ?_
        intro wx hb
        refine Rgb.from_is (some 16) rfl rfl ?_
        refine Rgb.from_is (some 17) rfl rfl ?_
        refine Rgb.from_is (some 18) rfl rfl ?_
        refine Rgb.from_is (some 19) rfl rfl ?_
        refine Rgb.from_is (some 20) rfl rfl ?_
        refine Rgb.from_is (some 21) rfl rfl ?_
        refine Rgb.from_is (some 22) rfl rfl ?_
        refine Rgb.from_is (some 23) rfl rfl ?_
        refine Rgb.from_is (some 24) rfl rfl ?_
        refine Rgb.from_is (some 25) rfl rfl ?_
        refine Rgb.from_is (some 26) rfl rfl ?_
        refine Rgb.from_is (some 27) rfl rfl ?_
        refine Rgb.from_is (some 28) rfl rfl ?_
        refine Rgb.from_nil ?_
        simp only [List.map, Act.put, List.setIfInBounds_toArray, List.set_cons_zero, List.set_cons_succ]
        have hX5 := hX.below hb
        have hbl5 := below_next hbl hbl.size hb
        have hB := Bun.nil wx
        obtain ⟨A5, c5, e5, _⟩ := hX5.form
        subst e5
        clear hX hbl hP hCc
        have hsz := hbl5.size
        go_wp2_with (first | (refine wpList_named hB rfl ?_; clear hB; intro wn gn hB hbn hg; (try rw [hg]); clear hg; replace hX5 := hX5.below hbn; clear hbn) | (at_builtin; refine wpList_push_at elt_int _ rfl _ _ rfl w1.heap.size hX5 rfl (.int .i64 (k : Int)) _ rfl (hB.row (i := 0) rfl) rfl (by rw [List.length_map]; omega) (by rw [List.length_map]; omega) (Nat.le_trans hsz hB.b.size) ?_; intro v7 w7 ho7 hg7 _))
        have HN := hid (show Own w7 w1.heap.size 3 v7 (natv (offK l m cs q (k + 1))) ∧ Below w1.heap.size w1 w7 by
          have h0 : offB l m cs q k = true := by rw [HOB.out, HE.out]; simpa using hcmp
          rw [offK_succ, h0]
          simp only [if_true]
          rw [natv, List.map_append]
          exact ⟨ho7, (below_next hbl5 hsz hB.b).grown hg7 (Nat.le_trans hsz hB.b.size) fun g e => (hX5.block g e).1⟩)
        clear hX5 ho7 hg7 hB hbl5 hb
        go_roundw
        case rel => exact ⟨k + 1, by go_num, by omega, HN⟩
        case measure => simp [intOf]; omega
    · obtain rfl : k = l.length := by omega
      go_wp2
      go_ret
      exact ⟨_, rfl, HI.out.1.from_ (HB0.out.size), below_next HB0.out HB0.out.size HI.out.2⟩
end Go.Proofs.YtmmmdidbnjcooaaDoor
