/-
  Parts of these texts that the statement needs: BvE, OpenT, ArgR, Card, BvF, BvG, More.
-/
import Derived.Test.YtcojnjhffmhbiaaDoorBivQ7
import Derived.Test.YtcojnjhffmhbiaaDoorBivQ4
import Derived.Test.YtcojnjhffmhbiaaDoorBivQ1
import Derived.Carry
import Derived.Deep.Matrix
import Derived.Deep.Fields
import Derived.Deep.Slices
import Derived.Test.YtcojnjhffmhbiaaDoorRows
import Derived.Test.YtcojnjhffmhbiaaDoorCards
import Derived.Test.YtcojnjhffmhbiaaDoorTie
import Derived.ProofKit
import Derived.LaidMore
import Derived.LaidHandle
import Derived.OpenShut
import Derived.Stop.Joined
import Derived.Stop.LaidErr
import Derived.Lib.LaidTab
import Derived.SevenTiedAt

section
namespace Go.Proofs.YtcojnjhffmhbiaaDoor
open Go Go.RowKit Go.Maps Go.Shelf Go.Proofs
theorem two_take {xs : List Int} {q : Int} {k : Nat} {x : Int} (h : xs[k]? = some x) (h1 : Two (xs.take k) q) (h2 : ∀ z ∈ xs.take k, z % q ≠ x % q) : Two (xs.take (k + 1)) q := by
  rw [take_snocR h]
  refine List.pairwise_append.2 ⟨h1, List.pairwise_singleton .., fun a ha b hb => ?_⟩
  rw [List.mem_singleton.1 hb]
  exact h2 a ha
theorem mem_takeN {α : Type} {l : List α} {k : Nat} {x : α} {P : α → Prop} (hx : l[k]? = some x) (h : ∀ u ∈ l.take k, P u) (h2 : P x) : ∀ u ∈ l.take (k + 1), P u := by
  rw [take_snocR hx]
  intro u hu
  rcases List.mem_append.1 hu with hu | hu
  · exact h u hu
  · rw [List.mem_singleton.1 hu]; exact h2
set_option maxRecDepth 100000 in
set_option maxHeartbeats 4000000 in
theorem apart06_c (A : Option Addr) (xs : List Int) (ca : Nat) (q : Int) (w : World) (hA : Cells w A (u64v xs)) (hl : xs.length ≤ 9223372036854775807) (hu : U64s xs) (_hq : U64 q) (hq0 : 0 < q) :
    Calls Tryd.prog 46 #[.slice A xs.length ca, .int .u64 q] w fun e w' => (∃ b, e = .returned (.bool b) ∧ (b = true → Two xs q)) ∧ Below w.heap.size w w' := by
  go_enter Tryd.func46, Tryd.ntmps46
  go_wp2
  go_loopw [5, 6] (fun i _ wr => ∃ k : Nat, i = .int .i64 k ∧ k ≤ xs.length ∧ Hid (Two (xs.take k) q) ∧ Below w.heap.size w wr) (fun i _ _ => xs.length - (intOf i).toNat)
  case atStart => exact ⟨0, rfl, by omega, hid (by simp [Two]), Below.refl _ _⟩
  case round =>
    obtain ⟨k, rfl, hk, HI, hw⟩ := hrel
    by_cases hlt : k < xs.length
    · obtain ⟨x, hx⟩ := get_of_lt hlt
      have hxt := tmodR (q := q) (hu x (List.mem_of_getElem? hx))
      go_wp2
      generalize wr = wo at *
      go_loopw [6] (fun j w4 => ∃ m : Nat, j = .int .i64 m ∧ m ≤ k ∧ Hid (∀ z ∈ xs.take m, z % q ≠ x % q) ∧ Below wo.heap.size wo w4) (fun j _ => k - (intOf j).toNat)
      case atStart => exact ⟨0, rfl, by omega, hid (fun z hz => by simp at hz), Below.refl _ _⟩
      case round =>
        obtain ⟨m, rfl, hm, HJ, hd⟩ := hrel
        by_cases hlt2 : m < k
        · obtain ⟨z, hz⟩ := get_of_lt (l := xs) (show m < xs.length by omega)
          have hzt := tmodR (q := q) (hu z (List.mem_of_getElem? hz))
          obtain ⟨b, off, e1, hcx⟩ := ((hA.below hw).below hd).at_map hx
          obtain ⟨b2, off2, e2, hcz⟩ := ((hA.below hw).below hd).at_map hz
          have e3 := e1.symm.trans e2
          simp only [Option.some.injEq, Addr.mk.injEq, and_true] at e3
          obtain ⟨rfl, rfl⟩ := e3
          subst e1
          have HZ := hid hz
          by_cases he : x % q = z % q
          · have HE := hid he
            clear he
            go_wp2
            refine Rg.wp_region (l := [_, _, _, _, _, _, _, _, _, _, _, _]) (tail := [_]) (Rg.grows _ 13) [some 18, some 19, some 20, some 21, some 22, some 23, some 24, some 25, some 26, some 27, some 28, some 29, some 30] 31 (by kernel_rfl) (by kernel_rfl) (by kernel_rfl) rfl (Rg.grows_fair _ _) (Rg.keep_drew _) (trivial) ?_
            refine' Rg.op_is _ [] rfl rfl (by kernel_rfl) ?_ ?_
            rotate_left
            · intro wx hb
              refine Rg.from_nil fun T hT => ?_
              go_wp2
              refine hT _ _ rfl (by first | exact Rg.Keep.refl _ | exact below_of_dr hw2 | exact hw2 | exact (Below.refl _ _).alloc (Nat.le_refl _) _) ?_
              simp only [Rg.last, List.getElem?_toArray, List.getElem?_cons_succ, List.getElem?_cons_zero, Option.getD_some]
              rfl
            refine' Rg.op_is _ [] rfl rfl (by kernel_rfl) ?_ ?_
            rotate_left
            · intro wx hb
              refine Rg.from_nil fun T hT => ?_
              go_wp2
              refine hT _ _ rfl (by first | exact Rg.Keep.refl _ | exact below_of_dr hw2 | exact hw2 | exact (Below.refl _ _).alloc (Nat.le_refl _) _) ?_
              simp only [Rg.last, List.getElem?_toArray, List.getElem?_cons_succ, List.getElem?_cons_zero, Option.getD_some]
              rfl
            refine' Rg.op_is _ [0, 1] rfl rfl (by kernel_rfl) ?_ ?_
            rotate_left
            · intro wx hb
              refine Rg.from_is (some 18) rfl rfl ?_
              refine Rg.from_is (some 19) rfl rfl ?_
              refine Rg.from_nil fun T hT => ?_
              go_wp2
              refine hT _ _ rfl (by first | exact Rg.Keep.refl _ | exact below_of_dr hw2 | exact hw2 | exact (Below.refl _ _).alloc (Nat.le_refl _) _) ?_
              simp only [Rg.last, List.getElem?_toArray, List.getElem?_cons_succ, List.getElem?_cons_zero, Option.getD_some]
              rfl
            refine Rg.op_is (.int .u64 x) [2] rfl rfl (by kernel_rfl) ?_ ?_
            · intro wx hb
              refine Rg.from_is (some 20) rfl rfl ?_
              refine Rg.from_nil fun T hT => ?_
              have hcx2 := (hb.cell (lt_of_cell hcx)).trans hcx
              go_wp2
              exact hT _ _ rfl (by first | exact Rg.Keep.refl _ | exact below_of_dr hw2 | exact hw2 | exact (Below.refl _ _).alloc (Nat.le_refl _) _) (by first | rfl | exact congrArg _ (by decide))
            refine' Rg.op_is _ [] rfl rfl (by kernel_rfl) ?_ ?_
            rotate_left
            · intro wx hb
              refine Rg.from_nil fun T hT => ?_
              go_wp2
              refine hT _ _ rfl (by first | exact Rg.Keep.refl _ | exact below_of_dr hw2 | exact hw2 | exact (Below.refl _ _).alloc (Nat.le_refl _) _) ?_
              simp only [Rg.last, List.getElem?_toArray, List.getElem?_cons_succ, List.getElem?_cons_zero, Option.getD_some]
              rfl
            refine Rg.op_is (.int .u64 (x % q)) [3, 4] rfl rfl (by kernel_rfl) ?_ ?_
            · intro wx hb
              refine Rg.from_is (some 21) rfl rfl ?_
              refine Rg.from_is (some 22) rfl rfl ?_
              refine Rg.from_nil fun T hT => ?_
              go_wp2
              exact hT _ _ rfl (by first | exact Rg.Keep.refl _ | exact below_of_dr hw2 | exact hw2 | exact (Below.refl _ _).alloc (Nat.le_refl _) _) (by first | rfl | exact congrArg _ (by decide))
            refine' Rg.op_is _ [] rfl rfl (by kernel_rfl) ?_ ?_
            rotate_left
            · intro wx hb
              refine Rg.from_nil fun T hT => ?_
              go_wp2
              refine hT _ _ rfl (by first | exact Rg.Keep.refl _ | exact below_of_dr hw2 | exact hw2 | exact (Below.refl _ _).alloc (Nat.le_refl _) _) ?_
              simp only [Rg.last, List.getElem?_toArray, List.getElem?_cons_succ, List.getElem?_cons_zero, Option.getD_some]
              rfl
            refine' Rg.op_is _ [] rfl rfl (by kernel_rfl) ?_ ?_
            rotate_left
            · intro wx hb
              refine Rg.from_nil fun T hT => ?_
              go_wp2
              refine hT _ _ rfl (by first | exact Rg.Keep.refl _ | exact below_of_dr hw2 | exact hw2 | exact (Below.refl _ _).alloc (Nat.le_refl _) _) ?_
              simp only [Rg.last, List.getElem?_toArray, List.getElem?_cons_succ, List.getElem?_cons_zero, Option.getD_some]
              rfl
            refine' Rg.op_is _ [6, 7] rfl rfl (by kernel_rfl) ?_ ?_
            rotate_left
            · intro wx hb
              refine Rg.from_is (some 24) rfl rfl ?_
              refine Rg.from_is (some 25) rfl rfl ?_
              refine Rg.from_nil fun T hT => ?_
              go_wp2
              refine hT _ _ rfl (by first | exact Rg.Keep.refl _ | exact below_of_dr hw2 | exact hw2 | exact (Below.refl _ _).alloc (Nat.le_refl _) _) ?_
              simp only [Rg.last, List.getElem?_toArray, List.getElem?_cons_succ, List.getElem?_cons_zero, Option.getD_some]
              rfl
            refine Rg.op_is (.int .u64 z) [8] rfl rfl (by kernel_rfl) ?_ ?_
            · intro wx hb
              refine Rg.from_is (some 26) rfl rfl ?_
              refine Rg.from_nil fun T hT => ?_
              have hcz2 := (hb.cell (lt_of_cell hcz)).trans hcz
              go_wp2
              exact hT _ _ rfl (by first | exact Rg.Keep.refl _ | exact below_of_dr hw2 | exact hw2 | exact (Below.refl _ _).alloc (Nat.le_refl _) _) (by first | rfl | exact congrArg _ (by decide))
            refine' Rg.op_is _ [] rfl rfl (by kernel_rfl) ?_ ?_
            rotate_left
            · intro wx hb
              refine Rg.from_nil fun T hT => ?_
              go_wp2
              refine hT _ _ rfl (by first | exact Rg.Keep.refl _ | exact below_of_dr hw2 | exact hw2 | exact (Below.refl _ _).alloc (Nat.le_refl _) _) ?_
              simp only [Rg.last, List.getElem?_toArray, List.getElem?_cons_succ, List.getElem?_cons_zero, Option.getD_some]
              rfl
            refine Rg.op_is (.int .u64 (z % q)) [9, 10] rfl rfl (by kernel_rfl) ?_ ?_
            · intro wx hb
              refine Rg.from_is (some 27) rfl rfl ?_
              refine Rg.from_is (some 28) rfl rfl ?_
              refine Rg.from_nil fun T hT => ?_
              go_wp2
              exact hT _ _ rfl (by first | exact Rg.Keep.refl _ | exact below_of_dr hw2 | exact hw2 | exact (Below.refl _ _).alloc (Nat.le_refl _) _) (by first | rfl | exact congrArg _ (by decide))
            refine Rg.walk_nil [0, 1, 2, 3, 4, 5, 6, 7, 8, 9, 10, 11] (by kernel_rfl) ?_
            intro wx hb
            refine Rg.from_is (some 18) rfl rfl ?_
            refine Rg.from_is (some 19) rfl rfl ?_
            refine Rg.from_is (some 20) rfl rfl ?_
            refine Rg.from_is (some 21) rfl rfl ?_
            refine Rg.from_is (some 22) rfl rfl ?_
            refine Rg.from_is (some 23) rfl rfl ?_
            refine Rg.from_is (some 24) rfl rfl ?_
            refine Rg.from_is (some 25) rfl rfl ?_
            refine Rg.from_is (some 26) rfl rfl ?_
            refine Rg.from_is (some 27) rfl rfl ?_
            refine Rg.from_is (some 28) rfl rfl ?_
            refine Rg.from_is (some 29) rfl rfl ?_
            refine Rg.from_nil ?_
            simp only [List.map, Act.put, List.setIfInBounds_toArray, List.set_cons_zero, List.set_cons_succ]
            have he := HE.out
            go_wp2
            go_ret
            exact ⟨⟨false, rfl, fun h => by cases h⟩, below_next hw hw.size (below_next hd hd.size hb)⟩
          · have HE := hid he
            clear he
            go_wp2
            refine Rg.wp_region (l := [_, _, _, _, _, _, _, _, _, _, _, _]) (tail := [_]) (Rg.grows _ 13) [some 18, some 19, some 20, some 21, some 22, some 23, some 24, some 25, some 26, some 27, some 28, some 29, some 30] 31 (by kernel_rfl) (by kernel_rfl) (by kernel_rfl) rfl (Rg.grows_fair _ _) (Rg.keep_drew _) (trivial) ?_
            refine' Rg.op_is _ [] rfl rfl (by kernel_rfl) ?_ ?_
            rotate_left
            · intro wx hb
              refine Rg.from_nil fun T hT => ?_
              go_wp2
              refine hT _ _ rfl (by first | exact Rg.Keep.refl _ | exact below_of_dr hw2 | exact hw2 | exact (Below.refl _ _).alloc (Nat.le_refl _) _) ?_
              simp only [Rg.last, List.getElem?_toArray, List.getElem?_cons_succ, List.getElem?_cons_zero, Option.getD_some]
              rfl
            refine' Rg.op_is _ [] rfl rfl (by kernel_rfl) ?_ ?_
            rotate_left
            · intro wx hb
              refine Rg.from_nil fun T hT => ?_
              go_wp2
              refine hT _ _ rfl (by first | exact Rg.Keep.refl _ | exact below_of_dr hw2 | exact hw2 | exact (Below.refl _ _).alloc (Nat.le_refl _) _) ?_
              simp only [Rg.last, List.getElem?_toArray, List.getElem?_cons_succ, List.getElem?_cons_zero, Option.getD_some]
              rfl
            refine' Rg.op_is _ [0, 1] rfl rfl (by kernel_rfl) ?_ ?_
            rotate_left
            · intro wx hb
              refine Rg.from_is (some 18) rfl rfl ?_
              refine Rg.from_is (some 19) rfl rfl ?_
              refine Rg.from_nil fun T hT => ?_
              go_wp2
              refine hT _ _ rfl (by first | exact Rg.Keep.refl _ | exact below_of_dr hw2 | exact hw2 | exact (Below.refl _ _).alloc (Nat.le_refl _) _) ?_
              simp only [Rg.last, List.getElem?_toArray, List.getElem?_cons_succ, List.getElem?_cons_zero, Option.getD_some]
              rfl
            refine Rg.op_is (.int .u64 x) [2] rfl rfl (by kernel_rfl) ?_ ?_
            · intro wx hb
              refine Rg.from_is (some 20) rfl rfl ?_
              refine Rg.from_nil fun T hT => ?_
              have hcx2 := (hb.cell (lt_of_cell hcx)).trans hcx
              go_wp2
              exact hT _ _ rfl (by first | exact Rg.Keep.refl _ | exact below_of_dr hw2 | exact hw2 | exact (Below.refl _ _).alloc (Nat.le_refl _) _) (by first | rfl | exact congrArg _ (by decide))
            refine' Rg.op_is _ [] rfl rfl (by kernel_rfl) ?_ ?_
            rotate_left
            · intro wx hb
              refine Rg.from_nil fun T hT => ?_
              go_wp2
              refine hT _ _ rfl (by first | exact Rg.Keep.refl _ | exact below_of_dr hw2 | exact hw2 | exact (Below.refl _ _).alloc (Nat.le_refl _) _) ?_
              simp only [Rg.last, List.getElem?_toArray, List.getElem?_cons_succ, List.getElem?_cons_zero, Option.getD_some]
              rfl
            refine Rg.op_is (.int .u64 (x % q)) [3, 4] rfl rfl (by kernel_rfl) ?_ ?_
            · intro wx hb
              refine Rg.from_is (some 21) rfl rfl ?_
              refine Rg.from_is (some 22) rfl rfl ?_
              refine Rg.from_nil fun T hT => ?_
              go_wp2
              exact hT _ _ rfl (by first | exact Rg.Keep.refl _ | exact below_of_dr hw2 | exact hw2 | exact (Below.refl _ _).alloc (Nat.le_refl _) _) (by first | rfl | exact congrArg _ (by decide))
            refine' Rg.op_is _ [] rfl rfl (by kernel_rfl) ?_ ?_
            rotate_left
            · intro wx hb
              refine Rg.from_nil fun T hT => ?_
              go_wp2
              refine hT _ _ rfl (by first | exact Rg.Keep.refl _ | exact below_of_dr hw2 | exact hw2 | exact (Below.refl _ _).alloc (Nat.le_refl _) _) ?_
              simp only [Rg.last, List.getElem?_toArray, List.getElem?_cons_succ, List.getElem?_cons_zero, Option.getD_some]
              rfl
            refine' Rg.op_is _ [] rfl rfl (by kernel_rfl) ?_ ?_
            rotate_left
            · intro wx hb
              refine Rg.from_nil fun T hT => ?_
              go_wp2
              refine hT _ _ rfl (by first | exact Rg.Keep.refl _ | exact below_of_dr hw2 | exact hw2 | exact (Below.refl _ _).alloc (Nat.le_refl _) _) ?_
              simp only [Rg.last, List.getElem?_toArray, List.getElem?_cons_succ, List.getElem?_cons_zero, Option.getD_some]
              rfl
            refine' Rg.op_is _ [6, 7] rfl rfl (by kernel_rfl) ?_ ?_
            rotate_left
            · intro wx hb
              refine Rg.from_is (some 24) rfl rfl ?_
              refine Rg.from_is (some 25) rfl rfl ?_
              refine Rg.from_nil fun T hT => ?_
              go_wp2
              refine hT _ _ rfl (by first | exact Rg.Keep.refl _ | exact below_of_dr hw2 | exact hw2 | exact (Below.refl _ _).alloc (Nat.le_refl _) _) ?_
              simp only [Rg.last, List.getElem?_toArray, List.getElem?_cons_succ, List.getElem?_cons_zero, Option.getD_some]
              rfl
            refine Rg.op_is (.int .u64 z) [8] rfl rfl (by kernel_rfl) ?_ ?_
            · intro wx hb
              refine Rg.from_is (some 26) rfl rfl ?_
              refine Rg.from_nil fun T hT => ?_
              have hcz2 := (hb.cell (lt_of_cell hcz)).trans hcz
              go_wp2
              exact hT _ _ rfl (by first | exact Rg.Keep.refl _ | exact below_of_dr hw2 | exact hw2 | exact (Below.refl _ _).alloc (Nat.le_refl _) _) (by first | rfl | exact congrArg _ (by decide))
            refine' Rg.op_is _ [] rfl rfl (by kernel_rfl) ?_ ?_
            rotate_left
            · intro wx hb
              refine Rg.from_nil fun T hT => ?_
              go_wp2
              refine hT _ _ rfl (by first | exact Rg.Keep.refl _ | exact below_of_dr hw2 | exact hw2 | exact (Below.refl _ _).alloc (Nat.le_refl _) _) ?_
              simp only [Rg.last, List.getElem?_toArray, List.getElem?_cons_succ, List.getElem?_cons_zero, Option.getD_some]
              rfl
            refine Rg.op_is (.int .u64 (z % q)) [9, 10] rfl rfl (by kernel_rfl) ?_ ?_
            · intro wx hb
              refine Rg.from_is (some 27) rfl rfl ?_
              refine Rg.from_is (some 28) rfl rfl ?_
              refine Rg.from_nil fun T hT => ?_
              go_wp2
              exact hT _ _ rfl (by first | exact Rg.Keep.refl _ | exact below_of_dr hw2 | exact hw2 | exact (Below.refl _ _).alloc (Nat.le_refl _) _) (by first | rfl | exact congrArg _ (by decide))
            refine Rg.walk_nil [0, 1, 2, 3, 4, 5, 6, 7, 8, 9, 10, 11] (by kernel_rfl) ?_
            intro wx hb
            refine Rg.from_is (some 18) rfl rfl ?_
            refine Rg.from_is (some 19) rfl rfl ?_
            refine Rg.from_is (some 20) rfl rfl ?_
            refine Rg.from_is (some 21) rfl rfl ?_
            refine Rg.from_is (some 22) rfl rfl ?_
            refine Rg.from_is (some 23) rfl rfl ?_
            refine Rg.from_is (some 24) rfl rfl ?_
            refine Rg.from_is (some 25) rfl rfl ?_
            refine Rg.from_is (some 26) rfl rfl ?_
            refine Rg.from_is (some 27) rfl rfl ?_
            refine Rg.from_is (some 28) rfl rfl ?_
            refine Rg.from_is (some 29) rfl rfl ?_
            refine Rg.from_nil ?_
            simp only [List.map, Act.put, List.setIfInBounds_toArray, List.set_cons_zero, List.set_cons_succ]
            have he := HE.out
            go_wp2
            go_roundw
            case rel => exact ⟨m + 1, by go_num, by omega, hid (mem_takeN HZ.out HJ.out (Ne.symm he)), below_next hd hd.size hb⟩
            case measure => simp [intOf]; omega
        · obtain rfl : m = k := by omega
          have HX := hid hx
          go_wp2
          go_roundw
          case rel => exact ⟨m + 1, by go_num, by omega, hid (two_take HX.out HI.out HJ.out), below_next hw hw.size hd⟩
          case measure => simp [intOf]; omega
    · obtain rfl : k = xs.length := by omega
      go_wp2
      go_ret
      exact ⟨⟨true, rfl, fun _ => by have := HI.out; rwa [List.take_length] at this⟩, hw⟩
theorem largeF_le {f : List (List Int)} (h : largeF f = false) : f.length ≤ 20 ∧ wide f ≤ 20 := by
  simp only [largeF, Bool.or_eq_false_iff, decide_eq_false_iff_not] at h
  omega
theorem mRow_len (f : List (List Int)) (x q : Int) : (mRow f x q).length = wide f := by simp [mRow]
theorem mRow_red {f : List (List Int)} {x q : Int} (hq : okm q = true) : (mRow f x q).map (· % q) = mRow f x q := by
  unfold mRow
  rw [List.map_map]
  refine List.map_congr_left fun j _ => ?_
  show mEval _ _ _ % q = _
  rw [mEval_ok hq, Int.emod_emod]
theorem padZ_same {c : List Int} {n : Nat} (h : c.length = n) : padZ c n = c := by
  unfold padZ
  rw [h, Nat.sub_self]; simp
/-- through its own values at as many places as it is wide: the row. -/
theorem row_back {q : Int} (hq : okm q = true) {ys : List Int} (ha : Apart ys q) {f : List (List Int)} {x : Int} (hl : ys.length = wide f) : pOut ys (valuesL (mRow f x q) ys q) q ys.length = mRow f x q := by
  rw [← pOut_red hq, through_own hq ha (by rw [mRow_len, hl]; exact Nat.le_refl _), padZ_same (by rw [mRow_len, hl]), mRow_red hq]
set_option maxRecDepth 100000 in
set_option maxHeartbeats 1600000 in
theorem bivarColumns_c (A : Option Addr) (f : List (List Int)) (ca : Nat) (x : Int) (B : Option Addr) (ys : List Int) (cb : Nat) (q : Int) (w : World)
    (hA : Grid w A f) (lf : f.length ≤ 9223372036854775807) (uf : Words f) (hx : U64 x) (hB : Cells w B (u64v ys)) (ly : ys.length ≤ 9223372036854775807) (uy : U64s ys)
    (hq : U64 q) (hT : Tabs w) (hp : ∀ {q : Int}, primeV q = true → Go.Psi.Pr q.toNat) :
    Calls Tryd.prog 10 #[.slice A f.length ca, .int .u64 x, .slice B ys.length cb, .int .u64 q] w fun e w' => e = .returned (.bool true) ∧ Below w.heap.size w w' := by
  go_enter Tryd.func10, Tryd.ntmps10
  go_wp2_with (fail)
  refine (works06_c w).mono ?_
  rintro e w1 ⟨rfl, hb1⟩
  go_wp2_with (fail)
  have hr0 := row1_new w1 [.slice A f.length ca] 22
  simp only [List.toArray] at hr0
  have hb0 := below_next hb1 hb1.size (below_alloc w1 (.cells #[.slice A f.length ca] 22))
  refine (large06_c w1.heap.size A f ca _ hr0 (hA.below hb0) lf).mono ?_
  rintro e w2 ⟨rfl, hd2⟩
  have hb2 := below_dr hb0 hd2
  clear hr0 hb0 hd2 hb1
  cases hL : largeF f with
  | true =>
    clear hL
    go_wp2_with (fail)
    refine (works06_c w2).mono ?_
    rintro e wz ⟨rfl, hbz⟩
    go_wp2
    go_ret
    exact ⟨rfl, below_next hb2 hb2.size hbz⟩
  | false =>
    obtain ⟨hl20, hw20⟩ := largeF_le hL
    clear hL
    go_wp2_with (fail)
    refine (rwide_c A f ca w2 (hA.below hb2) lf).mono ?_
    rintro e w3 ⟨rfl, rfl⟩
    by_cases hlen : ys.length = wide f
    case neg =>
      have hne : ((ys.length : Int) != (wide f : Int)) = true := by simp; omega
      go_wp2_with (fail)
      refine (works06_c w2).mono ?_
      rintro e wz ⟨rfl, hbz⟩
      go_wp2
      go_ret
      exact ⟨rfl, below_next hb2 hb2.size hbz⟩
    have hne : ((ys.length : Int) != (wide f : Int)) = false := by simp; omega
    have hy20 : ys.length ≤ 20 := by omega
    have HLEN := hid hlen
    clear hlen
    by_cases hq61 : q ≤ 2305843009213693952
    case neg =>
      go_wp2_with (fail)
      refine (works06_c w2).mono ?_
      rintro e wz ⟨rfl, hbz⟩
      go_wp2
      go_ret
      exact ⟨rfl, below_next hb2 hb2.size hbz⟩
    go_wp2_with (fail)
    refine (prime_c q hq w2 (hT.below hb2)).mono ?_
    rintro e w3 ⟨rfl, hd⟩
    replace hb2 := below_dr hb2 hd
    clear hd
    cases hpv : primeV q with
    | false =>
      go_wp2_with (fail)
      refine (works06_c w3).mono ?_
      rintro e wz ⟨rfl, hbz⟩
      go_wp2
      go_ret
      exact ⟨rfl, below_next hb2 hb2.size hbz⟩
    | true =>
      obtain ⟨hok, hq2⟩ := okm_prime hpv
      have hpr := hp hpv
      clear hpv hp
      go_wp2_with (fail)
      refine (apart06_c B ys cb q w3 (hB.below hb2) ly uy hq (by omega)).mono ?_
      rintro e w4 ⟨⟨b, rfl, htwo⟩, hb⟩
      replace hb2 := below_next hb2 hb2.size hb
      clear hb
      cases b with
      | false =>
        clear htwo
        go_wp2_with (fail)
        refine (works06_c w4).mono ?_
        rintro e wz ⟨rfl, hbz⟩
        go_wp2
        go_ret
        exact ⟨rfl, below_next hb2 hb2.size hbz⟩
      | true =>
        have hap := (htwo rfl).apart hq2 hpr
        have hall := (htwo rfl).all hok hq2 hpr (by omega)
        have hback := row_back (x := x) hok hap HLEN.out
        have hcv := fun y => cross_val f x y q
        have hte : tErr ys (valuesL (mRow f x q) ys q) q = 0 := by unfold tErr; rw [if_pos (by simp [valuesL])]; exact hall
        have htv := (tVal_ok hte).trans hback
        have hrl := mRow_len f x q
        have hru : U64s (mRow f x q) := mRow_u64 f x q
        have hbr := fun w' (hb : Below w4.heap.size w4 w') => brow_c A f ca x q w' ((hA.below hb2).below hb) (by omega) (by omega) uf hx hq
        generalize mRow f x q = R at *
        have HS := hid (⟨hte, htv, hcv, hbr⟩ : _ ∧ _ ∧ _ ∧ _)
        have hvl : (valuesL R ys q).length = ys.length := by simp [valuesL]
        have hr20 : R.length ≤ 20 := by omega
        clear htwo hap hall hback hcv hte htv hbr hT hrl
        go_wp2
        go_loopw [9, 10] (fun o i wr => ∃ k : Nat, i = .int .i64 k ∧ k ≤ ys.length ∧ Own wr w4.heap.size 24 o (u64v (valuesL R (ys.take k) q)) ∧ Below w4.heap.size w4 wr) (fun _ i _ => ys.length - (intOf i).toNat)
        case atStart => exact ⟨0, rfl, by omega, by simpa [valuesL, u64v] using Own.nil w4 w4.heap.size 24, Below.refl _ _⟩
        case round =>
          obtain ⟨k, rfl, hk, ho, hw⟩ := hrel
          by_cases hlt : k < ys.length
          · obtain ⟨y, hz⟩ := get_of_lt hlt
            obtain ⟨bb, off, rfl, hcell⟩ := ((hB.below hb2).below hw).at_map hz
            have hyu := uy y (List.mem_of_getElem? hz)
            have hs : u64v (valuesL R (ys.take k) q) ++ [Value.int .u64 (mEval R y q)] = u64v (valuesL R (ys.take (k + 1)) q) := by
              rw [take_snocR hz]; simp [valuesL, u64v]
            have hlen2 : (u64v (valuesL R (ys.take k) q)).length = k := by simp [valuesL, u64v]; omega
            have hev : mEval (mCol f y q) x q = mEval R y q := (HS.out.2.2.1 y).symm
            have HV := hid (⟨hs, hlen2, hev⟩ : _ ∧ _ ∧ _)
            have hcu := mCol_u64 f y q
            have hcl : (mCol f y q).length = f.length := by simp [mCol]
            clear hs hlen2 hev hz
            go_wp2_with (fail)
            refine (col_c A f ca y q wr ((hA.below hb2).below hw) (by omega) uf hyu hq).mono ?_
            rintro e w6 ⟨v6, rfl, ho6, hb6⟩
            obtain ⟨A6, c6, rfl, hc6⟩ := ho6.form
            clear ho6
            rw [List.length_map]
            replace ho := ho.below hb6
            replace hw := below_next hw hw.size hb6
            clear hb6
            have hevc := eval_c A6 _ c6 x q w6 hc6 (by omega) hcu hx hq
            rw [hcl] at hevc ⊢
            have HEV := hid hevc
            clear hevc hcl
            go_wp2_with (fail)
            refine HEV.out.mono ?_
            rintro e w7 ⟨rfl, hd7⟩
            rw [HV.out.2.2]
            replace ho := ho.dr hd7
            replace hw := below_dr hw hd7
            clear hd7 hc6 HEV
            generalize mEval R y q = z at *
            go_wp2_with (at_builtin; refine wpList_push elt_u64 w7 rfl _ _ rfl w4.heap.size ho rfl (.int .u64 z) rfl rfl (by rw [HV.out.2.1]; omega) (by rw [HV.out.2.1]; omega) hw.size ?_; intro v' w8 ho8 _ hb8)
            go_roundw
            case rel =>
              rw [HV.out.1] at ho8
              exact ⟨k + 1, by go_num, by omega, ho8, hw.trans hb8⟩
            case measure => simp [intOf]; omega
          · obtain rfl : k = ys.length := by omega
            rw [List.take_length] at ho
            obtain ⟨A6, c6, rfl, hc6⟩ := ho.form
            clear ho
            have hvu := valuesL_u64 R ys q
            have hll : (u64v (valuesL R ys q)).length = ys.length := by simp [valuesL, u64v]
            rw [hll]
            have hthr := pthrough_c B A6 ys (valuesL R ys q) cb c6 q wr ((hB.below hb2).below hw) hc6 (by omega) (by omega) uy hvu hq
            rw [hvl, HS.out.1, HS.out.2.1] at hthr
            have HTH := hid hthr
            clear hthr hll hc6
            go_wp2_with (fail)
            refine HTH.out.mono ?_
            rintro e w7 ⟨v7, rfl, ho7, hb7⟩
            obtain ⟨A7, c7, rfl, hc7⟩ := ho7.form
            clear ho7 HTH
            rw [List.length_map]
            replace hw := below_next hw hw.size hb7
            clear hb7
            go_wp2_with (fail)
            refine (HS.out.2.2.2 w7 hw).mono ?_
            rintro e w8 ⟨v8, rfl, ho8, hb8⟩
            obtain ⟨A8, c8, rfl, hc8⟩ := ho8.form
            clear ho8
            rw [List.length_map]
            go_wp2_with (fail)
            refine (nums06_c A7 A8 R R c7 c8 w8 (hc7.below hb8) hc8 (by omega) (by omega)).mono ?_
            rintro e w9 ⟨rfl, hd9⟩
            rw [decide_eq_true (rfl : R = R)]
            go_wp2
            go_ret
            exact ⟨rfl, below_dr (below_next hb2 hb2.size (below_next hw hw.size hb8)) hd9⟩
end Go.Proofs.YtcojnjhffmhbiaaDoor
end

section
namespace Go.Proofs.YtcojnjhffmhbiaaDoor
open Go.ChangeShapes Go.WideShapes Go.ChangeAt Go.RowKit Go.Deep
theorem Tryd.laidOut : laidOutB Tryd.prog = true := by kernel_rfl
section
variable {H : Type} {enc : TypeId × Value → H} {P : Program}
/-- types that may be read again. -/
def again (P : Program) (ts : List TypeId) : Bool := ts.all fun t => P.readableRec t && decide (t < P.types.size)
theorem trodAll_below (hl : laidOutB P = true) {W W' : World} (hb : Below W.heap.size W W') : ∀ {ts : List TypeId} {vs : List Value} {ds : List (DataW H)} {ps : List MemPlace}, again P ts = true →
    DataW.TrodAll enc P W 0 (fun _ => true) true ts vs ds ps → (∀ x ∈ ps, x.block < W.heap.size) → DataW.TrodAll enc P W' 0 (fun b => decide (b < W.heap.size)) true ts vs ds ps
  | [], [], [], _, _, h, _ => h
  | t :: ts, v :: vs, d :: ds, _, ht, ⟨p, q, h1, h2, rfl⟩, hlt => by
    simp only [again, List.all_cons, Bool.and_eq_true, decide_eq_true_eq] at ht
    exact ⟨p, q, Below.trod hl ht.1.1 ht.1.2 h1 hb fun x hx => hlt x (List.mem_append_left _ hx),
      trodAll_below hl hb (by simpa only [again, Bool.and_eq_true, decide_eq_true_eq] using ht.2) h2 fun x hx => hlt x (List.mem_append_right _ hx), rfl⟩
  | [], [], _ :: _, _, _, h, _ => h.elim
  | [], _ :: _, _, _, _, h, _ => h.elim
  | _ :: _, [], _, _, _, h, _ => h.elim
  | _ :: _, _ :: _, [], _, _, h, _ => h.elim
/-- a law that answers true, and leaves all that was there. -/
theorem post_true {f : Func} {s : ChangeSpec} {fresh handsOn : Bool} {W W' : World} {args : Array Value} {ds gs : List (DataW H)} {before : List MemPlace} {tb : TypeId}
    (hW : DataW.Whole enc P f.params.toList s.vars false W args.toList ds gs before) (hb : Below W.heap.size W W') (hl : laidOutB P = true) (hts : again P f.params.toList = true) (hv : s.vars = [])
    (hr : (s.fn H (ds ++ gs)).results = [.lit (.bool true)]) (ha : (s.fn H (ds ++ gs)).args = ds) (hvs : (s.fn H (ds ++ gs)).vars = []) (hrt : f.resultTypes = #[tb]) (htb : P.underlying tb = some .bool) :
    s.post enc P f false fresh handsOn false W args (.bool true) W' := by
  have hlt := hW.lt
  have hW2 := hW
  obtain ⟨p, q, hA, hV, rfl, _⟩ := hW2
  rw [hv] at hV
  obtain ⟨rfl, rfl⟩ := trodVars_none hV
  rw [List.append_nil] at hlt
  have hA' := trodAll_below hl hb hts hA hlt
  refine ⟨ds, [], p ++ [], [], p, [], hW, ?_, ?_, ?_, World.keptBut_mono (fun x hx => ⟨hx, .inr (.inl (by simpa using hx))⟩) (hb.frame (· ∈ p ++ [])), fun h => by cases h⟩
  · rw [hr, hrt]
    exact trodAll_mk1 (shut_bool htb true)
  · rw [ha]; exact hA'
  · rw [hvs, hv]; exact rfl
theorem trodAll_more {w : World} {base : Nat} {spare : Nat → Bool} {held : Bool} {t : TypeId} {ts : List TypeId} {vs : List Value} {ds : List (DataW H)} {ps : List MemPlace} (h : DataW.TrodAll enc P w base spare held (t :: ts) vs ds ps) :
    ∃ v vs' d ds' p q, vs = v :: vs' ∧ ds = d :: ds' ∧ ps = p ++ q ∧ DataW.Trod enc P w base spare held t v d p ∧ DataW.TrodAll enc P w base spare held ts vs' ds' q := by
  cases vs with
  | nil => cases ds <;> exact h.elim
  | cons v vs' =>
    cases ds with
    | nil => exact h.elim
    | cons d ds' =>
      obtain ⟨p, q, h1, h2, rfl⟩ := h
      exact ⟨v, vs', d, ds', p, q, rfl, rfl, rfl, h1, h2⟩
theorem trodAll_end {w : World} {base : Nat} {spare : Nat → Bool} {held : Bool} {vs : List Value} {ds : List (DataW H)} {ps : List MemPlace} (h : DataW.TrodAll enc P w base spare held [] vs ds ps) : vs = [] ∧ ds = [] ∧ ps = [] := by
  cases vs <;> cases ds <;> first | exact ⟨rfl, rfl, h⟩ | exact h.elim
theorem spot_none {w : World} {a : Addr} {u : Value} (h : w.cell? a = some u) : a.spot = none := by
  unfold World.cell? at h
  split at h
  · split at h
    · cases h
    · rename_i hs; simpa using hs
  · cases h
/-- a row of numbers. -/
theorem nums_at {t e : TypeId} {k : IntKind} {fuel : Nat} {v : Value} {x : DataW H × List MemPlace} {w : World} (ht : P.underlying t = some (.slice e)) (he : P.underlying e = some (.int k)) (hc : P.cellsOf e = 1)
    (h : DataW.trod enc P w 0 (fun _ => true) true fuel t [v] = some x) : ∃ (A : Option Addr) (l : List Int) (c : Nat), v = .slice A l.length c ∧ Cells w A (l.map (.int k)) ∧ l.length ≤ 9223372036854775807 ∧ ∀ n ∈ l, (Lit.int k n).wf = true := by
  rcases open_ints ht he hc h with ⟨h1, _⟩ | ⟨a, len, cap, zs, h1, _, hl, hm, hz, _, hcell, hw⟩
  · simp only [List.cons.injEq, and_true] at h1
    exact ⟨none, [], 0, h1, .inl rfl, by simp, by simp⟩
  · simp only [List.cons.injEq, and_true] at h1
    simp only [if_true] at hz
    have hlen : (zs.take len).length = len := by simp; omega
    refine ⟨some a, zs.take len, cap, by rw [hlen]; exact h1, ?_, by rw [hlen]; unfold maxLen at hm; omega, fun n hn => hw n (List.mem_of_mem_take hn)⟩
    cases len with
    | zero => exact .inl (by simp)
    | succ len =>
      right
      have h0 := hcell 0 (by omega)
      have ha0 : a.add 0 = a := rfl
      rw [ha0] at h0
      have hs := spot_none h0
      refine ⟨a.block, a.off, by cases a; simp only at hs; subst hs; rfl, fun i u hu => ?_⟩
      rw [List.getElem?_map, List.getElem?_take] at hu
      split at hu
      · rename_i hi
        have h2 := hcell i (by omega)
        have hadd : a.add i = ⟨a.block, a.off + i, none⟩ := by
          unfold Addr.add
          split
          · rename_i h3; subst h3; cases a; simp only at hs; subst hs; rfl
          · rfl
        rw [hadd] at h2
        rw [h2]
        rw [List.getD_eq_getElem?_getD] 
        have hi2 : i < zs.length := by omega
        rw [List.getElem?_eq_getElem hi2] at hu ⊢
        simpa using hu
      · simp at hu
/-- a row of rows of numbers. -/
theorem rows_at {t e q : TypeId} {k : IntKind} {fuel : Nat} {v : Value} {x : DataW H × List MemPlace} {w : World} (ht : P.underlying t = some (.slice e)) (he : P.underlying e = some (.slice q)) (hq : P.underlying q = some (.int k))
    (ce : P.cellsOf e = 1) (cq : P.cellsOf q = 1) (h : DataW.trod enc P w 0 (fun _ => true) true fuel t [v] = some x) :
    ∃ (A : Option Addr) (f : List (List Int)) (c : Nat), v = .slice A f.length c ∧ f.length ≤ 9223372036854775807 ∧ (∀ l ∈ f, ∀ n ∈ l, (Lit.int k n).wf = true) ∧
      ∃ vs : List Value, Cells w A vs ∧ vs.length = f.length ∧ ∀ (i : Nat) (l : List Int), f[i]? = some l → ∃ v, vs[i]? = some v ∧ ∃ A' c', v = .slice A' l.length c' ∧ Cells w A' (l.map (.int k)) ∧ l.length ≤ 9223372036854775807 := by
  rcases open_int_rows ht he hq ce cq h with ⟨h1, _⟩ | ⟨a, len, cap, A, L, C, Z, h1, _, hl, hm, _, hrow⟩
  · simp only [List.cons.injEq, and_true] at h1
    exact ⟨none, [], 0, h1, by simp, by simp, [], .inl rfl, rfl, fun i l hl => by simp at hl⟩
  · simp only [List.cons.injEq, and_true] at h1
    have hlen : ((List.range len).map fun r => (Z r).take (L r)).length = len := by simp
    refine ⟨some a, (List.range len).map fun r => (Z r).take (L r), cap, by rw [hlen]; exact h1, by rw [hlen]; unfold maxLen at hm; omega, fun l hl n hn => ?_, (List.range len).map fun r => .slice (A r) (L r) (C r), ?_, by simp, fun i l hl2 => ?_⟩
    · obtain ⟨r, hr, rfl⟩ := List.mem_map.1 hl
      exact (hrow r (by have := List.mem_range.1 hr; omega)).2.2.2.2.1 n (List.mem_of_mem_take hn)
    · cases len with
      | zero => exact .inl (by simp)
      | succ len =>
        right
        have h0 := (hrow 0 (by omega)).1
        have ha0 : a.add 0 = a := rfl
        rw [ha0] at h0
        have hs := spot_none h0
        refine ⟨a.block, a.off, by cases a; simp only at hs; subst hs; rfl, fun i u hu => ?_⟩
        have hi : i < len + 1 := by
          have := (List.getElem?_eq_some_iff.1 hu).1; simpa using this
        rw [List.getElem?_map, List.getElem?_range hi] at hu
        simp only [Option.map_some, Option.some.injEq] at hu
        subst hu
        have h2 := (hrow i (by omega)).1
        have hadd : a.add i = ⟨a.block, a.off + i, none⟩ := by
          unfold Addr.add
          split
          · rename_i h3; subst h3; cases a; simp only at hs; subst hs; rfl
          · rfl
        rw [hadd] at h2
        exact h2
    · have hi : i < len := by
        have := (List.getElem?_eq_some_iff.1 hl2).1; simpa using this
      rw [List.getElem?_map, List.getElem?_range hi] at hl2
      simp only [Option.map_some, Option.some.injEq] at hl2
      subst hl2
      obtain ⟨_, r1, r2, r3, r4, r5, r6⟩ := hrow i (by omega)
      have hll : ((Z i).take (L i)).length = L i := by simp; omega
      refine ⟨_, by rw [List.getElem?_map, List.getElem?_range hi]; rfl, A i, C i, by rw [hll], ?_, by rw [hll]; unfold maxLen at r2; omega⟩
      cases hAi : A i with
      | none =>
        have := r5 hAi
        exact .inl (by simp [show L i = 0 by omega])
      | some a' =>
        obtain ⟨_, hc⟩ := r6 a' hAi
        cases hL : L i with
        | zero => exact .inl (by simp)
        | succ m =>
          right
          have h0 := hc 0 (by omega)
          have ha0 : a'.add 0 = a' := rfl
          rw [ha0] at h0
          have hs := spot_none h0
          refine ⟨a'.block, a'.off, by cases a'; simp only at hs; subst hs; rfl, fun j u hu => ?_⟩
          rw [List.getElem?_map, List.getElem?_take] at hu
          split at hu
          · rename_i hj
            have h2 := hc j (by omega)
            have hadd : a'.add j = ⟨a'.block, a'.off + j, none⟩ := by
              unfold Addr.add
              split
              · rename_i h3; subst h3; cases a'; simp only at hs; subst hs; rfl
              · rfl
            rw [hadd] at h2
            rw [h2, List.getD_eq_getElem?_getD]
            have hj2 : j < (Z i).length := by omega
            rw [List.getElem?_eq_getElem hj2] at hu ⊢
            simpa using hu
          · simp at hu
end
end Go.Proofs.YtcojnjhffmhbiaaDoor
end

section
namespace Go.Proofs.YtcojnjhffmhbiaaDoor
open Go.ChangeShapes Go.WideShapes Go.ChangeAt Go.RowKit Go.Deep
section
variable {H : Type} {enc : TypeId × Value → H}
set_option maxRecDepth 100000 in
theorem one_ofR {w : World} {base : Nat} {spare : Nat → Bool} {held : Bool} {t : TypeId} {v : Value} {d : DataW H} {p : List MemPlace} {r : Reach} {b0 : Nat} {e : TypeId} (ht : Tryd.prog.underlying t = some (.slice e)) (hv : Value.okWide Tryd.prog w r b0 t v) (h : DataW.Trod enc Tryd.prog w base spare held t v d p) :
    ∃ fuel, DataW.trod enc Tryd.prog w base spare held fuel t [v] = some (d, p) := by
  obtain ⟨fuel, hf⟩ := h
  obtain ⟨a, n, c, rfl⟩ := okWide_slice ht hv
  exact ⟨fuel, hf⟩
end
end Go.Proofs.YtcojnjhffmhbiaaDoor
end

section
namespace Go.Proofs.YtcojnjhffmhbiaaDoor
open Go.ChangeShapes Go.WideShapes Go.ChangeAt Go.RowKit
abbrev laidB : List (String × DataW Unit) := [("math/bits.deBruijn64tab", Rows.laid_math_bits_deBruijn64tab), ("consistory/mod.tried", Rows.laid_consistory_mod_tried)]
theorem tabs_of_laid {W : World} (h : laidMetH Tryd.prog laidB W) : Tabs W := by
  rw [MakeChecks.laidMetH_plain _ _ _ (by kernel_rfl)] at h
  have h1 : Lib.TabIs Tryd.prog W "math/bits.deBruijn64tab" .u8 (Lib.deBruijn64tab.map (fun n : Nat => (n : Int))) :=
    Lib.tabIs_of_head (g := 1) (n := 64) (t := 159) (e := 5) (by kernel_rfl) (by kernel_rfl) (by kernel_rfl) (by kernel_rfl) (by kernel_rfl) (by kernel_rfl) h
  have h2 : Lib.TabIs Tryd.prog W "consistory/mod.tried" .u64 triedL :=
    Lib.tabIs_of_head (g := 0) (n := 12) (t := 124) (e := 24) (by kernel_rfl) (by kernel_rfl) (by kernel_rfl) (by kernel_rfl) (by kernel_rfl) (by kernel_rfl) h.tail
  refine ⟨fun j hj => ?_, fun k z hz => ?_⟩
  · have := h1.cell (g := 1) (by kernel_rfl) j (by simpa using hj)
    rw [this]
    simp [List.getD_eq_getElem?_getD, List.getElem?_map, List.getElem?_eq_getElem hj]
  · have hk := (List.getElem?_eq_some_iff.1 hz).1
    have := h2.cell (g := 0) (by kernel_rfl) k hk
    rw [this, List.getD_eq_getElem?_getD, hz]; rfl
set_option maxRecDepth 100000 in
theorem door_met (os : Os) (args : Array Value) : laidMetH Tryd.prog laidB ((World.doorLaid Tryd.prog 400 os).forCall (fun _ _ => 0) ⟨#[], args, []⟩).memory :=
  laidMetH_of_parts3 (fuel := 8) (laidMet_of_run' 8 (by kernel_rfl) (by kernel_rfl)) (by kernel_rfl) (by kernel_rfl)
theorem own_knob : ownKnob Tryd.prog.godebug = none := by kernel_rfl
end Go.Proofs.YtcojnjhffmhbiaaDoor
end

section
namespace Go.Proofs.YtcojnjhffmhbiaaDoor
open Go Go.RowKit Go.Maps Go.Shelf Go.Proofs
theorem bErr_ok {xs : List Int} {f : List (List Int)} {q : Int} (h : eAll xs q = 0) : bErr xs f q = if xs.length = f.length then 0 else 1 := by
  unfold bErr
  rw [h]
theorem bVal_ok {xs : List Int} {f : List (List Int)} {q : Int} (h : bErr xs f q = 0) : bVal xs f q = bPart xs f q (wide f) := by unfold bVal; rw [if_pos h]
theorem bPart_len (xs : List Int) (f : List (List Int)) (q : Int) (k : Nat) : (bPart xs f q k).length = xs.length := by simp [bPart]
theorem bPart_row {xs : List Int} {f : List (List Int)} {q : Int} {k i : Nat} (h : i < xs.length) : (bPart xs f q k)[i]? = some ((List.range k).map fun j => (tVal xs (colJ f j) q).getD i 0) := by
  unfold bPart
  rw [List.getElem?_map, List.getElem?_range h]; rfl
theorem wide_same {f : List (List Int)} {m : Nat} (h : ∀ l ∈ f, l.length = m) (hne : f ≠ []) : wide f = m := by
  refine Nat.le_antisymm (wide_le fun l hl => by rw [h l hl]; exact Nat.le_refl _) ?_
  cases f with
  | nil => exact absurd rfl hne
  | cons l f => rw [← h l List.mem_cons_self]; exact le_wide List.mem_cons_self
theorem bPart_wide {xs : List Int} {f : List (List Int)} {q : Int} {k : Nat} (h : 0 < xs.length) : wide (bPart xs f q k) = k := by
  refine wide_same (fun l hl => ?_) fun e => ?_
  · obtain ⟨i, _, rfl⟩ := List.mem_map.1 hl
    simp
  · have := bPart_len xs f q k
    rw [e] at this
    simp at this; omega
theorem tVal_lenO {xs ys : List Int} {q : Int} (hq : okm q = true) (hl : xs.length = ys.length) (h : eAll xs q = 0) : (tVal xs ys q).length = xs.length ∧ tVal xs ys q = pOut xs ys q xs.length := by
  have : tErr xs ys q = 0 := by unfold tErr; rw [if_pos hl]; exact h
  rw [tVal_ok this]
  exact ⟨pOut_len hq _ _ _, rfl⟩
theorem colJ_bPart {xs : List Int} {f : List (List Int)} {q : Int} (hq : okm q = true) (hl : xs.length = f.length) (h : eAll xs q = 0) {k j : Nat} (hj : j < k) : colJ (bPart xs f q k) j = tVal xs (colJ f j) q := by
  obtain ⟨h1, _⟩ := tVal_lenO (ys := colJ f j) hq (by rw [colJ_len]; exact hl) h
  unfold colJ bPart
  rw [List.map_map]
  apply List.ext_getElem
  · simp only [List.length_map, List.length_range]
    exact h1.symm
  · intro i a b
    simp only [List.length_map, List.length_range] at a
    simp only [List.getElem_map, List.getElem_range, Function.comp]
    rw [List.getD_eq_getElem?_getD, List.getElem?_map, List.getElem?_range hj]
    show (tVal xs (colJ f j) q).getD i 0 = _
    rw [List.getD_eq_getElem?_getD]
    have : i < (tVal xs (colJ f j) q).length := by rw [h1]; exact a
    rw [List.getElem?_eq_getElem this]
    rfl
theorem mRow_at {f : List (List Int)} {x q : Int} {j : Nat} (h : j < wide f) : (mRow f x q)[j]? = some (mEval (colJ f j) x q) := by
  unfold mRow
  rw [List.getElem?_map, List.getElem?_range h]; rfl
/-- through rows: at place number k the row that was there. -/
theorem back_row {q : Int} (hq : okm q = true) {xs : List Int} (ha : Apart xs q) (he : eAll xs q = 0) {f : List (List Int)} (hl : xs.length = f.length) {k : Nat} {x : Int} {l : List Int} (hx : xs[k]? = some x) (hk : f[k]? = some l) :
    (mRow (bPart xs f q (wide f)) x q).length = wide f ∧ ∀ j, (mRow (bPart xs f q (wide f)) x q).getD j 0 = l.getD j 0 % q := by
  have hkl := (List.getElem?_eq_some_iff.1 hx).1
  have hw : wide (bPart xs f q (wide f)) = wide f := bPart_wide (by omega)
  refine ⟨by rw [mRow_len, hw], fun j => ?_⟩
  rcases Nat.lt_or_ge j (wide f) with hj | hj
  · have hm := mRow_at (f := bPart xs f q (wide f)) (x := x) (q := q) (j := j) (by rw [hw]; exact hj)
    rw [List.getD_eq_getElem?_getD, hm, colJ_bPart hq hl he hj, (tVal_lenO (ys := colJ f j) hq (by rw [colJ_len]; exact hl) he).2]
    show mEval _ x q = _
    rw [out_at hq ha hx, List.getD_eq_getElem?_getD (l := colJ f j), colJ_at hk]
    rfl
  · rw [List.getD_eq_getElem?_getD, List.getElem?_eq_none (by rw [mRow_len, hw]; exact hj)]
    have := le_wide (List.mem_of_getElem? hk)
    rw [List.getD_eq_getElem?_getD, List.getElem?_eq_none (by omega)]
    exact (Int.zero_emod q).symm
/-- a polynomial's own rows. -/
def rowsF (f : List (List Int)) (xs : List Int) (q : Int) : List (List Int) := xs.map fun x => mRow f x q
theorem rowsF_wide {f : List (List Int)} {xs : List Int} {q : Int} (h : 0 < xs.length) : wide (rowsF f xs q) = wide f := by
  refine wide_same (fun l hl => ?_) fun e => ?_
  · obtain ⟨x, _, rfl⟩ := List.mem_map.1 hl
    exact mRow_len f x q
  · have : (rowsF f xs q).length = xs.length := by simp [rowsF]
    rw [e] at this
    simp at this; omega
theorem rowsF_words (f : List (List Int)) (xs : List Int) (q : Int) : Words (rowsF f xs q) := by
  intro l hl
  obtain ⟨x, _, rfl⟩ := List.mem_map.1 hl
  exact mRow_u64 f x q
theorem colJ_rowsF {f : List (List Int)} {xs : List Int} {q : Int} {j : Nat} (h : j < wide f) : colJ (rowsF f xs q) j = valuesL (colJ f j) xs q := by
  unfold colJ rowsF valuesL
  rw [List.map_map]
  refine List.map_congr_left fun x _ => ?_
  show (mRow f x q).getD j 0 = _
  rw [List.getD_eq_getElem?_getD, mRow_at h]
  rfl
/-- through its own rows a polynomial of two is found again. -/
theorem back_all {q : Int} (hq : okm q = true) {xs : List Int} (ha : Apart xs q) (he : eAll xs q = 0) {f : List (List Int)} (hl : xs.length = f.length) {i j : Nat} {l g : List Int} (hi : f[i]? = some l) (hj : j < wide f)
    (hg : (bPart xs (rowsF f xs q) q (wide (rowsF f xs q)))[i]? = some g) : g[j]? = some (l.getD j 0 % q) := by
  have hil := (List.getElem?_eq_some_iff.1 hi).1
  have hw := rowsF_wide (f := f) (xs := xs) (q := q) (by omega)
  rw [bPart_row (by omega)] at hg
  obtain rfl := Option.some.inj hg
  rw [List.getElem?_map, List.getElem?_range (by rw [hw]; exact hj)]
  show some ((tVal xs (colJ (rowsF f xs q) j) q).getD i 0) = _
  rw [colJ_rowsF hj]
  obtain ⟨_, h2⟩ := tVal_lenO (ys := valuesL (colJ f j) xs q) hq (by simp [valuesL]) he
  rw [h2]
  have h3 := through_own hq (c := colJ f j) ha (by rw [colJ_len]; omega)
  rw [pOut_red hq, padZ_same (by rw [colJ_len]; omega)] at h3
  rw [h3, List.getD_eq_getElem?_getD, List.getElem?_map, colJ_at hi]
  rfl
theorem getD_of {l : List Int} {j : Nat} (h : l.length ≤ j) : l.getD j 0 = 0 := by rw [List.getD_eq_getElem?_getD, List.getElem?_eq_none h]; rfl
theorem getD_in' {l : List Int} {j : Nat} {z : Int} (h : l[j]? = some z) : l.getD j 0 = z := by rw [List.getD_eq_getElem?_getD, h]; rfl
/-- the slice at A reads as these lists of rows. -/
def Grids6 (w : World) (A : Option Addr) (fs : List (List (List Int))) : Prop :=
  ∃ vs : List Value, Cells w A vs ∧ vs.length = fs.length ∧ ∀ (i : Nat) (f : List (List Int)), fs[i]? = some f → ∃ A' c', vs[i]? = some (.slice A' f.length c') ∧ Grid w A' f ∧ f.length ≤ 9223372036854775807
theorem Grids6.at_ {w : World} {A : Option Addr} {fs : List (List (List Int))} (h : Grids6 w A fs) {k : Nat} {f : List (List Int)} (hk : fs[k]? = some f) :
    ∃ b off A' c, A = some ⟨b, off, none⟩ ∧ w.cell? ⟨b, off + k, none⟩ = some (.slice A' f.length c) ∧ Grid w A' f ∧ f.length ≤ 9223372036854775807 := by
  obtain ⟨vs, h1, h2, h3⟩ := h
  obtain ⟨A', c, hv, hg, hl⟩ := h3 k f hk
  obtain ⟨b, off, rfl, hcell⟩ := h1.at_ hv
  exact ⟨b, off, A', c, rfl, hcell, hg, hl⟩
theorem Grids6.dr {w w' : World} {A : Option Addr} {fs : List (List (List Int))} (h : Grids6 w A fs) (hd : Dr w w') : Grids6 w' A fs := by
  obtain ⟨n, rfl⟩ := hd; exact h
set_option maxRecDepth 100000 in
set_option maxHeartbeats 1600000 in
theorem largeG06_c (A : Option Addr) (fs : List (List (List Int))) (c : Nat) (w : World) (hA : Grids6 w A fs) (hl : fs.length ≤ 9223372036854775807) :
    Calls Tryd.prog 44 #[.slice A fs.length c] w fun e w' => (∃ b, e = .returned (.bool b) ∧ (b = false → ∀ f ∈ fs, f.length ≤ 20 ∧ wide f ≤ 20)) ∧ Dr w w' := by
  go_enter Tryd.func44, Tryd.ntmps44
  go_wp2
  go_loopw [3] (fun i wr => ∃ k : Nat, i = .int .i64 k ∧ k ≤ fs.length ∧ Hid (∀ f ∈ fs.take k, f.length ≤ 20 ∧ wide f ≤ 20) ∧ Dr w wr) (fun i _ => fs.length - (intOf i).toNat)
  case atStart => exact ⟨0, rfl, by omega, hid (fun f hf => by simp at hf), Dr.refl _⟩
  case round =>
    obtain ⟨k, rfl, hk, HI, hw⟩ := hrel
    by_cases hlt : k < fs.length
    · obtain ⟨f, hx⟩ := get_of_lt hlt
      obtain ⟨b, off, A', c', rfl, hc, hg, hfl⟩ := (hA.dr hw).at_ hx
      have HX := hid hx
      clear hx
      by_cases hf : f.length ≤ 20
      · have HW := hid (rwide_c A' f c' wr hg hfl)
        by_cases hwf : wide f ≤ 20
        · go_wp2_with (go_at_call 49; refine HW.out.mono ?_; rintro e w2 ⟨rfl, rfl⟩)
          go_roundw
          case rel => exact ⟨k + 1, by go_num, by omega, hid (mem_takeN HX.out HI.out ⟨hf, hwf⟩), hw⟩
          case measure => simp [intOf]; omega
        · go_wp2_with (go_at_call 49; refine HW.out.mono ?_; rintro e w2 ⟨rfl, rfl⟩)
          go_ret
          exact ⟨⟨true, rfl, fun h => by cases h⟩, hw⟩
      · go_wp2
        go_ret
        first
          | exact ⟨⟨true, rfl, fun h => by cases h⟩, hw⟩
          | exact ⟨.inr rfl, hw⟩
          | exact ⟨.inr ⟨rfl, trivial⟩, hw⟩
    · obtain rfl : k = fs.length := by omega
      go_wp2
      go_ret
      exact ⟨⟨false, rfl, fun _ => by have := HI.out; rwa [List.take_length] at this⟩, hw⟩
end Go.Proofs.YtcojnjhffmhbiaaDoor
end

section
namespace Go.Proofs.YtcojnjhffmhbiaaDoor
open Go Go.RowKit Go.Maps Go.Shelf Go.Proofs
theorem bPart_words (xs : List Int) (f : List (List Int)) (q : Int) (k : Nat) : Words (bPart xs f q k) := by
  intro l hl
  obtain ⟨i, _, rfl⟩ := List.mem_map.1 hl
  intro z hz
  obtain ⟨j, _, rfl⟩ := List.mem_map.1 hz
  rcases getD_in (tVal xs (colJ f j) q) i with h | h
  · rw [h]; exact ⟨by decide, by decide⟩
  · exact tVal_u64 _ _ _ _ h
/-- rows as cells. -/
def rowsU6 (W : List (List Int)) : List (List Value) := W.map (·.map (.int .u64))
theorem rowsU6_take {W : List (List Int)} {j : Nat} {l : List Int} (h : W[j]? = some l) : rowsU6 (W.take j) ++ [l.map (.int .u64)] = rowsU6 (W.take (j + 1)) := by
  unfold rowsU6
  rw [take_snocR h]; simp
theorem rowsF_at {f : List (List Int)} {xs : List Int} {q : Int} {k : Nat} {x : Int} (h : xs[k]? = some x) : (rowsF f xs q)[k]? = some (mRow f x q) := by
  unfold rowsF
  rw [List.getElem?_map, h]; rfl
theorem rowsF_len (f : List (List Int)) (xs : List Int) (q : Int) : (rowsF f xs q).length = xs.length := by simp [rowsF]
set_option maxRecDepth 100000 in
set_option maxHeartbeats 1600000 in
/-- the second half: through its own rows. -/
theorem bivarBack_c (A : Option Addr) (f : List (List Int)) (ca : Nat) (B : Option Addr) (rows : List (List Int)) (cb : Nat) (C : Option Addr) (xs : List Int) (cc : Nat) (q : Int) (w : World)
    (hA : Grid w A f) (lf : f.length ≤ 9223372036854775807) (uf : Words f) (hB : Grid w B rows) (lr : rows.length ≤ 9223372036854775807) (ur : Words rows) (hC : Cells w C (u64v xs)) (lx : xs.length ≤ 9223372036854775807) (ux : U64s xs)
    (hq : U64 q) (hT : Tabs w) (hp : ∀ {q : Int}, primeV q = true → Go.Psi.Pr q.toNat) :
    Calls Tryd.prog 9 #[.slice A f.length ca, .slice B rows.length cb, .slice C xs.length cc, .int .u64 q] w fun e w' => e = .returned (.bool true) ∧ Below w.heap.size w w' := by
  go_enter Tryd.func9, Tryd.ntmps9
  go_wp2_with (fail)
  refine (works06_c w).mono ?_
  rintro e w1 ⟨rfl, hb1⟩
  go_wp2_with (fail)
  have hr0 := row1_new w1 [.slice A f.length ca, .slice B rows.length cb] 22
  simp only [List.toArray] at hr0
  have hb0 := below_next hb1 hb1.size (below_alloc w1 (.cells #[.slice A f.length ca, .slice B rows.length cb] 22))
  have hG : Grids6 (w1.alloc (.cells #[.slice A f.length ca, .slice B rows.length cb] 22)) (some ⟨w1.heap.size, 0, none⟩) [f, rows] := by
    refine ⟨_, hr0.cells, rfl, fun i g hg => ?_⟩
    match i, hg with
    | 0, hg => obtain rfl := Option.some.inj hg; exact ⟨_, _, rfl, hA.below hb0, lf⟩
    | 1, hg => obtain rfl := Option.some.inj hg; exact ⟨_, _, rfl, hB.below hb0, lr⟩
    | i + 2, hg => simp at hg
  refine (largeG06_c _ [f, rows] 2 _ hG (by simp)).mono ?_
  rintro e w2 ⟨⟨bl, rfl, hfew⟩, hd2⟩
  have hb2 := below_dr hb0 hd2
  clear hr0 hb0 hd2 hb1 hG
  cases bl with
  | true =>
    clear hfew
    go_wp2_with (fail)
    refine (works06_c w2).mono ?_
    rintro e wz ⟨rfl, hbz⟩
    go_wp2
    go_ret
    exact ⟨rfl, below_next hb2 hb2.size hbz⟩
  | false =>
    obtain ⟨hf20, hwf20⟩ := hfew rfl f (by simp)
    obtain ⟨hr20, hwr20⟩ := hfew rfl rows (by simp)
    clear hfew
    by_cases hx12 : xs.length ≤ 12
    case neg =>
      go_wp2_with (fail)
      refine (works06_c w2).mono ?_
      rintro e wz ⟨rfl, hbz⟩
      go_wp2
      go_ret
      exact ⟨rfl, below_next hb2 hb2.size hbz⟩
    by_cases hq61 : q ≤ 2305843009213693952
    case neg =>
      go_wp2_with (fail)
      refine (works06_c w2).mono ?_
      rintro e wz ⟨rfl, hbz⟩
      go_wp2
      go_ret
      exact ⟨rfl, below_next hb2 hb2.size hbz⟩
    go_wp2_with (fail)
    refine (prime_c q hq w2 (hT.below hb2)).mono ?_
    rintro e w3 ⟨rfl, hd⟩
    replace hb2 := below_dr hb2 hd
    clear hd
    cases hpv : primeV q with
    | false =>
      go_wp2_with (fail)
      refine (works06_c w3).mono ?_
      rintro e wz ⟨rfl, hbz⟩
      go_wp2
      go_ret
      exact ⟨rfl, below_next hb2 hb2.size hbz⟩
    | true =>
      obtain ⟨hok, hq2⟩ := okm_prime hpv
      have hpr := hp hpv
      clear hpv hp
      go_wp2_with (fail)
      refine (apart06_c C xs cc q w3 (hC.below hb2) lx ux hq (by omega)).mono ?_
      rintro e w4 ⟨⟨b, rfl, htwo⟩, hb⟩
      replace hb2 := below_next hb2 hb2.size hb
      clear hb
      cases b with
      | false =>
        clear htwo
        go_wp2_with (fail)
        refine (works06_c w4).mono ?_
        rintro e wz ⟨rfl, hbz⟩
        go_wp2
        go_ret
        exact ⟨rfl, below_next hb2 hb2.size hbz⟩
      | true =>
        have hap := (htwo rfl).apart hq2 hpr
        have hall := (htwo rfl).all hok hq2 hpr (by omega)
        have HP := hid (⟨hok, hq2, hap, hall⟩ : _ ∧ _ ∧ _ ∧ _)
        clear htwo hap hall hpr hok hT
        have hA4 := hA.below hb2
        have hB4 := hB.below hb2
        have hC4 := hC.below hb2
        clear hA hB hC
        have hthr := bthrough_c C B xs rows cc cb q w4 hC4 hB4 (by omega) (by omega) (by omega) ux ur hq
        rw [bErr_ok HP.out.2.2.2] at hthr
        have HTH := hid hthr
        clear hthr
        -- what the first half leaves
        have first : ∃ (en : Int) (G : List (List Int)), (if xs.length = rows.length then (0 : Int) else 1) = en ∧ bVal xs rows q = G ∧ (xs.length = rows.length ∧ en = 0 ∧ G = bPart xs rows q (wide rows) ∨ xs.length ≠ rows.length ∧ en = 1 ∧ G = []) := by
          by_cases h : xs.length = rows.length
          · have he : bErr xs rows q = 0 := by rw [bErr_ok HP.out.2.2.2, if_pos h]
            exact ⟨_, _, rfl, rfl, .inl ⟨h, if_pos h, bVal_ok he⟩⟩
          · have he : bErr xs rows q ≠ 0 := by rw [bErr_ok HP.out.2.2.2, if_neg h]; omega
            exact ⟨_, _, rfl, rfl, .inr ⟨h, if_neg h, by unfold bVal; rw [if_neg he]⟩⟩
        obtain ⟨en, G, e1, e2, hcase⟩ := first
        rw [e1, e2] at HTH
        clear e1 e2
        go_wp2_with (fail)
        refine HTH.out.mono ?_
        rintro e w5 ⟨v5, rfl, hR5, hb5⟩
        clear HTH
        have hGl : G.length ≤ 1000000 := by
          rcases hcase with ⟨_, _, rfl⟩ | ⟨_, _, rfl⟩
          · rw [bPart_len]; omega
          · simp
        obtain ⟨A5, c5, rfl, hG5⟩ := hR5.grid hGl
        clear hR5
        -- both go on to the second half
        have rest : ∀ w6 : World, Below w4.heap.size w4 w6 → True := fun _ _ => trivial
        clear rest
        rcases hcase with ⟨hlen, rfl, rfl⟩ | ⟨hlen, rfl, rfl⟩
        · have hlen2 : ((xs.length : Int) == (rows.length : Int)) = true := by simp; omega
          have hbk := fun (k : Nat) x l (hx : xs[k]? = some x) (hk : rows[k]? = some l) => back_row HP.out.1 HP.out.2.2.1 HP.out.2.2.2 hlen hx hk
          have hGw := bPart_words xs rows q (wide rows)
          have hGl2 := bPart_len xs rows q (wide rows)
          have hGwd : wide (bPart xs rows q (wide rows)) ≤ 20 := wide_le fun l hl => by
            obtain ⟨i, _, rfl⟩ := List.mem_map.1 hl
            simp; omega
          generalize bPart xs rows q (wide rows) = G at *
          have HB := hid (⟨hbk, hlen⟩ : _ ∧ _)
          have hG12 : G.length ≤ 12 := by omega
          clear hbk hlen hGl2
          go_wp2
          go_loopw [11, 12, 13, 14, 15] (fun i _ _ _ _ wr => ∃ k : Nat, i = .int .i64 k ∧ k ≤ rows.length ∧ Below w5.heap.size w5 wr) (fun i _ _ _ _ _ => rows.length - (intOf i).toNat)
          case atStart => exact ⟨0, rfl, by omega, Below.refl _ _⟩
          case round =>
            obtain ⟨k, rfl, hk, hw1⟩ := hrel
            by_cases hlt : k < rows.length
            · obtain ⟨l, hl⟩ := get_of_lt hlt
              have hkx : k < xs.length := by have := HB.out.2; omega
              obtain ⟨x, hx⟩ := get_of_lt hkx
              obtain ⟨hR1, hR2⟩ := HB.out.1 k x l hx hl
              obtain ⟨b1, o1, e1, hcx⟩ := ((hC4.below hb5).below hw1).at_map hx
              obtain ⟨b2, o2, A8, c8, e2, hcl, hcs, hln⟩ := ((hB4.below hb5).below hw1).at_ hl
              have hxu := ux x (List.mem_of_getElem? hx)
              have hul := ur l (List.mem_of_getElem? hl)
              have hwd := le_wide (List.mem_of_getElem? hl)
              subst e1 e2
              clear hx hl
              have hrow := brow_c A5 G c5 x q _ (hG5.below hw1) (by omega) (by omega) hGw hxu hq
              have hRu := mRow_u64 G x q
              generalize mRow G x q = R at *
              have HR := hid (⟨hR1, hR2, hrow⟩ : _ ∧ _ ∧ _)
              clear hR1 hR2 hrow
              go_wp2_with (fail)
              refine HR.out.2.2.mono ?_
              rintro e w7 ⟨v7, rfl, ho7, hb7⟩
              obtain ⟨A7, c7, rfl, hc7⟩ := ho7.form
              clear ho7
              rw [List.length_map, HR.out.1]
              have hcl7 := (hb7.cell (lt_of_cell hcl)).trans hcl
              replace hcs := hcs.below hb7
              replace hw1 := below_next hw1 hw1.size hb7
              clear hb7 hcl hcx
              go_wp2
              go_loopw [13, 14, 15] (fun j _ _ w8 => ∃ m : Nat, j = .int .i64 m ∧ m ≤ wide rows ∧ Below w7.heap.size w7 w8) (fun j _ _ _ => wide rows - (intOf j).toNat)
              case atStart => exact ⟨0, rfl, by omega, Below.refl _ _⟩
              case round =>
                obtain ⟨m, rfl, hm, hw8⟩ := hrel
                have hcl8 := (hw8.cell (lt_of_cell hcl7)).trans hcl7
                by_cases hlt2 : m < wide rows
                · obtain ⟨z, hz⟩ := get_of_lt (l := R) (show m < R.length by rw [HR.out.1]; exact hlt2)
                  have hzv := (getD_in' hz).symm.trans (HR.out.2.1 m)
                  obtain ⟨b3, o3, rfl, hcz⟩ := (hc7.below hw8).at_map hz
                  clear hz
                  by_cases hml : m < l.length
                  · obtain ⟨y, hy⟩ := get_of_lt hml
                    obtain ⟨b4, o4, rfl, hcy⟩ := (hcs.below hw8).at_map hy
                    have hyt := tmodR (q := q) (hul y (List.mem_of_getElem? hy))
                    rw [getD_in' hy] at hzv
                    rw [hzv] at hcz
                    clear hy hzv
                    go_wp2
                    go_roundw
                    case rel => exact ⟨m + 1, by go_num, by omega, hw8⟩
                    case measure => simp [intOf]; omega
                  · rw [getD_of (by omega), Int.zero_emod] at hzv
                    rw [hzv] at hcz
                    clear hzv
                    go_wp2
                    go_roundw
                    case rel => exact ⟨m + 1, by go_num, by omega, hw8⟩
                    case measure => simp [intOf]; omega
                · obtain rfl : m = wide rows := by omega
                  go_wp2
                  go_roundw
                  case rel => exact ⟨k + 1, by go_num, by omega, below_next hw1 hw1.size hw8⟩
                  case measure => simp [intOf]; omega
            · obtain rfl : k = rows.length := by omega
              have hw := below_next hb5 hb5.size hw1
              clear hw1 HB hGw hGwd hG12 hGl
              by_cases hxf : xs.length = f.length
              case neg =>
                have hne : ((xs.length : Int) != (f.length : Int)) = true := by simp; omega
                go_wp2
                go_ret
                exact ⟨rfl, below_next hb2 hb2.size hw⟩
              have hne : ((xs.length : Int) != (f.length : Int)) = false := by simp; omega
              have hfl := rowsF_len f xs q
              have hF0 : bErr xs (rowsF f xs q) q = 0 := by rw [bErr_ok HP.out.2.2.2, if_pos hfl.symm]
              have hFv := bVal_ok hF0
              have hF1 := fun (i j : Nat) l g (hi : f[i]? = some l) (hj : j < wide f) hg => back_all HP.out.1 HP.out.2.2.1 HP.out.2.2.2 hxf (g := g) hi hj hg
              have hF2 := fun i (h : i < xs.length) => bPart_row (f := rowsF f xs q) (q := q) (k := wide (rowsF f xs q)) h
              have hF3 := fun (h : 0 < xs.length) => rowsF_wide (f := f) (q := q) h
              have hF4 := rowsF_words f xs q
              have hF5 := fun k x (h : xs[k]? = some x) => rowsF_at (f := f) (q := q) h
              have hF6 : wide (rowsF f xs q) ≤ 20 := by
                rcases Nat.eq_zero_or_pos xs.length with h | h
                · have h0 : (rowsF f xs q).length = 0 := by omega
                  rw [List.eq_nil_of_length_eq_zero h0]
                  simp [wide]
                · rw [hF3 h]; omega
              have hG2l := bPart_len xs (rowsF f xs q) q (wide (rowsF f xs q))
              generalize hFF : rowsF f xs q = F at *
              have HF := hid (⟨hF0, hFv, hF1, hF2, hF3, hF5, hxf, hfl⟩ : _ ∧ _ ∧ _ ∧ _ ∧ _ ∧ _ ∧ _ ∧ _)
              have hFl12 : F.length ≤ 12 := by omega
              clear hF0 hFv hF1 hF2 hF3 hF5 hxf hfl hFF
              go_wp2
              clear hG5
              go_loopw [16, 17] (fun o i w6 => ∃ k : Nat, i = .int .i64 k ∧ k ≤ xs.length ∧ OwnRows w6 w4.heap.size 23 24 o (rowsU6 (F.take k)) ∧ Below w4.heap.size w4 w6) (fun _ i _ => xs.length - (intOf i).toNat)
              case atStart => exact ⟨0, rfl, by omega, by
                have := (OwnRows.nil w4 w4.heap.size 23 24).below (Below.refl _ _)
                exact ⟨[], Own.nil _ _ _, by simp [rowsU6], fun j u xs h => by simp at h⟩, hw⟩
              case round =>
                obtain ⟨k, rfl, hk, ⟨vs, hown, hvl, hvr⟩, hb⟩ := hrel
                by_cases hlt : k < xs.length
                · obtain ⟨x, hx⟩ := get_of_lt hlt
                  obtain ⟨bb, off, e1, hcx⟩ := (hC4.below hb).at_map hx
                  have hxu := ux x (List.mem_of_getElem? hx)
                  have hz := HF.out.2.2.2.2.2.1 k x hx
                  subst e1
                  have hvl' : vs.length = k := by rw [hvl]; simp [rowsU6]; have := HF.out.2.2.2.2.2.2.2; omega
                  have HV := hid (⟨hz, hvl, hvl', hvr⟩ : _ ∧ _ ∧ _ ∧ _)
                  clear hz hvl hvl' hvr hx
                  go_wp2_with (fail)
                  refine (brow_c A f ca x q _ (hA4.below hb) (by omega) (by omega) uf hxu hq).mono ?_
                  rintro e w7 ⟨v7, rfl, ho7, hb7⟩
                  have hrt := ho7.rowT
                  obtain ⟨A7, c7, rfl, _⟩ := ho7.form
                  rw [List.length_map] at hrt ⊢
                  have hown5 := hown.below hb7
                  have hvr5 : ∀ (j : Nat) u ys, vs[j]? = some u → (rowsU6 (F.take k))[j]? = some ys → RowT w7 24 u ys := fun j u ys a b => (HV.out.2.2.2 j u ys a b).below hb7
                  have HVR := hid hvr5
                  have hb8 := below_next hb hb.size hb7
                  clear hvr5 ho7 hb7 hown
                  go_wp2_with (at_builtin; refine wpList_push elt_rows w7 rfl _ _ rfl w4.heap.size hown5 rfl (.slice A7 _ c7) rfl rfl (by rw [HV.out.2.2.1]; omega) (by rw [HV.out.2.2.1]; omega) hb8.size ?_; intro v' w9 hown6 hoth hb9)
                  go_roundw
                  case rel =>
                    have hrows := OwnRows.push (w := w7) (by decide) HV.out.2.1 HVR.out hown5 hrt hown6 hoth
                    rw [rowsU6_take HV.out.1] at hrows
                    exact ⟨k + 1, by go_num, by omega, hrows, hb8.trans hb9⟩
                  case measure => simp [intOf]; omega
                · obtain rfl : k = xs.length := by omega
                  rw [List.take_of_length_le (by have := HF.out.2.2.2.2.2.2.2; omega)] at hvl hvr
                  have hOR : OwnRows _ w4.heap.size 23 24 _ (F.map (·.map (Value.int .u64))) := ⟨vs, hown, hvl, hvr⟩
                  obtain ⟨A6, c6, rfl, hg6, _⟩ := hOR.grid
                  clear hOR hown hvl hvr
                  have hthr := bthrough_c C A6 xs F cc c6 q _ (hC4.below hb) hg6 (by omega) (by omega) (by omega) ux hF4 hq
                  rw [HF.out.1, HF.out.2.1] at hthr
                  have HTH := hid hthr
                  clear hthr hg6
                  go_wp2_with (fail)
                  refine HTH.out.mono ?_
                  rintro e w7 ⟨v7, rfl, hR7, hb7⟩
                  clear HTH
                  obtain ⟨A7, c7, rfl, hg7⟩ := hR7.grid (by omega)
                  clear hR7
                  replace hb := below_next hb hb.size hb7
                  clear hb7
                  have hlf : (bPart xs F q (wide F)).length = f.length := by have := HF.out.2.2.2.2.2.2.1; omega
                  have hne2 : (((bPart xs F q (wide F)).length : Int) != (f.length : Int)) = false := by simp; omega
                  generalize bPart xs F q (wide F) = G2 at *
                  have HG := hid hlf
                  clear hlf hG2l
                  go_wp2
                  go_loopw [18, 19, 20] (fun i _ _ w8 => ∃ k : Nat, i = .int .i64 k ∧ k ≤ f.length ∧ Below w7.heap.size w7 w8) (fun i _ _ _ => f.length - (intOf i).toNat)
                  case atStart => exact ⟨0, rfl, by omega, Below.refl _ _⟩
                  case round =>
                    obtain ⟨i, rfl, hi, hw8⟩ := hrel
                    by_cases hlt : i < f.length
                    · obtain ⟨l, hl⟩ := get_of_lt hlt
                      have hix : i < xs.length := by have := HF.out.2.2.2.2.2.2.1; omega
                      have hgi := HF.out.2.2.2.1 i hix
                      have hgw := HF.out.2.2.2.2.1 (by omega)
                      rw [hgw] at hgi
                      obtain ⟨gi, hgi2⟩ : ∃ gi, G2[i]? = some gi := ⟨_, hgi⟩
                      have hgl : gi.length = wide f := by
                        rw [hgi] at hgi2
                        obtain rfl := Option.some.inj hgi2
                        simp
                      have hgv := fun j hj => HF.out.2.2.1 i j l gi hl hj hgi2
                      obtain ⟨b1, o1, A8, c8, e1, hcl, hcs, hln⟩ := ((hA4.below hb).below hw8).at_ hl
                      obtain ⟨b2, o2, A9, c9, e2, hcg, hcsg, hlng⟩ := (hg7.below hw8).at_ hgi2
                      have hul := uf l (List.mem_of_getElem? hl)
                      subst e1 e2
                      have HGI := hid (⟨hgv, hgl⟩ : _ ∧ _)
                      have hwd := le_wide (List.mem_of_getElem? hl)
                      have hiG : i < G2.length := by have := HG.out; omega
                      clear hl hgi hgw hgi2 hgv
                      rw [hgl] at hcg
                      clear hgl
                      go_wp2
                      generalize wr = wo at *
                      go_loopw [19, 20] (fun j _ w10 => ∃ m : Nat, j = .int .i64 m ∧ m ≤ wide f ∧ Below wo.heap.size wo w10) (fun j _ _ => wide f - (intOf j).toNat)
                      case atStart => exact ⟨0, rfl, by omega, Below.refl _ _⟩
                      case round =>
                        obtain ⟨m, rfl, hm, hw10⟩ := hrel
                        have HWD := hid (rwide_c _ f ca _ (((hA4.below hb).below hw8).below hw10) (by omega))
                        by_cases hlt2 : m < wide f
                        · have hgm := HGI.out.1 m hlt2
                          have hcl2 := (hw10.cell (lt_of_cell hcl)).trans hcl
                          have hcg2 := (hw10.cell (lt_of_cell hcg)).trans hcg
                          obtain ⟨b3, o3, rfl, hcz⟩ := (hcsg.below hw10).at_map hgm
                          by_cases hml : m < l.length
                          · obtain ⟨y, hy⟩ := get_of_lt hml
                            obtain ⟨b4, o4, rfl, hcy⟩ := (hcs.below hw10).at_map hy
                            have hyt := tmodR (q := q) (hul y (List.mem_of_getElem? hy))
                            rw [getD_in' hy] at hcz
                            clear hgm hy
                            go_wp2_with (go_at_call 49; refine HWD.out.mono ?_; rintro e w11 ⟨rfl, rfl⟩)
                            go_roundw
                            case rel => exact ⟨m + 1, by go_num, by omega, hw10⟩
                            case measure => simp [intOf]; omega
                          · rw [getD_of (by omega), Int.zero_emod] at hcz
                            clear hgm
                            go_wp2_with (go_at_call 49; refine HWD.out.mono ?_; rintro e w11 ⟨rfl, rfl⟩)
                            go_roundw
                            case rel => exact ⟨m + 1, by go_num, by omega, hw10⟩
                            case measure => simp [intOf]; omega
                        · obtain rfl : m = wide f := by omega
                          go_wp2_with (go_at_call 49; refine HWD.out.mono ?_; rintro e w11 ⟨rfl, rfl⟩)
                          go_roundw
                          case rel => exact ⟨i + 1, by go_num, by omega, below_next hw8 hw8.size hw10⟩
                          case measure => simp [intOf]; omega
                    · obtain rfl : i = f.length := by omega
                      go_wp2
                      go_ret
                      exact ⟨rfl, below_next hb2 hb2.size (below_next hb hb.size hw8)⟩
        · have hlen2 : ((xs.length : Int) == (rows.length : Int)) = false := by simp; omega
          clear hlen hGl
          go_wp2
          go_loopw [11, 12, 13, 14, 15] (fun i _ _ _ _ wr => i = .int .i64 0 ∧ Below w5.heap.size w5 wr) (fun i _ _ _ _ _ => 0)
          case atStart => exact ⟨rfl, Below.refl _ _⟩
          case round =>
            obtain ⟨rfl, hw1⟩ := hrel
            have hw := below_next hb5 hb5.size hw1
            clear hw1
            by_cases hr0 : 0 < rows.length
            · skip
              by_cases hxf : xs.length = f.length
              case neg =>
                have hne : ((xs.length : Int) != (f.length : Int)) = true := by simp; omega
                go_wp2
                go_ret
                exact ⟨rfl, below_next hb2 hb2.size hw⟩
              have hne : ((xs.length : Int) != (f.length : Int)) = false := by simp; omega
              have hfl := rowsF_len f xs q
              have hF0 : bErr xs (rowsF f xs q) q = 0 := by rw [bErr_ok HP.out.2.2.2, if_pos hfl.symm]
              have hFv := bVal_ok hF0
              have hF1 := fun (i j : Nat) l g (hi : f[i]? = some l) (hj : j < wide f) hg => back_all HP.out.1 HP.out.2.2.1 HP.out.2.2.2 hxf (g := g) hi hj hg
              have hF2 := fun i (h : i < xs.length) => bPart_row (f := rowsF f xs q) (q := q) (k := wide (rowsF f xs q)) h
              have hF3 := fun (h : 0 < xs.length) => rowsF_wide (f := f) (q := q) h
              have hF4 := rowsF_words f xs q
              have hF5 := fun k x (h : xs[k]? = some x) => rowsF_at (f := f) (q := q) h
              have hF6 : wide (rowsF f xs q) ≤ 20 := by
                rcases Nat.eq_zero_or_pos xs.length with h | h
                · have h0 : (rowsF f xs q).length = 0 := by omega
                  rw [List.eq_nil_of_length_eq_zero h0]
                  simp [wide]
                · rw [hF3 h]; omega
              have hG2l := bPart_len xs (rowsF f xs q) q (wide (rowsF f xs q))
              generalize hFF : rowsF f xs q = F at *
              have HF := hid (⟨hF0, hFv, hF1, hF2, hF3, hF5, hxf, hfl⟩ : _ ∧ _ ∧ _ ∧ _ ∧ _ ∧ _ ∧ _ ∧ _)
              have hFl12 : F.length ≤ 12 := by omega
              clear hF0 hFv hF1 hF2 hF3 hF5 hxf hfl hFF
              go_wp2
              clear hG5
              go_loopw [16, 17] (fun o i w6 => ∃ k : Nat, i = .int .i64 k ∧ k ≤ xs.length ∧ OwnRows w6 w4.heap.size 23 24 o (rowsU6 (F.take k)) ∧ Below w4.heap.size w4 w6) (fun _ i _ => xs.length - (intOf i).toNat)
              case atStart => exact ⟨0, rfl, by omega, by
                have := (OwnRows.nil w4 w4.heap.size 23 24).below (Below.refl _ _)
                exact ⟨[], Own.nil _ _ _, by simp [rowsU6], fun j u xs h => by simp at h⟩, hw⟩
              case round =>
                obtain ⟨k, rfl, hk, ⟨vs, hown, hvl, hvr⟩, hb⟩ := hrel
                by_cases hlt : k < xs.length
                · obtain ⟨x, hx⟩ := get_of_lt hlt
                  obtain ⟨bb, off, e1, hcx⟩ := (hC4.below hb).at_map hx
                  have hxu := ux x (List.mem_of_getElem? hx)
                  have hz := HF.out.2.2.2.2.2.1 k x hx
                  subst e1
                  have hvl' : vs.length = k := by rw [hvl]; simp [rowsU6]; have := HF.out.2.2.2.2.2.2.2; omega
                  have HV := hid (⟨hz, hvl, hvl', hvr⟩ : _ ∧ _ ∧ _ ∧ _)
                  clear hz hvl hvl' hvr hx
                  go_wp2_with (fail)
                  refine (brow_c A f ca x q _ (hA4.below hb) (by omega) (by omega) uf hxu hq).mono ?_
                  rintro e w7 ⟨v7, rfl, ho7, hb7⟩
                  have hrt := ho7.rowT
                  obtain ⟨A7, c7, rfl, _⟩ := ho7.form
                  rw [List.length_map] at hrt ⊢
                  have hown5 := hown.below hb7
                  have hvr5 : ∀ (j : Nat) u ys, vs[j]? = some u → (rowsU6 (F.take k))[j]? = some ys → RowT w7 24 u ys := fun j u ys a b => (HV.out.2.2.2 j u ys a b).below hb7
                  have HVR := hid hvr5
                  have hb8 := below_next hb hb.size hb7
                  clear hvr5 ho7 hb7 hown
                  go_wp2_with (at_builtin; refine wpList_push elt_rows w7 rfl _ _ rfl w4.heap.size hown5 rfl (.slice A7 _ c7) rfl rfl (by rw [HV.out.2.2.1]; omega) (by rw [HV.out.2.2.1]; omega) hb8.size ?_; intro v' w9 hown6 hoth hb9)
                  go_roundw
                  case rel =>
                    have hrows := OwnRows.push (w := w7) (by decide) HV.out.2.1 HVR.out hown5 hrt hown6 hoth
                    rw [rowsU6_take HV.out.1] at hrows
                    exact ⟨k + 1, by go_num, by omega, hrows, hb8.trans hb9⟩
                  case measure => simp [intOf]; omega
                · obtain rfl : k = xs.length := by omega
                  rw [List.take_of_length_le (by have := HF.out.2.2.2.2.2.2.2; omega)] at hvl hvr
                  have hOR : OwnRows _ w4.heap.size 23 24 _ (F.map (·.map (Value.int .u64))) := ⟨vs, hown, hvl, hvr⟩
                  obtain ⟨A6, c6, rfl, hg6, _⟩ := hOR.grid
                  clear hOR hown hvl hvr
                  have hthr := bthrough_c C A6 xs F cc c6 q _ (hC4.below hb) hg6 (by omega) (by omega) (by omega) ux hF4 hq
                  rw [HF.out.1, HF.out.2.1] at hthr
                  have HTH := hid hthr
                  clear hthr hg6
                  go_wp2_with (fail)
                  refine HTH.out.mono ?_
                  rintro e w7 ⟨v7, rfl, hR7, hb7⟩
                  clear HTH
                  obtain ⟨A7, c7, rfl, hg7⟩ := hR7.grid (by omega)
                  clear hR7
                  replace hb := below_next hb hb.size hb7
                  clear hb7
                  have hlf : (bPart xs F q (wide F)).length = f.length := by have := HF.out.2.2.2.2.2.2.1; omega
                  have hne2 : (((bPart xs F q (wide F)).length : Int) != (f.length : Int)) = false := by simp; omega
                  generalize bPart xs F q (wide F) = G2 at *
                  have HG := hid hlf
                  clear hlf hG2l
                  go_wp2
                  go_loopw [18, 19, 20] (fun i _ _ w8 => ∃ k : Nat, i = .int .i64 k ∧ k ≤ f.length ∧ Below w7.heap.size w7 w8) (fun i _ _ _ => f.length - (intOf i).toNat)
                  case atStart => exact ⟨0, rfl, by omega, Below.refl _ _⟩
                  case round =>
                    obtain ⟨i, rfl, hi, hw8⟩ := hrel
                    by_cases hlt : i < f.length
                    · obtain ⟨l, hl⟩ := get_of_lt hlt
                      have hix : i < xs.length := by have := HF.out.2.2.2.2.2.2.1; omega
                      have hgi := HF.out.2.2.2.1 i hix
                      have hgw := HF.out.2.2.2.2.1 (by omega)
                      rw [hgw] at hgi
                      obtain ⟨gi, hgi2⟩ : ∃ gi, G2[i]? = some gi := ⟨_, hgi⟩
                      have hgl : gi.length = wide f := by
                        rw [hgi] at hgi2
                        obtain rfl := Option.some.inj hgi2
                        simp
                      have hgv := fun j hj => HF.out.2.2.1 i j l gi hl hj hgi2
                      obtain ⟨b1, o1, A8, c8, e1, hcl, hcs, hln⟩ := ((hA4.below hb).below hw8).at_ hl
                      obtain ⟨b2, o2, A9, c9, e2, hcg, hcsg, hlng⟩ := (hg7.below hw8).at_ hgi2
                      have hul := uf l (List.mem_of_getElem? hl)
                      subst e1 e2
                      have HGI := hid (⟨hgv, hgl⟩ : _ ∧ _)
                      have hwd := le_wide (List.mem_of_getElem? hl)
                      have hiG : i < G2.length := by have := HG.out; omega
                      clear hl hgi hgw hgi2 hgv
                      rw [hgl] at hcg
                      clear hgl
                      go_wp2
                      generalize wr = wo at *
                      go_loopw [19, 20] (fun j _ w10 => ∃ m : Nat, j = .int .i64 m ∧ m ≤ wide f ∧ Below wo.heap.size wo w10) (fun j _ _ => wide f - (intOf j).toNat)
                      case atStart => exact ⟨0, rfl, by omega, Below.refl _ _⟩
                      case round =>
                        obtain ⟨m, rfl, hm, hw10⟩ := hrel
                        have HWD := hid (rwide_c _ f ca _ (((hA4.below hb).below hw8).below hw10) (by omega))
                        by_cases hlt2 : m < wide f
                        · have hgm := HGI.out.1 m hlt2
                          have hcl2 := (hw10.cell (lt_of_cell hcl)).trans hcl
                          have hcg2 := (hw10.cell (lt_of_cell hcg)).trans hcg
                          obtain ⟨b3, o3, rfl, hcz⟩ := (hcsg.below hw10).at_map hgm
                          by_cases hml : m < l.length
                          · obtain ⟨y, hy⟩ := get_of_lt hml
                            obtain ⟨b4, o4, rfl, hcy⟩ := (hcs.below hw10).at_map hy
                            have hyt := tmodR (q := q) (hul y (List.mem_of_getElem? hy))
                            rw [getD_in' hy] at hcz
                            clear hgm hy
                            go_wp2_with (go_at_call 49; refine HWD.out.mono ?_; rintro e w11 ⟨rfl, rfl⟩)
                            go_roundw
                            case rel => exact ⟨m + 1, by go_num, by omega, hw10⟩
                            case measure => simp [intOf]; omega
                          · rw [getD_of (by omega), Int.zero_emod] at hcz
                            clear hgm
                            go_wp2_with (go_at_call 49; refine HWD.out.mono ?_; rintro e w11 ⟨rfl, rfl⟩)
                            go_roundw
                            case rel => exact ⟨m + 1, by go_num, by omega, hw10⟩
                            case measure => simp [intOf]; omega
                        · obtain rfl : m = wide f := by omega
                          go_wp2_with (go_at_call 49; refine HWD.out.mono ?_; rintro e w11 ⟨rfl, rfl⟩)
                          go_roundw
                          case rel => exact ⟨i + 1, by go_num, by omega, below_next hw8 hw8.size hw10⟩
                          case measure => simp [intOf]; omega
                    · obtain rfl : i = f.length := by omega
                      go_wp2
                      go_ret
                      exact ⟨rfl, below_next hb2 hb2.size (below_next hb hb.size hw8)⟩
            · skip
              by_cases hxf : xs.length = f.length
              case neg =>
                have hne : ((xs.length : Int) != (f.length : Int)) = true := by simp; omega
                go_wp2
                go_ret
                exact ⟨rfl, below_next hb2 hb2.size hw⟩
              have hne : ((xs.length : Int) != (f.length : Int)) = false := by simp; omega
              have hfl := rowsF_len f xs q
              have hF0 : bErr xs (rowsF f xs q) q = 0 := by rw [bErr_ok HP.out.2.2.2, if_pos hfl.symm]
              have hFv := bVal_ok hF0
              have hF1 := fun (i j : Nat) l g (hi : f[i]? = some l) (hj : j < wide f) hg => back_all HP.out.1 HP.out.2.2.1 HP.out.2.2.2 hxf (g := g) hi hj hg
              have hF2 := fun i (h : i < xs.length) => bPart_row (f := rowsF f xs q) (q := q) (k := wide (rowsF f xs q)) h
              have hF3 := fun (h : 0 < xs.length) => rowsF_wide (f := f) (q := q) h
              have hF4 := rowsF_words f xs q
              have hF5 := fun k x (h : xs[k]? = some x) => rowsF_at (f := f) (q := q) h
              have hF6 : wide (rowsF f xs q) ≤ 20 := by
                rcases Nat.eq_zero_or_pos xs.length with h | h
                · have h0 : (rowsF f xs q).length = 0 := by omega
                  rw [List.eq_nil_of_length_eq_zero h0]
                  simp [wide]
                · rw [hF3 h]; omega
              have hG2l := bPart_len xs (rowsF f xs q) q (wide (rowsF f xs q))
              generalize hFF : rowsF f xs q = F at *
              have HF := hid (⟨hF0, hFv, hF1, hF2, hF3, hF5, hxf, hfl⟩ : _ ∧ _ ∧ _ ∧ _ ∧ _ ∧ _ ∧ _ ∧ _)
              have hFl12 : F.length ≤ 12 := by omega
              clear hF0 hFv hF1 hF2 hF3 hF5 hxf hfl hFF
              go_wp2
              clear hG5
              go_loopw [16, 17] (fun o i w6 => ∃ k : Nat, i = .int .i64 k ∧ k ≤ xs.length ∧ OwnRows w6 w4.heap.size 23 24 o (rowsU6 (F.take k)) ∧ Below w4.heap.size w4 w6) (fun _ i _ => xs.length - (intOf i).toNat)
              case atStart => exact ⟨0, rfl, by omega, by
                have := (OwnRows.nil w4 w4.heap.size 23 24).below (Below.refl _ _)
                exact ⟨[], Own.nil _ _ _, by simp [rowsU6], fun j u xs h => by simp at h⟩, hw⟩
              case round =>
                obtain ⟨k, rfl, hk, ⟨vs, hown, hvl, hvr⟩, hb⟩ := hrel
                by_cases hlt : k < xs.length
                · obtain ⟨x, hx⟩ := get_of_lt hlt
                  obtain ⟨bb, off, e1, hcx⟩ := (hC4.below hb).at_map hx
                  have hxu := ux x (List.mem_of_getElem? hx)
                  have hz := HF.out.2.2.2.2.2.1 k x hx
                  subst e1
                  have hvl' : vs.length = k := by rw [hvl]; simp [rowsU6]; have := HF.out.2.2.2.2.2.2.2; omega
                  have HV := hid (⟨hz, hvl, hvl', hvr⟩ : _ ∧ _ ∧ _ ∧ _)
                  clear hz hvl hvl' hvr hx
                  go_wp2_with (fail)
                  refine (brow_c A f ca x q _ (hA4.below hb) (by omega) (by omega) uf hxu hq).mono ?_
                  rintro e w7 ⟨v7, rfl, ho7, hb7⟩
                  have hrt := ho7.rowT
                  obtain ⟨A7, c7, rfl, _⟩ := ho7.form
                  rw [List.length_map] at hrt ⊢
                  have hown5 := hown.below hb7
                  have hvr5 : ∀ (j : Nat) u ys, vs[j]? = some u → (rowsU6 (F.take k))[j]? = some ys → RowT w7 24 u ys := fun j u ys a b => (HV.out.2.2.2 j u ys a b).below hb7
                  have HVR := hid hvr5
                  have hb8 := below_next hb hb.size hb7
                  clear hvr5 ho7 hb7 hown
                  go_wp2_with (at_builtin; refine wpList_push elt_rows w7 rfl _ _ rfl w4.heap.size hown5 rfl (.slice A7 _ c7) rfl rfl (by rw [HV.out.2.2.1]; omega) (by rw [HV.out.2.2.1]; omega) hb8.size ?_; intro v' w9 hown6 hoth hb9)
                  go_roundw
                  case rel =>
                    have hrows := OwnRows.push (w := w7) (by decide) HV.out.2.1 HVR.out hown5 hrt hown6 hoth
                    rw [rowsU6_take HV.out.1] at hrows
                    exact ⟨k + 1, by go_num, by omega, hrows, hb8.trans hb9⟩
                  case measure => simp [intOf]; omega
                · obtain rfl : k = xs.length := by omega
                  rw [List.take_of_length_le (by have := HF.out.2.2.2.2.2.2.2; omega)] at hvl hvr
                  have hOR : OwnRows _ w4.heap.size 23 24 _ (F.map (·.map (Value.int .u64))) := ⟨vs, hown, hvl, hvr⟩
                  obtain ⟨A6, c6, rfl, hg6, _⟩ := hOR.grid
                  clear hOR hown hvl hvr
                  have hthr := bthrough_c C A6 xs F cc c6 q _ (hC4.below hb) hg6 (by omega) (by omega) (by omega) ux hF4 hq
                  rw [HF.out.1, HF.out.2.1] at hthr
                  have HTH := hid hthr
                  clear hthr hg6
                  go_wp2_with (fail)
                  refine HTH.out.mono ?_
                  rintro e w7 ⟨v7, rfl, hR7, hb7⟩
                  clear HTH
                  obtain ⟨A7, c7, rfl, hg7⟩ := hR7.grid (by omega)
                  clear hR7
                  replace hb := below_next hb hb.size hb7
                  clear hb7
                  have hlf : (bPart xs F q (wide F)).length = f.length := by have := HF.out.2.2.2.2.2.2.1; omega
                  have hne2 : (((bPart xs F q (wide F)).length : Int) != (f.length : Int)) = false := by simp; omega
                  generalize bPart xs F q (wide F) = G2 at *
                  have HG := hid hlf
                  clear hlf hG2l
                  go_wp2
                  go_loopw [18, 19, 20] (fun i _ _ w8 => ∃ k : Nat, i = .int .i64 k ∧ k ≤ f.length ∧ Below w7.heap.size w7 w8) (fun i _ _ _ => f.length - (intOf i).toNat)
                  case atStart => exact ⟨0, rfl, by omega, Below.refl _ _⟩
                  case round =>
                    obtain ⟨i, rfl, hi, hw8⟩ := hrel
                    by_cases hlt : i < f.length
                    · obtain ⟨l, hl⟩ := get_of_lt hlt
                      have hix : i < xs.length := by have := HF.out.2.2.2.2.2.2.1; omega
                      have hgi := HF.out.2.2.2.1 i hix
                      have hgw := HF.out.2.2.2.2.1 (by omega)
                      rw [hgw] at hgi
                      obtain ⟨gi, hgi2⟩ : ∃ gi, G2[i]? = some gi := ⟨_, hgi⟩
                      have hgl : gi.length = wide f := by
                        rw [hgi] at hgi2
                        obtain rfl := Option.some.inj hgi2
                        simp
                      have hgv := fun j hj => HF.out.2.2.1 i j l gi hl hj hgi2
                      obtain ⟨b1, o1, A8, c8, e1, hcl, hcs, hln⟩ := ((hA4.below hb).below hw8).at_ hl
                      obtain ⟨b2, o2, A9, c9, e2, hcg, hcsg, hlng⟩ := (hg7.below hw8).at_ hgi2
                      have hul := uf l (List.mem_of_getElem? hl)
                      subst e1 e2
                      have HGI := hid (⟨hgv, hgl⟩ : _ ∧ _)
                      have hwd := le_wide (List.mem_of_getElem? hl)
                      have hiG : i < G2.length := by have := HG.out; omega
                      clear hl hgi hgw hgi2 hgv
                      rw [hgl] at hcg
                      clear hgl
                      go_wp2
                      generalize wr = wo at *
                      go_loopw [19, 20] (fun j _ w10 => ∃ m : Nat, j = .int .i64 m ∧ m ≤ wide f ∧ Below wo.heap.size wo w10) (fun j _ _ => wide f - (intOf j).toNat)
                      case atStart => exact ⟨0, rfl, by omega, Below.refl _ _⟩
                      case round =>
                        obtain ⟨m, rfl, hm, hw10⟩ := hrel
                        have HWD := hid (rwide_c _ f ca _ (((hA4.below hb).below hw8).below hw10) (by omega))
                        by_cases hlt2 : m < wide f
                        · have hgm := HGI.out.1 m hlt2
                          have hcl2 := (hw10.cell (lt_of_cell hcl)).trans hcl
                          have hcg2 := (hw10.cell (lt_of_cell hcg)).trans hcg
                          obtain ⟨b3, o3, rfl, hcz⟩ := (hcsg.below hw10).at_map hgm
                          by_cases hml : m < l.length
                          · obtain ⟨y, hy⟩ := get_of_lt hml
                            obtain ⟨b4, o4, rfl, hcy⟩ := (hcs.below hw10).at_map hy
                            have hyt := tmodR (q := q) (hul y (List.mem_of_getElem? hy))
                            rw [getD_in' hy] at hcz
                            clear hgm hy
                            go_wp2_with (go_at_call 49; refine HWD.out.mono ?_; rintro e w11 ⟨rfl, rfl⟩)
                            go_roundw
                            case rel => exact ⟨m + 1, by go_num, by omega, hw10⟩
                            case measure => simp [intOf]; omega
                          · rw [getD_of (by omega), Int.zero_emod] at hcz
                            clear hgm
                            go_wp2_with (go_at_call 49; refine HWD.out.mono ?_; rintro e w11 ⟨rfl, rfl⟩)
                            go_roundw
                            case rel => exact ⟨m + 1, by go_num, by omega, hw10⟩
                            case measure => simp [intOf]; omega
                        · obtain rfl : m = wide f := by omega
                          go_wp2_with (go_at_call 49; refine HWD.out.mono ?_; rintro e w11 ⟨rfl, rfl⟩)
                          go_roundw
                          case rel => exact ⟨i + 1, by go_num, by omega, below_next hw8 hw8.size hw10⟩
                          case measure => simp [intOf]; omega
                    · obtain rfl : i = f.length := by omega
                      go_wp2
                      go_ret
                      exact ⟨rfl, below_next hb2 hb2.size (below_next hb hb.size hw8)⟩
end Go.Proofs.YtcojnjhffmhbiaaDoor
end

section
namespace Go.Proofs.YtcojnjhffmhbiaaDoor
open Go Go.RowKit
/-- 'append(s, l...)': l may be nothing. -/
theorem wp_more {P : Program} {t e : TypeId} {z : Value} {bytes : Nat} (E : Elt P t e z bytes) (wr : World) {o : Oper} {a : Act} {K : Act → World → Prop} {Q : Exit → Act → World → Prop}
    (s x : Operand) (hop : o.op = .call { callee := .builtin .append, args := #[s, x], argTypes := #[t, t] })
    (base : Nat) {v : Value} {xs : List Value} (hown : Own wr base e v xs) (hs : a.eval s = v) {A : Option Addr} {c : Nat} {news : List Value} (hnew : Cells wr A news) (hx : a.eval x = .slice A news.length c) (h1 : ∀ u ∈ news, u.oneCell' = true)
    (hb : (xs.length + news.length) * bytes ≤ 140737488355328) (hm : xs.length + news.length ≤ 9223372036854775807) (hbase : base ≤ wr.heap.size)
    (hK : ∀ v' w', Own w' base e v' (xs ++ news) → Below base wr w' → K (a.put o.dst v') w') :
    o.wp P a wr K Q := by
  obtain ⟨i, hi, hz, hsz, hby⟩ := E.info
  by_cases h0 : news = []
  · subst h0
    have hsrc : Src P i.size t (.slice A ([] : List Value).length c) 0 [] wr := by
      cases A with
      | none => exact Src.ofNil wr E.under c
      | some A => exact Src.ofSlice wr E.under A 0 c [] (by simp) (fun j u hu => by simp at hu) (fun u hu => by cases hu)
    have key : ∀ (A0 : Option Addr) (n cap : Nat), v = .slice A0 n cap → n ≤ cap → o.wp P a wr K Q := fun A0 n cap e1 hle => by
      have hrun := run_append_nothing (P := P) wr t t o.type e i E.under hi A0 n cap hle _ hsrc
      unfold Oper.wp
      rw [e1] at hs
      simp only [List.length_nil] at hx hrun
      simp [execOp, hop, resolve, invoke, builtin, hs, hx, hrun, Result.andThen]
      have := hK v wr (by rw [List.append_nil]; exact hown) (Below.refl _ _)
      rwa [e1] at this
    rcases hown.2 with ⟨h2, h3⟩ | ⟨g, cap, cur, h2, hb2, hg2, hn, hm2, hs2, ht⟩
    · exact key none 0 0 h2 (Nat.le_refl _)
    · refine key _ _ cap h2 ?_
      first | exact hn | exact hm2 | omega
  · rcases hnew with h | ⟨b, off, rfl, hc⟩
    · exact absurd h h0
    · refine wp_append_own (P := P) wr s x t hop base e i z 1 bytes E.under hi hz hsz hby E.one (by decide) v xs.length xs hs hown ⟨b, off, none⟩ news.length c news hx (by omega) (fun j u hu => ?_) h1 (by unfold maxLen; omega) hb hbase ?_
      · have hadd : (⟨b, off, none⟩ : Addr).add j = ⟨b, off + j, none⟩ := by unfold Addr.add; split <;> simp_all
        rw [hadd]
        exact hc j u hu
      · intro v' w' h2 h3 _
        refine hK v' w' ?_ ((Below.refl _ _).grown h3 hbase fun k hk => (hown.block k hk).1)
        unfold Own; rw [List.length_append]; exact h2
theorem wpList_more {P : Program} {t e : TypeId} {z : Value} {bytes : Nat} (E : Elt P t e z bytes) (wr : World) {ops : Array Oper} {rest : List Oper} {o : Oper} {a : Act} {Q : Exit → Act → World → Prop}
    (hg : Region.wanted o (yielded ops a.tmps) = true) (s x : Operand) (hop : o.op = .call { callee := .builtin .append, args := #[s, x], argTypes := #[t, t] })
    (base : Nat) {v : Value} {xs : List Value} (hown : Own wr base e v xs) (hs : a.eval s = v) {A : Option Addr} {c : Nat} {news : List Value} (hnew : Cells wr A news) (hx : a.eval x = .slice A news.length c) (h1 : ∀ u ∈ news, u.oneCell' = true)
    (hb : (xs.length + news.length) * bytes ≤ 140737488355328) (hm : xs.length + news.length ≤ 9223372036854775807) (hbase : base ≤ wr.heap.size)
    (hK : ∀ v' w', Own w' base e v' (xs ++ news) → Below base wr w' → wpList P ops Q rest (a.put o.dst v') w') :
    wpList P ops Q (o :: rest) a wr := by
  refine wpList_step fun K hK' => ?_
  rw [if_pos hg]
  exact wp_more E wr s x hop base hown hs hnew hx h1 hb hm hbase fun v' w' h2 h3 => hK' _ _ (hK v' w' h2 h3)
end Go.Proofs.YtcojnjhffmhbiaaDoor
end
