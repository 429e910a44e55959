/-
  The document's Decode: the polynomial through all of some points.
-/
import Derived.Test.YtlbhmoiicbhgkaaDoorRobQ1
import Derived.Test.YtlbhmoiicbhgkaaDoorRobQ2
import Derived.Test.YtlbhmoiicbhgkaaDoorRobQ3
import Derived.Test.YtlbhmoiicbhgkaaDoorRobQ4
import Derived.Test.YtlbhmoiicbhgkaaDoorRobQ5
import Derived.Test.YtlbhmoiicbhgkaaDoorRobQ6
import Derived.Test.YtlbhmoiicbhgkaaDoorRobQ7
import Derived.Test.YtlbhmoiicbhgkaaDoorRobQ8
import Derived.Test.YtlbhmoiicbhgkaaDoorRobQ9
import Derived.Test.YtlbhmoiicbhgkaaDoorRobQ10
import Derived.Test.YtlbhmoiicbhgkaaDoorRobQ11
import Derived.Test.YtlbhmoiicbhgkaaDoorRoS
namespace Go.Proofs.YtlbhmoiicbhgkaaDoor
open Go Go.RowKit Go.Maps Go.Shelf Go.Proofs

attribute [local go_sem] Oper.semAt_some

/-- what 2 t + 1 points tell. -/
noncomputable def allV (xs ys : List Int) (t : Nat) (q : Int) : Option (List Int) :=
  if tErr (xs.take (t + 1)) (ys.take (t + 1)) q = 0 ∧ ∀ i, i < xs.length → mEval (tVal (xs.take (t + 1)) (ys.take (t + 1)) q) (xs.getD i 0) q = ys.getD i 0 % q then some (tVal (xs.take (t + 1)) (ys.take (t + 1)) q) else none
/-- a polynomial of new memory, or none. -/
def AllR (r : Option (List Int)) (w : World) (e : Ending) (w' : World) : Prop := ∃ v, e = .returned (.tuple #[v, .bool r.isSome]) ∧ (∀ C, r = some C → Own w' w.heap.size 24 v (C.map (.int .u64))) ∧ (r = none → v = .slice none 0 0) ∧ Below w.heap.size w w'
def TwoT (N : Nat) (w : World) (v : Value) (C : List Int) (E : Int) : Prop := ∃ v1, v = .tuple #[v1, .int .i64 E] ∧ Own w N 24 v1 (C.map (.int .u64))
theorem TwoT.below {N : Nat} {w w' : World} {v : Value} {C : List Int} {E : Int} (h : TwoT N w v C E) (hb : Below w.heap.size w w') : TwoT N w' v C E := by
  obtain ⟨v1, e, h⟩ := h; exact ⟨v1, e, h.below hb⟩
theorem cells_take {w : World} {A : Option Addr} {l : List Int} (h : Cells w A (l.map (.int .u64))) (n : Nat) : Cells w A ((l.take n).map (.int .u64)) := by
  rcases h with h | ⟨b, off, rfl, h⟩
  · rw [List.map_eq_nil_iff] at h
    subst h
    exact .inl (by simp)
  · refine .inr ⟨b, off, rfl, fun i u hu => h i u ?_⟩
    rw [List.map_take, List.getElem?_take] at hu
    split at hu
    · exact hu
    · cases hu
set_option maxRecDepth 100000 in
set_option maxHeartbeats 1600000 in
theorem all05_c (A B : Option Addr) (xs ys : List Int) (ca cb t : Nat) (q : Int) (w : World) (hA : Cells w A (xs.map (.int .u64))) (hB : Cells w B (ys.map (.int .u64))) (hlm : xs.length = ys.length) (ht : t ≤ 10) (htl : t + 1 ≤ xs.length) (hl : xs.length ≤ 1000) (hca : xs.length ≤ ca) (hcb : ys.length ≤ cb) (_hca2 : ca ≤ 9223372036854775807) (hcb2 : cb ≤ 9223372036854775807)
    (hu : U64s xs) (hu' : U64s ys) (hq : U64 q) (hq0 : 0 < q) :
    Calls Tryd.prog 96 #[.slice A xs.length ca, .slice B ys.length cb, .int .i64 (t : Int), .int .u64 q] w (AllR (allV xs ys t q) w) := by
  have HA := hid hA
  have HB := hid hB
  have HU := hid hu
  have HU' := hid hu'
  have HLM := hid hlm
  have hx1 : (xs.take (t + 1)).length = t + 1 := by rw [List.length_take]; omega
  have hy1 : (ys.take (t + 1)).length = t + 1 := by rw [List.length_take]; omega
  have HTH := hid (fun wx (hb : Below w.heap.size w wx) => by
    have := refthrough_c A B (xs.take (t + 1)) (ys.take (t + 1)) ca cb q wx (cells_take (HA.out.below hb) _) (cells_take (HB.out.below hb) _) (by omega) (by omega) (fun z hz => HU.out z (List.mem_of_mem_take hz)) (fun z hz => HU'.out z (List.mem_of_mem_take hz)) hq
    rw [hx1, hy1] at this
    exact this)
  have hta : (t : Int) + 1 ≤ (ca : Int) := by omega
  have htb : (t : Int) + 1 ≤ (cb : Int) := by omega
  have HSP := hid (fun h0 => ⟨tVal_len h0, tVal_u64 (xs.take (t + 1)) (ys.take (t + 1)) q⟩ : tErr (xs.take (t + 1)) (ys.take (t + 1)) q = 0 → (tVal (xs.take (t + 1)) (ys.take (t + 1)) q).length = (xs.take (t + 1)).length ∧ U64s (tVal (xs.take (t + 1)) (ys.take (t + 1)) q))
  have HV := hid (show allV xs ys t q = if tErr (xs.take (t + 1)) (ys.take (t + 1)) q = 0 ∧ ∀ i, i < xs.length → mEval (tVal (xs.take (t + 1)) (ys.take (t + 1)) q) (xs.getD i 0) q = ys.getD i 0 % q then some (tVal (xs.take (t + 1)) (ys.take (t + 1)) q) else none from rfl)
  generalize allV xs ys t q = R at *
  generalize tVal (xs.take (t + 1)) (ys.take (t + 1)) q = C at *
  generalize tErr (xs.take (t + 1)) (ys.take (t + 1)) q = E at *
  clear hA hB hu hu' hlm hy1
  rw [hx1] at HSP
  clear hx1
  go_enter Tryd.func96, Tryd.ntmps96
  go_upto_region 1 with (fail)
  refine Rg.wp_region (l := [_, _, _, _, _, _, _, _, _, _, _, _, _, _]) (tail := [_]) (Rg.grows _ 15) [some 14, some 15, some 16, some 17, some 18, some 19, some 20, some 21, some 22, some 23, some 13, some 24, some 25, some 10, some 11] 47 (by kernel_rfl) (by kernel_rfl) (by kernel_rfl) rfl (Rg.grows_fair _ _) (Rg.keep_drew _) (trivial) ?_
  refine' Rg.op_is _ [] rfl rfl (by kernel_rfl) ?_ ?_
  rotate_left
  · intro wx hb
    refine Rg.from_nil fun T hT => ?_
    go_wp2
    refine hT _ _ rfl (by first | exact Rg.Keep.refl _ | exact below_of_dr hw2 | exact hw2 | exact (Below.refl _ _).alloc (Nat.le_refl _) _) ?_
    simp only [Rg.last, List.getElem?_toArray, List.getElem?_cons_succ, List.getElem?_cons_zero, Option.getD_some]
    rfl
  refine' Rg.op_is _ [] rfl rfl (by kernel_rfl) ?_ ?_
  rotate_left
  · intro wx hb
    refine Rg.from_nil fun T hT => ?_
    go_wp2
    refine hT _ _ rfl (by first | exact Rg.Keep.refl _ | exact below_of_dr hw2 | exact hw2 | exact (Below.refl _ _).alloc (Nat.le_refl _) _) ?_
    simp only [Rg.last, List.getElem?_toArray, List.getElem?_cons_succ, List.getElem?_cons_zero, Option.getD_some]
    rfl
  refine Rg.op_is (.int .i64 ((t : Int) + 1)) [1] rfl rfl (by kernel_rfl) ?_ ?_
  · intro wx hb
    refine Rg.from_is (some 15) rfl rfl ?_
    refine Rg.from_nil fun T hT => ?_
    go_wp2
    exact hT _ _ rfl (by first | exact Rg.Keep.refl _ | exact below_of_dr hw2 | exact hw2 | exact (Below.refl _ _).alloc (Nat.le_refl _) _) (by first | rfl | exact congrArg _ (by decide))
  refine Rg.op_is (.slice A (t + 1) ca) [0, 2] rfl rfl (by kernel_rfl) ?_ ?_
  · intro wx hb
    refine Rg.from_is (some 14) rfl rfl ?_
    refine Rg.from_is (some 16) rfl rfl ?_
    refine Rg.from_nil fun T hT => ?_
    go_wp2
    exact hT _ _ rfl (by first | exact Rg.Keep.refl _ | exact below_of_dr hw2 | exact hw2 | exact (Below.refl _ _).alloc (Nat.le_refl _) _) (by first | rfl | exact congrArg _ (by decide))
  refine' Rg.op_is _ [] rfl rfl (by kernel_rfl) ?_ ?_
  rotate_left
  · intro wx hb
    refine Rg.from_nil fun T hT => ?_
    go_wp2
    refine hT _ _ rfl (by first | exact Rg.Keep.refl _ | exact below_of_dr hw2 | exact hw2 | exact (Below.refl _ _).alloc (Nat.le_refl _) _) ?_
    simp only [Rg.last, List.getElem?_toArray, List.getElem?_cons_succ, List.getElem?_cons_zero, Option.getD_some]
    rfl
  refine' Rg.op_is _ [] rfl rfl (by kernel_rfl) ?_ ?_
  rotate_left
  · intro wx hb
    refine Rg.from_nil fun T hT => ?_
    go_wp2
    refine hT _ _ rfl (by first | exact Rg.Keep.refl _ | exact below_of_dr hw2 | exact hw2 | exact (Below.refl _ _).alloc (Nat.le_refl _) _) ?_
    simp only [Rg.last, List.getElem?_toArray, List.getElem?_cons_succ, List.getElem?_cons_zero, Option.getD_some]
    rfl
  refine Rg.op_is (.int .i64 ((t : Int) + 1)) [5] rfl rfl (by kernel_rfl) ?_ ?_
  · intro wx hb
    refine Rg.from_is (some 19) rfl rfl ?_
    refine Rg.from_nil fun T hT => ?_
    go_wp2
    exact hT _ _ rfl (by first | exact Rg.Keep.refl _ | exact below_of_dr hw2 | exact hw2 | exact (Below.refl _ _).alloc (Nat.le_refl _) _) (by first | rfl | exact congrArg _ (by decide))
  refine Rg.op_is (.slice B (t + 1) cb) [4, 6] rfl rfl (by kernel_rfl) ?_ ?_
  · intro wx hb
    refine Rg.from_is (some 18) rfl rfl ?_
    refine Rg.from_is (some 20) rfl rfl ?_
    refine Rg.from_nil fun T hT => ?_
    go_wp2
    exact hT _ _ rfl (by first | exact Rg.Keep.refl _ | exact below_of_dr hw2 | exact hw2 | exact (Below.refl _ _).alloc (Nat.le_refl _) _) (by first | rfl | exact congrArg _ (by decide))
  refine' Rg.op_is _ [] rfl rfl (by kernel_rfl) ?_ ?_
  rotate_left
  · intro wx hb
    refine Rg.from_nil fun T hT => ?_
    go_wp2
    refine hT _ _ rfl (by first | exact Rg.Keep.refl _ | exact below_of_dr hw2 | exact hw2 | exact (Below.refl _ _).alloc (Nat.le_refl _) _) ?_
    simp only [Rg.last, List.getElem?_toArray, List.getElem?_cons_succ, List.getElem?_cons_zero, Option.getD_some]
    rfl
  refine Rg.op_of (fun w' v => TwoT w.heap.size w' v C E) [3, 7, 8] rfl ?_ ?_ rfl (by kernel_rfl) ?_ ?_
  · exact fun w1 w2 v hk h => h.below hk
  · exact fun w1 w2 v hk h => h.below hk
  · intro wx hb
    refine Rg.from_is (some 17) rfl rfl ?_
    refine Rg.from_is (some 21) rfl rfl ?_
    refine Rg.from_is (some 22) rfl rfl ?_
    refine Rg.from_nil fun T hT => ?_
    go_wp2_with (go_at_call 117; refine (HTH.out _ hb).mono ?_; rintro e w9 ⟨v9, rfl, o9, hb9⟩)
    exact hT _ _ rfl hb9 ⟨_, rfl, o9.from_ hb.size⟩
  refine Rg.op_of (fun w' v => TwoT w.heap.size w' v C E) [9] rfl ?_ ?_ rfl (by kernel_rfl) ?_ ?_
  · exact fun w1 w2 v hk h => h.below hk
  · exact fun w1 w2 v hk h => h.below hk
  · intro wx hb
    refine Rg.from_of (some 23) rfl rfl fun v23 h23 => ?_
    refine Rg.from_nil fun T hT => ?_
    obtain ⟨v23, rfl, k23⟩ := h23
    go_wp2
    exact hT _ _ rfl (Rg.Keep.refl _) ⟨_, rfl, k23⟩
  refine Rg.op_of (fun w' v => Own w' w.heap.size 24 v (C.map (.int .u64))) [10] rfl ?_ ?_ rfl (by kernel_rfl) ?_ ?_
  · exact fun w1 w2 v hk h => h.below hk
  · exact fun w1 w2 v hk h => h.below hk
  · intro wx hb
    refine Rg.from_of (some 13) rfl rfl fun v13 h13 => ?_
    refine Rg.from_nil fun T hT => ?_
    obtain ⟨v13, rfl, k13⟩ := h13
    go_wp2
    exact hT _ _ rfl (Rg.Keep.refl _) k13
  refine Rg.op_of (fun w' v => v = .int .i64 E) [10] rfl ?_ ?_ rfl (by kernel_rfl) ?_ ?_
  · exact fun w1 w2 v hk h => h
  · exact fun w1 w2 v hk h => h
  · intro wx hb
    refine Rg.from_of (some 13) rfl rfl fun v13 h13 => ?_
    refine Rg.from_nil fun T hT => ?_
    obtain ⟨v13, rfl, k13⟩ := h13
    go_wp2
    exact hT _ _ rfl (Rg.Keep.refl _) rfl
  refine Rg.op_of (fun w' v => Own w' w.heap.size 24 v (C.map (.int .u64))) [11] rfl ?_ ?_ rfl (by kernel_rfl) ?_ ?_
  · exact fun w1 w2 v hk h => h.below hk
  · exact fun w1 w2 v hk h => h.below hk
  · intro wx hb
    refine Rg.from_of (some 24) rfl rfl fun v24 h24 => ?_
    refine Rg.from_nil fun T hT => ?_
    go_wp2
    exact hT _ _ rfl (Rg.Keep.refl _) h24
  refine Rg.walk_nil [0, 1, 2, 3, 4, 5, 6, 7, 8, 9, 10, 11, 12, 13] (by kernel_rfl) ?_
  intro wx hb
  refine Rg.from_is (some 14) rfl rfl ?_
  refine Rg.from_is (some 15) rfl rfl ?_
  refine Rg.from_is (some 16) rfl rfl ?_
  refine Rg.from_is (some 17) rfl rfl ?_
  refine Rg.from_is (some 18) rfl rfl ?_
  refine Rg.from_is (some 19) rfl rfl ?_
  refine Rg.from_is (some 20) rfl rfl ?_
  refine Rg.from_is (some 21) rfl rfl ?_
  refine Rg.from_is (some 22) rfl rfl ?_
  refine Rg.from_of (some 23) rfl rfl fun v23 h23 => ?_
  refine Rg.from_of (some 13) rfl rfl fun v13 h13 => ?_
  refine Rg.from_of (some 24) rfl rfl fun v24 h24 => ?_
  refine Rg.from_of (some 25) rfl rfl fun v25 h25 => ?_
  refine Rg.from_of (some 10) rfl rfl fun v10 h10 => ?_
  refine Rg.from_nil ?_
  simp only [List.map, Act.put, List.setIfInBounds_toArray, List.set_cons_zero, List.set_cons_succ]
  obtain rfl := h25
  have HO := hid (⟨h10, hb⟩ : _ ∧ _)
  obtain ⟨A9, c9, e9, hC9⟩ := h10.form
  clear h13 h23 h24 h10
  rw [List.length_map] at e9
  subst e9
  by_cases he : E = 0
  case neg =>
    have hne : (E != 0) = true := by simpa using he
    have hR : R = none := by rw [HV.out, if_neg fun h => he h.1]
    subst hR
    clear hC9
    go_wp2
    go_ret2
    exact ⟨_, rfl, fun C h => (by cases h), fun _ => rfl, HO.out.2⟩
  subst he
  obtain ⟨hCl, hCu⟩ := HSP.out rfl
  have HC := hid (⟨hCl, hCu, hC9⟩ : _ ∧ _ ∧ _)
  have hC1 : C.length ≤ 1000 := by omega
  clear hCl hCu hC9 hb
  generalize wx = w1 at *
  go_wp2
  go_loopw [12] (fun i wr => ∃ n : Nat, i = .int .i64 (n : Int) ∧ n ≤ xs.length ∧ Hid ((∀ i, i < n → mEval C (xs.getD i 0) q = ys.getD i 0 % q) ∧ Dr w1 wr)) (fun i _ => xs.length - (intOf i).toNat)
  case atStart => exact ⟨0, rfl, by omega, hid ⟨fun i h => by omega, Dr.refl _⟩⟩
  case round =>
    obtain ⟨n, rfl, hn, HI⟩ := hrel
    by_cases hlt : n < xs.length
    · have hlt' : (n : Int) < (xs.length : Int) := by omega
      have hlty : (n : Int) < (ys.length : Int) := by have := HLM.out; omega
      obtain ⟨x, hx⟩ := get_of_lt hlt
      obtain ⟨y, hy⟩ := get_of_lt (l := ys) (k := n) (by have := HLM.out; omega)
      have hux := HU.out x (List.mem_of_getElem? hx)
      have huy := HU'.out y (List.mem_of_getElem? hy)
      have hbl := below_dr HO.out.2 HI.out.2
      obtain ⟨bx, ox, rfl, cx0⟩ := HA.out.at_map hx
      obtain ⟨by_, oy, rfl, cy0⟩ := HB.out.at_map hy
      have cx := (hbl.cell (lt_of_cell cx0)).trans cx0
      have cy := (hbl.cell (lt_of_cell cy0)).trans cy0
      have hcs := HC.out.2.2.dr HI.out.2
      have hon : (mEval C (xs.getD n 0) q = ys.getD n 0 % q) ↔ (mEval C x q = y % q) := by
        rw [List.getD_eq_getElem?_getD, List.getD_eq_getElem?_getD, hx, hy]; exact Iff.rfl
      have HGO := hid (fun w' (hd : Dr wr w') => goes05_c A9 C c9 x y q w' (hcs.dr hd) (by have := HC.out.1; omega) HC.out.2.1 hux huy hq hq0)
      by_cases he : mEval C x q = y % q
      · rw [decide_eq_true he] at HGO
        have HN := hid (⟨fun i hi => by
          rcases Nat.lt_succ_iff_lt_or_eq.1 hi with h | rfl
          · exact HI.out.1 i h
          · exact hon.2 he, HI.out.2⟩ : (∀ i, i < n + 1 → mEval C (xs.getD i 0) q = ys.getD i 0 % q) ∧ Dr w1 wr)
        clear hx hy cx0 cy0 HI hcs he hon hbl
        go_wp2
        go_quiet (first | (go_at_call 66; exact quiet_dr (HGO.out _ ⟨_, rfl⟩)))
        have HN2 := hid (⟨HN.out.1, HN.out.2.trans ⟨nq, rfl⟩⟩ : (∀ i, i < n + 1 → mEval C (xs.getD i 0) q = ys.getD i 0 % q) ∧ Dr w1 (wr.drewN nq))
        clear HN
        go_wp2
        go_roundw
        case rel => exact ⟨n + 1, by go_num, by omega, HN2⟩
        case measure => simp [intOf]; omega
      · rw [decide_eq_false he] at HGO
        have hR : R = none := by rw [HV.out, if_neg fun h => he (hon.1 (h.2 n hlt))]
        subst hR
        clear hx hy cx0 cy0 hcs he hon
        go_wp2
        go_quiet (first | (go_at_call 66; exact quiet_dr (HGO.out _ ⟨_, rfl⟩)))
        have hbl2 := below_dr hbl (⟨nq, rfl⟩ : Dr wr (wr.drewN nq))
        go_wp2
        go_ret2
        exact ⟨_, rfl, fun C h => (by cases h), fun _ => rfl, hbl2⟩
    · obtain rfl : n = xs.length := by omega
      have hlt' : ¬ (xs.length : Int) < (xs.length : Int) := by omega
      have hR : R = some C := by rw [HV.out, if_pos ⟨by trivial, HI.out.1⟩]
      subst hR
      have hbl := below_dr HO.out.2 HI.out.2
      go_wp2
      go_ret2
      exact ⟨_, rfl, fun C h => (by obtain rfl := Option.some.inj h; exact HO.out.1.dr HI.out.2), fun h => (by cases h), hbl⟩
end Go.Proofs.YtlbhmoiicbhgkaaDoor
