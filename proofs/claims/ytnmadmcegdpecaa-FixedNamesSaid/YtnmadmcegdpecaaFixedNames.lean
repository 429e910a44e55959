/-
  PROVED HERE: FixedNames: the examples; the ends; what may not be; params that do not fit.
-/
import Derived.Test.YtnmadmcegdpecaaFixX
import Derived.Test.YtnmadmcegdpecaaLit
import Derived.Test.YtnmadmcegdpecaaArgs
namespace Go.Proofs.Ytnmadmcegdpecaa
open Go.ChangeShapes Go.WideShapes Go.ChangeAt Go.RowKit

def numsL : List (Int × Int × Int) := [(50, 101, 50), (51, 101, 51), (-50, 101, 51), (101, 101, 0), (-9223372036854775808, 2305843009213693951, 2305843009213693947), (9223372036854775807, 2305843009213693952, 2305843009213693951), (5, 0, 0), (5, 2305843009213693953, 0), (-7, 1, 0)]
def intsL : List (Int × Int × Int) := [(50, 101, 50), (51, 101, -50), (151, 101, 50), (5, 10, -5), (4, 10, 4), (1, 2, -1), (0, 1, 0), (5, 0, 0), (5, 2305843009213693953, 0), (1152921504606846976, 2305843009213693952, -1152921504606846976), (2305843009213693950, 2305843009213693951, -1)]
def numCells (t : Int × Int × Int) : List Value := [.int .i64 t.1, .int .u64 t.2.1, .int .u64 t.2.2]
def intCells (t : Int × Int × Int) : List Value := [.int .u64 t.1, .int .u64 t.2.1, .int .i64 t.2.2]
theorem nums_ok : ∀ t ∈ numsL, I64 t.1 ∧ U64 t.2.1 ∧ mNum t.1 t.2.1 = t.2.2 := by
  intro t ht
  simp only [numsL, List.mem_cons, List.not_mem_nil, or_false] at ht
  rcases ht with rfl | rfl | rfl | rfl | rfl | rfl | rfl | rfl | rfl <;> exact ⟨⟨by decide, by decide⟩, ⟨by decide, by decide⟩, by decide⟩
theorem ints_ok : ∀ t ∈ intsL, U64 t.1 ∧ U64 t.2.1 ∧ mInt t.1 t.2.1 = t.2.2 := by
  intro t ht
  simp only [intsL, List.mem_cons, List.not_mem_nil, or_false] at ht
  rcases ht with rfl | rfl | rfl | rfl | rfl | rfl | rfl | rfl | rfl | rfl | rfl <;> exact ⟨⟨by decide, by decide⟩, ⟨by decide, by decide⟩, by decide⟩

/-- a model that may not be. -/
def MdlAt (w : World) (t : Value × Value) : Prop := ∃ A W c B b d, t.1 = .slice A (W : List (List Int)).length c ∧ t.2 = .slice B (b : List Int).length d ∧ GridI w A W ∧ Cells w B (b.map (.int .i64)) ∧ W.length ≤ 2 ∧ b.length ≤ 2 ∧ Ints W ∧ I64s b ∧ mayB parSome W b = false
theorem gridI_none (w : World) : GridI w none [] := ⟨[], Cells.nil _ _, rfl, fun i l h => by simp at h⟩
theorem gridI_two {w : World} {g : Nat} {e : TypeId} {A A' : Option Addr} {l l' : List Int} {c c' : Nat} (h : Row1 w g e [.slice A l.length c, .slice A' l'.length c']) (hc : Cells w A (l.map (.int .i64))) (hc' : Cells w A' (l'.map (.int .i64))) (hl : l.length ≤ 40) (hl' : l'.length ≤ 40) : GridI w (some ⟨g, 0, none⟩) [l, l'] := by
  refine ⟨_, h.cells, rfl, fun i m hm => ?_⟩
  match i, hm with
  | 0, hm =>
    obtain rfl := Option.some.inj hm
    exact ⟨_, rfl, _, _, rfl, hc, by omega⟩
  | 1, hm =>
    obtain rfl := Option.some.inj hm
    exact ⟨_, rfl, _, _, rfl, hc', by omega⟩
  | i + 2, hm => simp at hm
def intsB (W : List (List Int)) : Bool := W.all fun l => l.all fun n => decide (-9223372036854775808 ≤ n) && decide (n < 9223372036854775808)
theorem intsB_ok {W : List (List Int)} (h : intsB W = true) : Ints W := fun l hl => ints_of_decide (List.all_eq_true.1 h l hl)
def badPars : List Par := [⟨0, 101, 0, 0, 0, 0, 0, -1, 1, 0, 3, 2⟩, ⟨0, 101, 0, 0, 0, 0, 0, 3, 1, 0, 3, 2⟩, ⟨0, 101, 0, 0, 0, 0, 0, 2, 5, 0, 3, 2⟩, ⟨0, 101, 0, 0, 0, 0, 0, 2, -1, 0, 3, 2⟩, ⟨0, 101, 0, 0, 0, 0, 0, 2, 1, 0, -1, 2⟩, ⟨0, 101, 0, 0, 0, 0, 0, 2, 1, 0, 1048577, 2⟩, ⟨0, 101, 0, 0, 0, 0, 0, 2, 1, 0, 3, -1⟩, ⟨0, 101, 0, 0, 0, 0, 0, 2, 1, 0, 3, 1048577⟩]
def parNone : Par := ⟨0, 101, 0, 0, 0, 0, 0, 0, 0, 0, 0, 0⟩
theorem parNone_ok : parNone.ok := by constructor <;> exact ⟨by decide, by decide⟩
theorem bad_ok : ∀ p ∈ badPars, p.ok ∧ fits p = false := by
  intro p hp
  simp only [badPars, List.mem_cons, List.not_mem_nil, or_false] at hp
  rcases hp with rfl | rfl | rfl | rfl | rfl | rfl | rfl | rfl <;> exact ⟨by constructor <;> exact ⟨by decide, by decide⟩, by decide⟩
theorem own_form {w : World} {b : Nat} {e : TypeId} {v : Value} {xs : List Value} {n : Nat} (h : Own w b e v xs) (hn : xs.length = n) : ∃ A c, v = .slice A n c ∧ Cells w A xs := by
  subst hn; exact h.form

set_option maxRecDepth 100000 in
set_option maxHeartbeats 8000000 in
theorem fixedNames_c (w : World) : Calls Try.prog 9 #[] w fun e w' => e = .returned (.bool true) ∧ Below w.heap.size w w' := by
  go_enter Try.func9, Try.ntmps9
  go_wp2_with (fail)
  refine (awake07_c _).mono ?_
  rintro e w1 ⟨rfl, hb1⟩
  have hB := Bun.of hb1
  go_wp2_with (refine wpList_named hB rfl ?_; clear hB; intro wn gn hB hbn hg; (try rw [hg]); clear hg)
  have hr1 : Row1 wn gn _ (numsL.flatMap numCells) := hB.row (i := 0) rfl
  go_loopw [2, 31] (fun _ i wr => ∃ k : Nat, i = .int .i64 k ∧ k ≤ 9 ∧ Below wn.heap.size wn wr) (fun _ i _ => 9 - (intOf i).toNat)
  case atStart => exact ⟨0, rfl, by omega, Below.refl _ _⟩
  case round =>
  obtain ⟨k, rfl, hk, hbk⟩ := hrel
  have hBk := hB.more hbk
  by_cases hlt : k < 9
  case pos =>
    obtain ⟨⟨n, q, x⟩, ht⟩ := get_of_lt (l := numsL) (k := k) hlt
    obtain ⟨un, uq, hv⟩ := nums_ok _ (List.mem_of_getElem? ht)
    simp only at un uq hv
    have hr3 := hr1.below hbk
    have c0 : wr.cell? ⟨gn, k * 3 + 0, none⟩ = some (.int .i64 n) := hr3.cell (by rw [flat_at numCells 3 (fun _ => rfl) _ _ 0 (by decide), ht]; rfl)
    have c1 : wr.cell? ⟨gn, k * 3 + 1, none⟩ = some (.int .u64 q) := hr3.cell (by rw [flat_at numCells 3 (fun _ => rfl) _ _ 1 (by decide), ht]; rfl)
    have c2 : wr.cell? ⟨gn, k * 3 + 2, none⟩ = some (.int .u64 x) := hr3.cell (by rw [flat_at numCells 3 (fun _ => rfl) _ _ 2 (by decide), ht]; rfl)
    have hvb : (mNum n q != x) = false := by rw [hv]; simp
    simp only [Nat.add_zero] at c0
    clear ht hv hr1 hr3 hB
    go_wp2
    refine code_named hBk ?_
    clear hBk
    intro wv gv hBv hbv hg
    rw [hg]
    have hr4 := hBv.row (i := 0) rfl
    have d0 := hr4.cell (k := 0) rfl
    have d1 := hr4.cell (k := 1) rfl
    have d2 := hr4.cell (k := 2) rfl
    clear hg hBv hr4
    go_quiet ((go_at_call 27; exact quiet_dr (num_c _ _ un uq _)))
    go_wp2
    go_roundw
    case rel => exact ⟨k + 1, by go_num, by omega, below_dr (below_next hbk hbk.size hbv) ((Dr.refl wv).more _)⟩
    case measure => simp [intOf]; omega
  case neg =>
  obtain rfl : k = 9 := by omega
  have hB := hBk.drop
  clear hr1 hBk
  go_wp2_with (refine wpList_named hB rfl ?_; clear hB; intro wn gn hB hbn hg; (try rw [hg]); clear hg)
  have hr1 : Row1 wn gn _ (intsL.flatMap intCells) := hB.row (i := 0) rfl
  go_loopw [4, 57] (fun _ i wr => ∃ k : Nat, i = .int .i64 k ∧ k ≤ 11 ∧ Below wn.heap.size wn wr) (fun _ i _ => 11 - (intOf i).toNat)
  case atStart => exact ⟨0, rfl, by omega, Below.refl _ _⟩
  case round =>
  obtain ⟨k, rfl, hk, hbk⟩ := hrel
  have hBk := hB.more hbk
  by_cases hlt : k < 11
  case pos =>
    obtain ⟨⟨n, q, x⟩, ht⟩ := get_of_lt (l := intsL) (k := k) hlt
    obtain ⟨un, uq, hv⟩ := ints_ok _ (List.mem_of_getElem? ht)
    simp only at un uq hv
    have hr3 := hr1.below hbk
    have c0 : wr.cell? ⟨gn, k * 3 + 0, none⟩ = some (.int .u64 n) := hr3.cell (by rw [flat_at intCells 3 (fun _ => rfl) _ _ 0 (by decide), ht]; rfl)
    have c1 : wr.cell? ⟨gn, k * 3 + 1, none⟩ = some (.int .u64 q) := hr3.cell (by rw [flat_at intCells 3 (fun _ => rfl) _ _ 1 (by decide), ht]; rfl)
    have c2 : wr.cell? ⟨gn, k * 3 + 2, none⟩ = some (.int .i64 x) := hr3.cell (by rw [flat_at intCells 3 (fun _ => rfl) _ _ 2 (by decide), ht]; rfl)
    have hvb : (mInt n q != x) = false := by rw [hv]; simp
    simp only [Nat.add_zero] at c0
    clear ht hv hr1 hr3 hB
    go_wp2
    refine code_named hBk ?_
    clear hBk
    intro wv gv hBv hbv hg
    rw [hg]
    have hr4 := hBv.row (i := 0) rfl
    have d0 := hr4.cell (k := 0) rfl
    have d1 := hr4.cell (k := 1) rfl
    have d2 := hr4.cell (k := 2) rfl
    clear hg hBv hr4
    go_quiet ((go_at_call 29; exact quiet_dr (int_c _ _ un uq _)))
    go_wp2
    go_roundw
    case rel => exact ⟨k + 1, by go_num, by omega, below_dr (below_next hbk hbk.size hbv) ((Dr.refl wv).more _)⟩
    case measure => simp [intOf]; omega
  case neg =>
  obtain rfl : k = 11 := by omega
  have hB := hBk.drop
  clear hr1 hBk
  go_wp2_with (fail)
  refine (some_c _).mono ?_
  rintro e w4 ⟨rfl, hb4⟩
  have hB := hB.more hb4
  go_wp2_with (refine wpList_named hB rfl ?_; clear hB; intro wn gn hB hbn hg; (try rw [hg]); clear hg)
  have hP : Row1 wn _ _ (pcells parSome) := hB.row (i := 24) rfl
  have hms : ∃ vs : List (Value × Value), vs.length = 7 ∧ Row1 wn gn 44 (vs.flatMap fun t => [t.1, t.2]) ∧ ∀ (k : Nat) t, vs[k]? = some t → MdlAt wn t := by
    refine ⟨[(_, _), (_, _), (_, _), (_, _), (_, _), (_, _), (_, _)], rfl, hB.row (i := 0) rfl, fun k t ht => ?_⟩
    match k, ht with
    | 0, ht =>
      obtain rfl := Option.some.inj ht
      exact ⟨none, [], 0, none, [], 0, rfl, rfl, gridI_none _, Cells.nil _ _, by decide, by decide, intsB_ok (by decide), ints_of_decide (by decide), by decide⟩
    | 1, ht =>
      obtain rfl := Option.some.inj ht
      exact ⟨_, [[2]], 1, _, [1, 0], 2, rfl, rfl, gridI_one (l := [2]) (hB.row (i := 22) rfl) (hB.row (i := 23) rfl).cells (by decide), (hB.row (i := 21) rfl).cells, by decide, by decide, intsB_ok (by decide), ints_of_decide (by decide), by decide⟩
    | 2, ht =>
      obtain rfl := Option.some.inj ht
      exact ⟨_, [[2], [1]], 2, _, [1], 1, rfl, rfl, gridI_two (l := [2]) (l' := [1]) (hB.row (i := 18) rfl) (hB.row (i := 20) rfl).cells (hB.row (i := 19) rfl).cells (by decide) (by decide), (hB.row (i := 17) rfl).cells, by decide, by decide, intsB_ok (by decide), ints_of_decide (by decide), by decide⟩
    | 3, ht =>
      obtain rfl := Option.some.inj ht
      exact ⟨_, [[2], [1, 1]], 2, _, [1, 0], 2, rfl, rfl, gridI_two (l := [2]) (l' := [1, 1]) (hB.row (i := 14) rfl) (hB.row (i := 16) rfl).cells (hB.row (i := 15) rfl).cells (by decide) (by decide), (hB.row (i := 13) rfl).cells, by decide, by decide, intsB_ok (by decide), ints_of_decide (by decide), by decide⟩
    | 4, ht =>
      obtain rfl := Option.some.inj ht
      exact ⟨_, [[4], [1]], 2, _, [1, 0], 2, rfl, rfl, gridI_two (l := [4]) (l' := [1]) (hB.row (i := 10) rfl) (hB.row (i := 12) rfl).cells (hB.row (i := 11) rfl).cells (by decide) (by decide), (hB.row (i := 9) rfl).cells, by decide, by decide, intsB_ok (by decide), ints_of_decide (by decide), by decide⟩
    | 5, ht =>
      obtain rfl := Option.some.inj ht
      exact ⟨_, [[2], [1]], 2, _, [1, -4], 2, rfl, rfl, gridI_two (l := [2]) (l' := [1]) (hB.row (i := 6) rfl) (hB.row (i := 8) rfl).cells (hB.row (i := 7) rfl).cells (by decide) (by decide), (hB.row (i := 5) rfl).cells, by decide, by decide, intsB_ok (by decide), ints_of_decide (by decide), by decide⟩
    | 6, ht =>
      obtain rfl := Option.some.inj ht
      exact ⟨_, [[2], [-9223372036854775808]], 2, _, [1, 0], 2, rfl, rfl, gridI_two (l := [2]) (l' := [-9223372036854775808]) (hB.row (i := 2) rfl) (hB.row (i := 4) rfl).cells (hB.row (i := 3) rfl).cells (by decide) (by decide), (hB.row (i := 1) rfl).cells, by decide, by decide, intsB_ok (by decide), ints_of_decide (by decide), by decide⟩
    | k + 7, ht => simp at ht
  obtain ⟨vs, hvl, hr1, hmd⟩ := hms
  go_loopw [7, 103] (fun _ i wr => ∃ k : Nat, i = .int .i64 k ∧ k ≤ 7 ∧ Below wn.heap.size wn wr) (fun _ i _ => 7 - (intOf i).toNat)
  case atStart => exact ⟨0, rfl, by omega, Below.refl _ _⟩
  case round =>
  obtain ⟨k, rfl, hk, hbk⟩ := hrel
  have hBk := hB.more hbk
  by_cases hlt : k < 7
  case pos =>
    obtain ⟨⟨vA, vB⟩, ht⟩ := get_of_lt (l := vs) (k := k) (by omega)
    obtain ⟨A, W, c, B, b, d, e1, e2, hA, hBb, l1, l2, u1, u2, hmay⟩ := hmd k _ ht
    simp only at e1 e2
    subst e1 e2
    have hr3 := hr1.below hbk
    have c0 : wr.cell? ⟨gn, k * 2 + 0, none⟩ = some (.slice A W.length c) := hr3.cell (by rw [flat_at (fun t : Value × Value => [t.1, t.2]) 2 (fun _ => rfl) _ _ 0 (by decide), ht]; rfl)
    have c1 : wr.cell? ⟨gn, k * 2 + 1, none⟩ = some (.slice B b.length d) := hr3.cell (by rw [flat_at (fun t : Value × Value => [t.1, t.2]) 2 (fun _ => rfl) _ _ 1 (by decide), ht]; rfl)
    have hse := hid (show (secretsS parSome W b).length = 0 by simp [secretsS, hmay])
    have hsc := hid (show (scoresS parSome W b [1]).length = 0 by simp [scoresS, hmay])
    simp only [Nat.add_zero] at c0
    have hA3 := hA.below hbk
    have hB3 := hBb.below hbk
    have hP3 := hP.below hbk
    clear ht hr1 hr3 hB hA hBb hmd hvl
    go_wp2
    refine code_named hBk ?_
    clear hBk
    intro wv gv hBv hbv hg
    rw [hg]
    have hM4 : Row1 wv gv _ [.slice A W.length c, .slice B b.length d] := hBv.row (i := 0) rfl
    have hA4 := hA3.below hbv
    have hB4 := hB3.below hbv
    have hP4 := hP3.below hbv
    clear hg hBv hA3 hB3 hP3 c0 c1
    refine Rg.wp_region (l := [_, _, _, _, _, _, _, _, _, _, _, _, _, _, _]) (tail := [_]) (Rg.grows _ 16) [some 107, some 108, some 109, some 110, some 111, some 112, some 113, some 114, some 115, some 116, some 117, some 118, some 119, some 120, some 121, some 122] 250 (by kernel_rfl) (by kernel_rfl) (by kernel_rfl) rfl (Rg.grows_fair _ _) (Rg.keep_drew _) (trivial) ?_
    refine Rg.op_is (pval parSome) [] rfl rfl (by kernel_rfl) ?_ ?_
    · intro wx hb
      refine Rg.from_nil fun T hT => ?_
      obtain ⟨q0, q1, q2, q3, q4, q5, q6, q7, q8, q9, q10, q11⟩ := pars_at (hP4.below hb)
      go_wp2
      exact hT _ _ rfl (by first | exact Rg.Keep.refl _ | exact below_of_dr hw2 | exact hw2 | exact (Below.refl _ _).alloc (Nat.le_refl _) _) (by first | rfl | exact congrArg _ (by decide))
    refine Rg.op_is (mval A W.length c B b.length d) [] rfl rfl (by kernel_rfl) ?_ ?_
    · intro wx hb
      refine Rg.from_nil fun T hT => ?_
      have m0 := (hM4.below hb).cell (k := 0) rfl
      have m1 := (hM4.below hb).cell (k := 1) rfl
      go_wp2
      exact hT _ _ rfl (by first | exact Rg.Keep.refl _ | exact below_of_dr hw2 | exact hw2 | exact (Below.refl _ _).alloc (Nat.le_refl _) _) (by first | rfl | exact congrArg _ (by decide))
    refine Rg.op_is (.bool false) [0, 1] rfl rfl (by kernel_rfl) ?_ ?_
    · intro wx hb
      refine Rg.from_is (some 107) rfl rfl ?_
      refine Rg.from_is (some 108) rfl rfl ?_
      refine Rg.from_nil fun T hT => ?_
      go_wp2_with (go_at_call 36; refine (fmay_c parSome _ _ W b c d _ (hA4.below hb) (hB4.below hb) (by omega) (by omega) u1 u2).mono ?_; rintro e w8 ⟨rfl, hw8⟩; rw [hmay])
      exact hT _ _ rfl hw8 rfl
    refine Rg.op_is (.bool false) [2] rfl rfl (by kernel_rfl) ?_ ?_
    · intro wx hb
      refine Rg.from_is (some 109) rfl rfl ?_
      refine Rg.from_nil fun T hT => ?_
      go_wp2
      exact hT _ _ rfl (by first | exact Rg.Keep.refl _ | exact below_of_dr hw2 | exact hw2 | exact (Below.refl _ _).alloc (Nat.le_refl _) _) (by first | rfl | exact congrArg _ (by decide))
    refine Rg.op_is (pval parSome) [] rfl rfl (by kernel_rfl) ?_ ?_
    · intro wx hb
      refine Rg.from_nil fun T hT => ?_
      obtain ⟨q0, q1, q2, q3, q4, q5, q6, q7, q8, q9, q10, q11⟩ := pars_at (hP4.below hb)
      go_wp2
      exact hT _ _ rfl (by first | exact Rg.Keep.refl _ | exact below_of_dr hw2 | exact hw2 | exact (Below.refl _ _).alloc (Nat.le_refl _) _) (by first | rfl | exact congrArg _ (by decide))
    refine Rg.op_is (mval A W.length c B b.length d) [] rfl rfl (by kernel_rfl) ?_ ?_
    · intro wx hb
      refine Rg.from_nil fun T hT => ?_
      have m0 := (hM4.below hb).cell (k := 0) rfl
      have m1 := (hM4.below hb).cell (k := 1) rfl
      go_wp2
      exact hT _ _ rfl (by first | exact Rg.Keep.refl _ | exact below_of_dr hw2 | exact hw2 | exact (Below.refl _ _).alloc (Nat.le_refl _) _) (by first | rfl | exact congrArg _ (by decide))
    refine Rg.op_of (fun w' v => ∃ A c, v = Value.slice A 0 c) [4, 5] rfl ?_ ?_ rfl (by kernel_rfl) ?_ ?_
    · exact fun _ _ _ _ h => h
    · exact fun _ _ _ _ h => h
    · intro wx hb
      refine Rg.from_is (some 111) rfl rfl ?_
      refine Rg.from_is (some 112) rfl rfl ?_
      refine Rg.from_nil fun T hT => ?_
      skip
      go_wp2_with (fail)
      refine (fsecrets_c parSome parSome_ok _ _ W b c d _ (hA4.below hb) (hB4.below hb) (by omega) (by omega) u1 u2).mono ?_
      rintro e w8 ⟨v, rfl, hown, hw8⟩
      obtain ⟨A9, c9, rfl, _⟩ := own_form (n := 0) hown (by rw [List.length_map]; exact hse.out)
      go_wp2
      exact hT _ _ rfl hw8 ⟨_, _, rfl⟩
    refine Rg.op_is (.int .i64 0) [6] rfl rfl (by kernel_rfl) ?_ ?_
    · intro wx hb
      refine Rg.from_of (some 113) rfl rfl fun v113 h113 => ?_
      refine Rg.from_nil fun T hT => ?_
      obtain ⟨A9, c9, rfl⟩ := h113
      go_wp2
      exact hT _ _ rfl (Below.refl _ _) rfl
    refine Rg.op_is (pval parSome) [] rfl rfl (by kernel_rfl) ?_ ?_
    · intro wx hb
      refine Rg.from_nil fun T hT => ?_
      obtain ⟨q0, q1, q2, q3, q4, q5, q6, q7, q8, q9, q10, q11⟩ := pars_at (hP4.below hb)
      go_wp2
      exact hT _ _ rfl (by first | exact Rg.Keep.refl _ | exact below_of_dr hw2 | exact hw2 | exact (Below.refl _ _).alloc (Nat.le_refl _) _) (by first | rfl | exact congrArg _ (by decide))
    refine Rg.op_is (mval A W.length c B b.length d) [] rfl rfl (by kernel_rfl) ?_ ?_
    · intro wx hb
      refine Rg.from_nil fun T hT => ?_
      have m0 := (hM4.below hb).cell (k := 0) rfl
      have m1 := (hM4.below hb).cell (k := 1) rfl
      go_wp2
      exact hT _ _ rfl (by first | exact Rg.Keep.refl _ | exact below_of_dr hw2 | exact hw2 | exact (Below.refl _ _).alloc (Nat.le_refl _) _) (by first | rfl | exact congrArg _ (by decide))
    refine Rg.op_of (fun w' v => RowI w' v [1]) [] rfl ?_ ?_ rfl (by kernel_rfl) ?_ ?_
    · exact fun w1 w2 v hk h => h.below hk
    · exact fun w1 w2 v hk h => h.below hk
    · intro wx hb
      refine Rg.from_nil fun T hT => ?_
      go_wp2
      exact hT _ _ rfl (below_alloc _ _) (rowI_new wx [1] 2 1 rfl (by decide))
    refine Rg.op_of (fun w' v => ∃ A c, v = Value.slice A 0 c) [8, 9, 10] rfl ?_ ?_ rfl (by kernel_rfl) ?_ ?_
    · exact fun _ _ _ _ h => h
    · exact fun _ _ _ _ h => h
    · intro wx hb
      refine Rg.from_is (some 115) rfl rfl ?_
      refine Rg.from_is (some 116) rfl rfl ?_
      refine Rg.from_of (some 117) rfl rfl fun v117 h117 => ?_
      refine Rg.from_nil fun T hT => ?_
      obtain ⟨A1, c1, rfl, g1, _⟩ := h117
      go_wp2_with (fail)
      refine (fscores_c parSome _ _ A1 W b [1] c d c1 _ (hA4.below hb) (hB4.below hb) g1 (by omega) (by omega) (by decide) u1 u2 (ints_of_decide (by decide))).mono ?_
      rintro e w8 ⟨v, rfl, hown, hw8⟩
      obtain ⟨A9, c9, rfl, _⟩ := own_form (n := 0) hown (by rw [List.length_map]; exact hsc.out)
      go_wp2
      exact hT _ _ rfl hw8 ⟨_, _, rfl⟩
    refine Rg.op_is (.int .i64 0) [11] rfl rfl (by kernel_rfl) ?_ ?_
    · intro wx hb
      refine Rg.from_of (some 118) rfl rfl fun v118 h118 => ?_
      refine Rg.from_nil fun T hT => ?_
      obtain ⟨A9, c9, rfl⟩ := h118
      go_wp2
      exact hT _ _ rfl (Below.refl _ _) rfl
    refine Rg.op_is (.int .i64 0) [7, 12] rfl rfl (by kernel_rfl) ?_ ?_
    · intro wx hb
      refine Rg.from_is (some 114) rfl rfl ?_
      refine Rg.from_is (some 119) rfl rfl ?_
      refine Rg.from_nil fun T hT => ?_
      go_wp2
      exact hT _ _ rfl (by first | exact Rg.Keep.refl _ | exact below_of_dr hw2 | exact hw2 | exact (Below.refl _ _).alloc (Nat.le_refl _) _) (by first | rfl | exact congrArg _ (by decide))
    refine Rg.op_is (.bool false) [13] rfl rfl (by kernel_rfl) ?_ ?_
    · intro wx hb
      refine Rg.from_is (some 120) rfl rfl ?_
      refine Rg.from_nil fun T hT => ?_
      go_wp2
      exact hT _ _ rfl (by first | exact Rg.Keep.refl _ | exact below_of_dr hw2 | exact hw2 | exact (Below.refl _ _).alloc (Nat.le_refl _) _) (by first | rfl | exact congrArg _ (by decide))
    refine Rg.walk_nil [0, 1, 2, 3, 4, 5, 6, 7, 8, 9, 10, 11, 12, 13, 14] (by kernel_rfl) ?_
    intro wx hb
    refine Rg.from_is (some 107) rfl rfl ?_
    refine Rg.from_is (some 108) rfl rfl ?_
    refine Rg.from_is (some 109) rfl rfl ?_
    refine Rg.from_is (some 110) rfl rfl ?_
    refine Rg.from_is (some 111) rfl rfl ?_
    refine Rg.from_is (some 112) rfl rfl ?_
    refine Rg.from_of (some 113) rfl rfl fun v113 h113 => ?_
    refine Rg.from_is (some 114) rfl rfl ?_
    refine Rg.from_is (some 115) rfl rfl ?_
    refine Rg.from_is (some 116) rfl rfl ?_
    refine Rg.from_of (some 117) rfl rfl fun v117 h117 => ?_
    refine Rg.from_of (some 118) rfl rfl fun v118 h118 => ?_
    refine Rg.from_is (some 119) rfl rfl ?_
    refine Rg.from_is (some 120) rfl rfl ?_
    refine Rg.from_is (some 121) rfl rfl ?_
    refine Rg.from_nil ?_
    simp only [List.map, Act.put, List.setIfInBounds_toArray, List.set_cons_zero, List.set_cons_succ]
    have hb9 := below_next (below_next hbk hbk.size hbv) (by have := hbk.size; have := hbv.size; omega) hb
    clear hb hA4 hB4 hP4 hM4
    go_wp2
    go_roundw
    case rel => exact ⟨k + 1, by go_num, by omega, hb9⟩
    case measure => simp [intOf]; omega
  case neg =>
  obtain rfl : k = 7 := by omega
  have hB := hBk.keep
  clear hr1 hBk hmd hvl hP
  go_wp2_with (refine wpList_named hB rfl ?_; clear hB; intro wn gn hB hbn hg; (try rw [hg]); clear hg)
  have hr1 : Row1 wn gn _ (badPars.flatMap pcells) := hB.row (i := 0) rfl
  obtain ⟨gW, gX, hE, hGE, hBE⟩ : ∃ gW gX : Nat, Row1 wn _ _ [.slice (some ⟨gW, 0, none⟩) 2 2, .slice (some ⟨gX, 0, none⟩) 2 2] ∧ GridI wn (some ⟨gW, 0, none⟩) [[3], [-3]] ∧ Cells wn (some ⟨gX, 0, none⟩) (([-3, 3] : List Int).map (.int .i64)) := ⟨_, _, hB.row (i := 1) rfl, gridI_two (l := [3]) (l' := [-3]) (hB.row (i := 3) rfl) (hB.row (i := 5) rfl).cells (hB.row (i := 4) rfl).cells (by decide) (by decide), (hB.row (i := 2) rfl).cells⟩
  have hPs : Row1 wn _ _ (pcells parSome) := hB.fix (i := 24) rfl
  have uE : Ints [[3], [-3]] := intsB_ok (by decide)
  have vE : I64s [-3, 3] := ints_of_decide (by decide)
  go_loopw [10, 139] (fun _ i wr => ∃ k : Nat, i = .int .i64 k ∧ k ≤ 8 ∧ Below wn.heap.size wn wr) (fun _ i _ => 8 - (intOf i).toNat)
  case atStart => exact ⟨0, rfl, by omega, Below.refl _ _⟩
  case round =>
  obtain ⟨k, rfl, hk, hbk⟩ := hrel
  have hBk := hB.more hbk
  by_cases hlt : k < 8
  case pos =>
    obtain ⟨p, ht⟩ := get_of_lt (l := badPars) (k := k) hlt
    obtain ⟨hp, hf⟩ := bad_ok _ (List.mem_of_getElem? ht)
    have hr3 := hr1.below hbk
    have c0 : wr.cell? ⟨gn, k * 12 + 0, none⟩ = some (.int .u64 p.P) := hr3.cell (by rw [flat_at pcells 12 (fun _ => rfl) _ _ 0 (by decide), ht]; rfl)
    have c1 : wr.cell? ⟨gn, k * 12 + 1, none⟩ = some (.int .u64 p.Q) := hr3.cell (by rw [flat_at pcells 12 (fun _ => rfl) _ _ 1 (by decide), ht]; rfl)
    have c2 : wr.cell? ⟨gn, k * 12 + 2, none⟩ = some (.int .u64 p.G) := hr3.cell (by rw [flat_at pcells 12 (fun _ => rfl) _ _ 2 (by decide), ht]; rfl)
    have c3 : wr.cell? ⟨gn, k * 12 + 3, none⟩ = some (.int .u64 p.H) := hr3.cell (by rw [flat_at pcells 12 (fun _ => rfl) _ _ 3 (by decide), ht]; rfl)
    have c4 : wr.cell? ⟨gn, k * 12 + 4, none⟩ = some (.int .i64 p.Nodes) := hr3.cell (by rw [flat_at pcells 12 (fun _ => rfl) _ _ 4 (by decide), ht]; rfl)
    have c5 : wr.cell? ⟨gn, k * 12 + 5, none⟩ = some (.int .i64 p.N) := hr3.cell (by rw [flat_at pcells 12 (fun _ => rfl) _ _ 5 (by decide), ht]; rfl)
    have c6 : wr.cell? ⟨gn, k * 12 + 6, none⟩ = some (.int .i64 p.T) := hr3.cell (by rw [flat_at pcells 12 (fun _ => rfl) _ _ 6 (by decide), ht]; rfl)
    have c7 : wr.cell? ⟨gn, k * 12 + 7, none⟩ = some (.int .i64 p.K) := hr3.cell (by rw [flat_at pcells 12 (fun _ => rfl) _ _ 7 (by decide), ht]; rfl)
    have c8 : wr.cell? ⟨gn, k * 12 + 8, none⟩ = some (.int .i64 p.D) := hr3.cell (by rw [flat_at pcells 12 (fun _ => rfl) _ _ 8 (by decide), ht]; rfl)
    have c9 : wr.cell? ⟨gn, k * 12 + 9, none⟩ = some (.int .i64 p.R) := hr3.cell (by rw [flat_at pcells 12 (fun _ => rfl) _ _ 9 (by decide), ht]; rfl)
    have c10 : wr.cell? ⟨gn, k * 12 + 10, none⟩ = some (.int .i64 p.M) := hr3.cell (by rw [flat_at pcells 12 (fun _ => rfl) _ _ 10 (by decide), ht]; rfl)
    have c11 : wr.cell? ⟨gn, k * 12 + 11, none⟩ = some (.int .i64 p.X) := hr3.cell (by rw [flat_at pcells 12 (fun _ => rfl) _ _ 11 (by decide), ht]; rfl)
    have h1 := hid (show mayB p [[3], [-3]] [-3, 3] = false by simp [mayB, hf])
    have h2 := hid (show queryE p [0] = 4 by simp [queryE, hf])
    have h3 := hid (show (rowS p [1]).length = 0 by simp [rowS, hf])
    have h4 := hid (show (dotS p [1, 1, 1, 1] [1]).length = 0 by simp [dotS, hf])
    have h5 := hid (show (secretsS p [[3], [-3]] [-3, 3]).length = 0 by simp [secretsS, h1.out])
    simp only [Nat.add_zero] at c0
    have hG3 := hGE.below hbk
    have hB3 := hBE.below hbk
    have hE3 := hE.below hbk
    clear ht hr1 hr3 hB hGE hBE hE hf
    go_wp2
    refine code_named hBk ?_
    clear hBk
    intro wv gv hBv hbv hg
    rw [hg]
    have hP4 : Row1 wv gv _ (pcells p) := hBv.row (i := 0) rfl
    have hG4 := hG3.below hbv
    have hB4 := hB3.below hbv
    have hE4 := hE3.below hbv
    clear hg hBv hG3 hB3 hE3 c0 c1 c2 c3 c4 c5 c6 c7 c8 c9 c10 c11
    refine Rg.wp_region (l := [_, _, _, _, _, _, _, _, _, _, _, _, _, _, _, _, _, _, _, _, _, _, _, _, _, _]) (tail := [_]) (Rg.grows _ 27) [some 143, some 144, some 145, some 146, some 147, some 148, some 149, some 150, some 151, some 152, some 153, some 154, some 155, some 156, some 157, some 158, some 159, some 160, some 161, some 162, some 163, some 164, some 165, some 166, some 167, some 168, some 169] 250 (by kernel_rfl) (by kernel_rfl) (by kernel_rfl) rfl (Rg.grows_fair _ _) (Rg.keep_drew _) (trivial) ?_
    refine Rg.op_is (pval p) [] rfl rfl (by kernel_rfl) ?_ ?_
    · intro wx hb
      refine Rg.from_nil fun T hT => ?_
      obtain ⟨q0, q1, q2, q3, q4, q5, q6, q7, q8, q9, q10, q11⟩ := pars_at (hP4.below hb)
      go_wp2
      exact hT _ _ rfl (by first | exact Rg.Keep.refl _ | exact below_of_dr hw2 | exact hw2 | exact (Below.refl _ _).alloc (Nat.le_refl _) _) (by first | rfl | exact congrArg _ (by decide))
    refine Rg.op_is (mval (some ⟨gW, 0, none⟩) 2 2 (some ⟨gX, 0, none⟩) 2 2) [] rfl rfl (by kernel_rfl) ?_ ?_
    · intro wx hb
      refine Rg.from_nil fun T hT => ?_
      have m0 := (hE4.below hb).cell (k := 0) rfl
      have m1 := (hE4.below hb).cell (k := 1) rfl
      go_wp2
      exact hT _ _ rfl (by first | exact Rg.Keep.refl _ | exact below_of_dr hw2 | exact hw2 | exact (Below.refl _ _).alloc (Nat.le_refl _) _) (by first | rfl | exact congrArg _ (by decide))
    refine Rg.op_is (.bool false) [0, 1] rfl rfl (by kernel_rfl) ?_ ?_
    · intro wx hb
      refine Rg.from_is (some 143) rfl rfl ?_
      refine Rg.from_is (some 144) rfl rfl ?_
      refine Rg.from_nil fun T hT => ?_
      go_wp2_with (go_at_call 36; refine (fmay_c p _ _ [[3], [-3]] [-3, 3] 2 2 _ (hG4.below hb) (hB4.below hb) (by decide) (by decide) uE vE).mono ?_; rintro e w8 ⟨rfl, hw8⟩; rw [h1.out])
      exact hT _ _ rfl hw8 rfl
    refine Rg.op_is (.bool false) [2] rfl rfl (by kernel_rfl) ?_ ?_
    · intro wx hb
      refine Rg.from_is (some 145) rfl rfl ?_
      refine Rg.from_nil fun T hT => ?_
      go_wp2
      exact hT _ _ rfl (by first | exact Rg.Keep.refl _ | exact below_of_dr hw2 | exact hw2 | exact (Below.refl _ _).alloc (Nat.le_refl _) _) (by first | rfl | exact congrArg _ (by decide))
    refine Rg.op_is (pval p) [] rfl rfl (by kernel_rfl) ?_ ?_
    · intro wx hb
      refine Rg.from_nil fun T hT => ?_
      obtain ⟨q0, q1, q2, q3, q4, q5, q6, q7, q8, q9, q10, q11⟩ := pars_at (hP4.below hb)
      go_wp2
      exact hT _ _ rfl (by first | exact Rg.Keep.refl _ | exact below_of_dr hw2 | exact hw2 | exact (Below.refl _ _).alloc (Nat.le_refl _) _) (by first | rfl | exact congrArg _ (by decide))
    refine Rg.op_of (fun w' v => RowI w' v [0]) [] rfl ?_ ?_ rfl (by kernel_rfl) ?_ ?_
    · exact fun w1 w2 v hk h => h.below hk
    · exact fun w1 w2 v hk h => h.below hk
    · intro wx hb
      refine Rg.from_nil fun T hT => ?_
      go_wp2
      exact hT _ _ rfl (below_alloc _ _) (rowI_new wx [0] 2 1 rfl (by decide))
    refine Rg.op_is (.int .i64 4) [4, 5] rfl rfl (by kernel_rfl) ?_ ?_
    · intro wx hb
      refine Rg.from_is (some 147) rfl rfl ?_
      refine Rg.from_of (some 148) rfl rfl fun v148 h148 => ?_
      refine Rg.from_nil fun T hT => ?_
      obtain ⟨A1, c1, rfl, g1, _⟩ := h148
      go_wp2_with (go_at_call 37; refine (query_c p A1 [0] c1 _ g1 (by decide) (ints_of_decide (by decide))).mono ?_; rintro e w8 ⟨rfl, hw8⟩; rw [h2.out])
      exact hT _ _ rfl hw8 rfl
    refine Rg.op_is (.bool false) [6] rfl rfl (by kernel_rfl) ?_ ?_
    · intro wx hb
      refine Rg.from_is (some 149) rfl rfl ?_
      refine Rg.from_nil fun T hT => ?_
      go_wp2
      exact hT _ _ rfl (by first | exact Rg.Keep.refl _ | exact below_of_dr hw2 | exact hw2 | exact (Below.refl _ _).alloc (Nat.le_refl _) _) (by first | rfl | exact congrArg _ (by decide))
    refine Rg.op_is (.bool false) [3, 7] rfl rfl (by kernel_rfl) ?_ ?_
    · intro wx hb
      refine Rg.from_is (some 146) rfl rfl ?_
      refine Rg.from_is (some 150) rfl rfl ?_
      refine Rg.from_nil fun T hT => ?_
      go_wp2
      exact hT _ _ rfl (by first | exact Rg.Keep.refl _ | exact below_of_dr hw2 | exact hw2 | exact (Below.refl _ _).alloc (Nat.le_refl _) _) (by first | rfl | exact congrArg _ (by decide))
    refine Rg.op_is (.bool false) [8] rfl rfl (by kernel_rfl) ?_ ?_
    · intro wx hb
      refine Rg.from_is (some 151) rfl rfl ?_
      refine Rg.from_nil fun T hT => ?_
      go_wp2
      exact hT _ _ rfl (by first | exact Rg.Keep.refl _ | exact below_of_dr hw2 | exact hw2 | exact (Below.refl _ _).alloc (Nat.le_refl _) _) (by first | rfl | exact congrArg _ (by decide))
    refine Rg.op_is (pval p) [] rfl rfl (by kernel_rfl) ?_ ?_
    · intro wx hb
      refine Rg.from_nil fun T hT => ?_
      obtain ⟨q0, q1, q2, q3, q4, q5, q6, q7, q8, q9, q10, q11⟩ := pars_at (hP4.below hb)
      go_wp2
      exact hT _ _ rfl (by first | exact Rg.Keep.refl _ | exact below_of_dr hw2 | exact hw2 | exact (Below.refl _ _).alloc (Nat.le_refl _) _) (by first | rfl | exact congrArg _ (by decide))
    refine Rg.op_of (fun w' v => RowI w' v [1]) [] rfl ?_ ?_ rfl (by kernel_rfl) ?_ ?_
    · exact fun w1 w2 v hk h => h.below hk
    · exact fun w1 w2 v hk h => h.below hk
    · intro wx hb
      refine Rg.from_nil fun T hT => ?_
      go_wp2
      exact hT _ _ rfl (below_alloc _ _) (rowI_new wx [1] 2 1 rfl (by decide))
    refine Rg.op_of (fun w' v => ∃ A c, v = Value.slice A 0 c) [10, 11] rfl ?_ ?_ rfl (by kernel_rfl) ?_ ?_
    · exact fun _ _ _ _ h => h
    · exact fun _ _ _ _ h => h
    · intro wx hb
      refine Rg.from_is (some 153) rfl rfl ?_
      refine Rg.from_of (some 154) rfl rfl fun v154 h154 => ?_
      refine Rg.from_nil fun T hT => ?_
      obtain ⟨A1, c1, rfl, g1, _⟩ := h154
      go_wp2_with (fail)
      refine (frow_c p hp A1 [1] c1 _ g1 (by decide) (ints_of_decide (by decide))).mono ?_
      rintro e w8 ⟨v, rfl, hown, hw8⟩
      obtain ⟨A9, c9, rfl, _⟩ := own_form (n := 0) hown (by rw [List.length_map]; exact h3.out)
      go_wp2
      exact hT _ _ rfl hw8 ⟨_, _, rfl⟩
    refine Rg.op_is (.int .i64 0) [12] rfl rfl (by kernel_rfl) ?_ ?_
    · intro wx hb
      refine Rg.from_of (some 155) rfl rfl fun v155 h155 => ?_
      refine Rg.from_nil fun T hT => ?_
      obtain ⟨A9, c9, rfl⟩ := h155
      go_wp2
      exact hT _ _ rfl (Below.refl _ _) rfl
    refine Rg.op_is (pval p) [] rfl rfl (by kernel_rfl) ?_ ?_
    · intro wx hb
      refine Rg.from_nil fun T hT => ?_
      obtain ⟨q0, q1, q2, q3, q4, q5, q6, q7, q8, q9, q10, q11⟩ := pars_at (hP4.below hb)
      go_wp2
      exact hT _ _ rfl (by first | exact Rg.Keep.refl _ | exact below_of_dr hw2 | exact hw2 | exact (Below.refl _ _).alloc (Nat.le_refl _) _) (by first | rfl | exact congrArg _ (by decide))
    refine Rg.op_of (fun w' v => RowV w' v [1, 1, 1, 1]) [] rfl ?_ ?_ rfl (by kernel_rfl) ?_ ?_
    · exact fun w1 w2 v hk h => h.below hk
    · exact fun w1 w2 v hk h => h.below hk
    · intro wx hb
      refine Rg.from_nil fun T hT => ?_
      go_wp2
      exact hT _ _ rfl (below_alloc _ _) (rowV_new wx [1, 1, 1, 1] 23 4 rfl (by decide))
    refine Rg.op_of (fun w' v => RowI w' v [1]) [] rfl ?_ ?_ rfl (by kernel_rfl) ?_ ?_
    · exact fun w1 w2 v hk h => h.below hk
    · exact fun w1 w2 v hk h => h.below hk
    · intro wx hb
      refine Rg.from_nil fun T hT => ?_
      go_wp2
      exact hT _ _ rfl (below_alloc _ _) (rowI_new wx [1] 2 1 rfl (by decide))
    refine Rg.op_of (fun w' v => ∃ A c, v = Value.slice A 0 c) [14, 15, 16] rfl ?_ ?_ rfl (by kernel_rfl) ?_ ?_
    · exact fun _ _ _ _ h => h
    · exact fun _ _ _ _ h => h
    · intro wx hb
      refine Rg.from_is (some 157) rfl rfl ?_
      refine Rg.from_of (some 158) rfl rfl fun v158 h158 => ?_
      refine Rg.from_of (some 159) rfl rfl fun v159 h159 => ?_
      refine Rg.from_nil fun T hT => ?_
      obtain ⟨A1, c1, rfl, g1, _⟩ := h158
      obtain ⟨A2, c2, rfl, g2, _⟩ := h159
      go_wp2_with (fail)
      refine (fdot_c p hp A1 A2 [1, 1, 1, 1] [1] c1 c2 _ g1 g2 (by decide) (by decide) (words_of_decide (by decide)) (ints_of_decide (by decide))).mono ?_
      rintro e w8 ⟨v, rfl, hown, hw8⟩
      obtain ⟨A9, c9, rfl, _⟩ := own_form (n := 0) hown (by rw [List.length_map]; exact h4.out)
      go_wp2
      exact hT _ _ rfl hw8 ⟨_, _, rfl⟩
    refine Rg.op_is (.int .i64 0) [17] rfl rfl (by kernel_rfl) ?_ ?_
    · intro wx hb
      refine Rg.from_of (some 160) rfl rfl fun v160 h160 => ?_
      refine Rg.from_nil fun T hT => ?_
      obtain ⟨A9, c9, rfl⟩ := h160
      go_wp2
      exact hT _ _ rfl (Below.refl _ _) rfl
    refine Rg.op_is (.int .i64 0) [13, 18] rfl rfl (by kernel_rfl) ?_ ?_
    · intro wx hb
      refine Rg.from_is (some 156) rfl rfl ?_
      refine Rg.from_is (some 161) rfl rfl ?_
      refine Rg.from_nil fun T hT => ?_
      go_wp2
      exact hT _ _ rfl (by first | exact Rg.Keep.refl _ | exact below_of_dr hw2 | exact hw2 | exact (Below.refl _ _).alloc (Nat.le_refl _) _) (by first | rfl | exact congrArg _ (by decide))
    refine Rg.op_is (pval p) [] rfl rfl (by kernel_rfl) ?_ ?_
    · intro wx hb
      refine Rg.from_nil fun T hT => ?_
      obtain ⟨q0, q1, q2, q3, q4, q5, q6, q7, q8, q9, q10, q11⟩ := pars_at (hP4.below hb)
      go_wp2
      exact hT _ _ rfl (by first | exact Rg.Keep.refl _ | exact below_of_dr hw2 | exact hw2 | exact (Below.refl _ _).alloc (Nat.le_refl _) _) (by first | rfl | exact congrArg _ (by decide))
    refine Rg.op_is (mval (some ⟨gW, 0, none⟩) 2 2 (some ⟨gX, 0, none⟩) 2 2) [] rfl rfl (by kernel_rfl) ?_ ?_
    · intro wx hb
      refine Rg.from_nil fun T hT => ?_
      have m0 := (hE4.below hb).cell (k := 0) rfl
      have m1 := (hE4.below hb).cell (k := 1) rfl
      go_wp2
      exact hT _ _ rfl (by first | exact Rg.Keep.refl _ | exact below_of_dr hw2 | exact hw2 | exact (Below.refl _ _).alloc (Nat.le_refl _) _) (by first | rfl | exact congrArg _ (by decide))
    refine Rg.op_of (fun w' v => ∃ A c, v = Value.slice A 0 c) [20, 21] rfl ?_ ?_ rfl (by kernel_rfl) ?_ ?_
    · exact fun _ _ _ _ h => h
    · exact fun _ _ _ _ h => h
    · intro wx hb
      refine Rg.from_is (some 163) rfl rfl ?_
      refine Rg.from_is (some 164) rfl rfl ?_
      refine Rg.from_nil fun T hT => ?_
      skip
      go_wp2_with (fail)
      refine (fsecrets_c p hp _ _ [[3], [-3]] [-3, 3] 2 2 _ (hG4.below hb) (hB4.below hb) (by decide) (by decide) uE vE).mono ?_
      rintro e w8 ⟨v, rfl, hown, hw8⟩
      obtain ⟨A9, c9, rfl, _⟩ := own_form (n := 0) hown (by rw [List.length_map]; exact h5.out)
      go_wp2
      exact hT _ _ rfl hw8 ⟨_, _, rfl⟩
    refine Rg.op_is (.int .i64 0) [22] rfl rfl (by kernel_rfl) ?_ ?_
    · intro wx hb
      refine Rg.from_of (some 165) rfl rfl fun v165 h165 => ?_
      refine Rg.from_nil fun T hT => ?_
      obtain ⟨A9, c9, rfl⟩ := h165
      go_wp2
      exact hT _ _ rfl (Below.refl _ _) rfl
    refine Rg.op_is (.int .i64 0) [19, 23] rfl rfl (by kernel_rfl) ?_ ?_
    · intro wx hb
      refine Rg.from_is (some 162) rfl rfl ?_
      refine Rg.from_is (some 166) rfl rfl ?_
      refine Rg.from_nil fun T hT => ?_
      go_wp2
      exact hT _ _ rfl (by first | exact Rg.Keep.refl _ | exact below_of_dr hw2 | exact hw2 | exact (Below.refl _ _).alloc (Nat.le_refl _) _) (by first | rfl | exact congrArg _ (by decide))
    refine Rg.op_is (.bool false) [24] rfl rfl (by kernel_rfl) ?_ ?_
    · intro wx hb
      refine Rg.from_is (some 167) rfl rfl ?_
      refine Rg.from_nil fun T hT => ?_
      go_wp2
      exact hT _ _ rfl (by first | exact Rg.Keep.refl _ | exact below_of_dr hw2 | exact hw2 | exact (Below.refl _ _).alloc (Nat.le_refl _) _) (by first | rfl | exact congrArg _ (by decide))
    refine Rg.walk_nil [0, 1, 2, 3, 4, 5, 6, 7, 8, 9, 10, 11, 12, 13, 14, 15, 16, 17, 18, 19, 20, 21, 22, 23, 24, 25] (by kernel_rfl) ?_
    intro wx hb
    refine Rg.from_is (some 143) rfl rfl ?_
    refine Rg.from_is (some 144) rfl rfl ?_
    refine Rg.from_is (some 145) rfl rfl ?_
    refine Rg.from_is (some 146) rfl rfl ?_
    refine Rg.from_is (some 147) rfl rfl ?_
    refine Rg.from_of (some 148) rfl rfl fun v148 h148 => ?_
    refine Rg.from_is (some 149) rfl rfl ?_
    refine Rg.from_is (some 150) rfl rfl ?_
    refine Rg.from_is (some 151) rfl rfl ?_
    refine Rg.from_is (some 152) rfl rfl ?_
    refine Rg.from_is (some 153) rfl rfl ?_
    refine Rg.from_of (some 154) rfl rfl fun v154 h154 => ?_
    refine Rg.from_of (some 155) rfl rfl fun v155 h155 => ?_
    refine Rg.from_is (some 156) rfl rfl ?_
    refine Rg.from_is (some 157) rfl rfl ?_
    refine Rg.from_of (some 158) rfl rfl fun v158 h158 => ?_
    refine Rg.from_of (some 159) rfl rfl fun v159 h159 => ?_
    refine Rg.from_of (some 160) rfl rfl fun v160 h160 => ?_
    refine Rg.from_is (some 161) rfl rfl ?_
    refine Rg.from_is (some 162) rfl rfl ?_
    refine Rg.from_is (some 163) rfl rfl ?_
    refine Rg.from_is (some 164) rfl rfl ?_
    refine Rg.from_of (some 165) rfl rfl fun v165 h165 => ?_
    refine Rg.from_is (some 166) rfl rfl ?_
    refine Rg.from_is (some 167) rfl rfl ?_
    refine Rg.from_is (some 168) rfl rfl ?_
    refine Rg.from_nil ?_
    simp only [List.map, Act.put, List.setIfInBounds_toArray, List.set_cons_zero, List.set_cons_succ]
    have hb9 := below_next (below_next hbk hbk.size hbv) (by have := hbk.size; have := hbv.size; omega) hb
    clear hb hG4 hB4 hP4 hE4
    go_wp2
    go_roundw
    case rel => exact ⟨k + 1, by go_num, by omega, hb9⟩
    case measure => simp [intOf]; omega
  case neg =>
  obtain rfl : k = 8 := by omega
  have hE3 := hE.below hbk
  have hG3 := hGE.below hbk
  have hB3 := hBE.below hbk
  have hP3 := hPs.below hbk
  clear hr1 hE hGE hBE hPs
  go_wp2
  refine code_named hBk ?_
  clear hBk
  intro wv gv hBv hbv hg
  rw [hg]
  have hN5 : Row1 wv gv _ (pcells parNone) := hBv.row (i := 0) rfl
  have hE5 := hE3.below hbv
  have hG5 := hG3.below hbv
  have hB5 := hB3.below hbv
  have hP5 := hP3.below hbv
  have hbv2 := hBv.b
  clear hg hBv hE3 hG3 hB3 hP3 hbv
  refine Rg.wp_region (l := [_, _, _, _, _, _, _, _, _, _, _, _, _, _, _, _, _, _, _, _, _, _, _, _, _, _, _, _, _, _, _, _, _, _, _, _, _, _, _, _, _, _, _, _, _, _, _, _, _, _, _, _, _, _, _, _, _, _, _, _, _, _, _, _, _, _, _, _, _, _, _, _, _, _, _, _, _, _]) (tail := [_]) (Rg.grows _ 79) [some 172, some 173, some 174, some 175, some 176, some 177, some 178, some 179, some 180, some 181, some 182, some 183, some 184, some 185, some 186, some 187, some 188, some 189, some 190, some 191, some 192, some 193, some 194, some 195, some 196, some 197, some 198, some 199, some 200, some 201, some 202, some 203, some 204, some 205, some 206, some 207, some 208, some 209, some 210, some 211, some 212, some 213, some 214, some 215, some 216, some 217, some 218, some 219, some 220, some 221, some 222, some 223, some 224, some 225, some 226, some 227, some 228, some 229, some 230, some 231, some 232, some 233, some 234, some 235, some 236, some 237, some 238, some 239, some 240, some 241, some 242, some 243, some 244, some 245, some 246, some 247, some 248, some 249, some 0] 250 (by kernel_rfl) (by kernel_rfl) (by kernel_rfl) rfl (Rg.grows_fair _ _) (Rg.keep_drew _) (trivial) ?_
  refine Rg.op_is (pval parSome) [] rfl rfl (by kernel_rfl) ?_ ?_
  · intro wx hb
    refine Rg.from_nil fun T hT => ?_
    obtain ⟨q0, q1, q2, q3, q4, q5, q6, q7, q8, q9, q10, q11⟩ := pars_at (hP5.below hb)
    go_wp2
    exact hT _ _ rfl (by first | exact Rg.Keep.refl _ | exact below_of_dr hw2 | exact hw2 | exact (Below.refl _ _).alloc (Nat.le_refl _) _) (by first | rfl | exact congrArg _ (by decide))
  refine Rg.op_is (mval (some ⟨gW, 0, none⟩) 2 2 (some ⟨gX, 0, none⟩) 2 2) [] rfl rfl (by kernel_rfl) ?_ ?_
  · intro wx hb
    refine Rg.from_nil fun T hT => ?_
    have m0 := (hE5.below hb).cell (k := 0) rfl
    have m1 := (hE5.below hb).cell (k := 1) rfl
    go_wp2
    exact hT _ _ rfl (by first | exact Rg.Keep.refl _ | exact below_of_dr hw2 | exact hw2 | exact (Below.refl _ _).alloc (Nat.le_refl _) _) (by first | rfl | exact congrArg _ (by decide))
  refine Rg.op_is (.bool true) [0, 1] rfl rfl (by kernel_rfl) ?_ ?_
  · intro wx hb
    refine Rg.from_is (some 172) rfl rfl ?_
    refine Rg.from_is (some 173) rfl rfl ?_
    refine Rg.from_nil fun T hT => ?_
    go_wp2_with (go_at_call 36; refine (fmay_c parSome _ _ [[3], [-3]] [-3, 3] 2 2 _ (hG5.below hb) (hB5.below hb) (by decide) (by decide) uE vE).mono ?_; rintro e w8 ⟨rfl, hw8⟩; rw [show mayB parSome [[3], [-3]] [-3, 3] = true from by decide])
    exact hT _ _ rfl hw8 rfl
  refine Rg.op_is (.bool true) [2] rfl rfl (by kernel_rfl) ?_ ?_
  · intro wx hb
    refine Rg.from_is (some 174) rfl rfl ?_
    refine Rg.from_nil fun T hT => ?_
    go_wp2
    exact hT _ _ rfl (by first | exact Rg.Keep.refl _ | exact below_of_dr hw2 | exact hw2 | exact (Below.refl _ _).alloc (Nat.le_refl _) _) (by first | rfl | exact congrArg _ (by decide))
  refine Rg.op_is (pval parSome) [] rfl rfl (by kernel_rfl) ?_ ?_
  · intro wx hb
    refine Rg.from_nil fun T hT => ?_
    obtain ⟨q0, q1, q2, q3, q4, q5, q6, q7, q8, q9, q10, q11⟩ := pars_at (hP5.below hb)
    go_wp2
    exact hT _ _ rfl (by first | exact Rg.Keep.refl _ | exact below_of_dr hw2 | exact hw2 | exact (Below.refl _ _).alloc (Nat.le_refl _) _) (by first | rfl | exact congrArg _ (by decide))
  refine Rg.op_of (fun w' v => RowI w' v [2]) [] rfl ?_ ?_ rfl (by kernel_rfl) ?_ ?_
  · exact fun w1 w2 v hk h => h.below hk
  · exact fun w1 w2 v hk h => h.below hk
  · intro wx hb
    refine Rg.from_nil fun T hT => ?_
    go_wp2
    exact hT _ _ rfl (below_alloc _ _) (rowI_new wx [2] 2 1 rfl (by decide))
  refine Rg.op_is (.int .i64 0) [4, 5] rfl rfl (by kernel_rfl) ?_ ?_
  · intro wx hb
    refine Rg.from_is (some 176) rfl rfl ?_
    refine Rg.from_of (some 177) rfl rfl fun v177 h177 => ?_
    refine Rg.from_nil fun T hT => ?_
    obtain ⟨A1, c1, rfl, g1, _⟩ := h177
    go_wp2_with (go_at_call 37; refine (query_c parSome A1 [2] c1 _ g1 (by decide) (ints_of_decide (by decide))).mono ?_; rintro e w8 ⟨rfl, hw8⟩; rw [show queryE parSome [2] = 0 from by decide])
    exact hT _ _ rfl hw8 rfl
  refine Rg.op_is (.bool true) [6] rfl rfl (by kernel_rfl) ?_ ?_
  · intro wx hb
    refine Rg.from_is (some 178) rfl rfl ?_
    refine Rg.from_nil fun T hT => ?_
    go_wp2
    exact hT _ _ rfl (by first | exact Rg.Keep.refl _ | exact below_of_dr hw2 | exact hw2 | exact (Below.refl _ _).alloc (Nat.le_refl _) _) (by first | rfl | exact congrArg _ (by decide))
  refine Rg.op_is (.bool true) [3, 7] rfl rfl (by kernel_rfl) ?_ ?_
  · intro wx hb
    refine Rg.from_is (some 175) rfl rfl ?_
    refine Rg.from_is (some 179) rfl rfl ?_
    refine Rg.from_nil fun T hT => ?_
    go_wp2
    exact hT _ _ rfl (by first | exact Rg.Keep.refl _ | exact below_of_dr hw2 | exact hw2 | exact (Below.refl _ _).alloc (Nat.le_refl _) _) (by first | rfl | exact congrArg _ (by decide))
  refine Rg.op_is (.bool true) [8] rfl rfl (by kernel_rfl) ?_ ?_
  · intro wx hb
    refine Rg.from_is (some 180) rfl rfl ?_
    refine Rg.from_nil fun T hT => ?_
    go_wp2
    exact hT _ _ rfl (by first | exact Rg.Keep.refl _ | exact below_of_dr hw2 | exact hw2 | exact (Below.refl _ _).alloc (Nat.le_refl _) _) (by first | rfl | exact congrArg _ (by decide))
  refine Rg.op_is (pval parSome) [] rfl rfl (by kernel_rfl) ?_ ?_
  · intro wx hb
    refine Rg.from_nil fun T hT => ?_
    obtain ⟨q0, q1, q2, q3, q4, q5, q6, q7, q8, q9, q10, q11⟩ := pars_at (hP5.below hb)
    go_wp2
    exact hT _ _ rfl (by first | exact Rg.Keep.refl _ | exact below_of_dr hw2 | exact hw2 | exact (Below.refl _ _).alloc (Nat.le_refl _) _) (by first | rfl | exact congrArg _ (by decide))
  refine Rg.op_of (fun w' v => RowI w' v [-3]) [] rfl ?_ ?_ rfl (by kernel_rfl) ?_ ?_
  · exact fun w1 w2 v hk h => h.below hk
  · exact fun w1 w2 v hk h => h.below hk
  · intro wx hb
    refine Rg.from_nil fun T hT => ?_
    go_wp2
    exact hT _ _ rfl (below_alloc _ _) (rowI_new wx [-3] 2 1 rfl (by decide))
  refine Rg.op_is (.int .i64 20) [10, 11] rfl rfl (by kernel_rfl) ?_ ?_
  · intro wx hb
    refine Rg.from_is (some 182) rfl rfl ?_
    refine Rg.from_of (some 183) rfl rfl fun v183 h183 => ?_
    refine Rg.from_nil fun T hT => ?_
    obtain ⟨A1, c1, rfl, g1, _⟩ := h183
    go_wp2_with (go_at_call 37; refine (query_c parSome A1 [-3] c1 _ g1 (by decide) (ints_of_decide (by decide))).mono ?_; rintro e w8 ⟨rfl, hw8⟩; rw [show queryE parSome [-3] = 20 from by decide])
    exact hT _ _ rfl hw8 rfl
  refine Rg.op_is (.bool true) [12] rfl rfl (by kernel_rfl) ?_ ?_
  · intro wx hb
    refine Rg.from_is (some 184) rfl rfl ?_
    refine Rg.from_nil fun T hT => ?_
    go_wp2
    exact hT _ _ rfl (by first | exact Rg.Keep.refl _ | exact below_of_dr hw2 | exact hw2 | exact (Below.refl _ _).alloc (Nat.le_refl _) _) (by first | rfl | exact congrArg _ (by decide))
  refine Rg.op_is (.bool true) [9, 13] rfl rfl (by kernel_rfl) ?_ ?_
  · intro wx hb
    refine Rg.from_is (some 181) rfl rfl ?_
    refine Rg.from_is (some 185) rfl rfl ?_
    refine Rg.from_nil fun T hT => ?_
    go_wp2
    exact hT _ _ rfl (by first | exact Rg.Keep.refl _ | exact below_of_dr hw2 | exact hw2 | exact (Below.refl _ _).alloc (Nat.le_refl _) _) (by first | rfl | exact congrArg _ (by decide))
  refine Rg.op_is (.bool true) [14] rfl rfl (by kernel_rfl) ?_ ?_
  · intro wx hb
    refine Rg.from_is (some 186) rfl rfl ?_
    refine Rg.from_nil fun T hT => ?_
    go_wp2
    exact hT _ _ rfl (by first | exact Rg.Keep.refl _ | exact below_of_dr hw2 | exact hw2 | exact (Below.refl _ _).alloc (Nat.le_refl _) _) (by first | rfl | exact congrArg _ (by decide))
  refine Rg.op_is (pval parSome) [] rfl rfl (by kernel_rfl) ?_ ?_
  · intro wx hb
    refine Rg.from_nil fun T hT => ?_
    obtain ⟨q0, q1, q2, q3, q4, q5, q6, q7, q8, q9, q10, q11⟩ := pars_at (hP5.below hb)
    go_wp2
    exact hT _ _ rfl (by first | exact Rg.Keep.refl _ | exact below_of_dr hw2 | exact hw2 | exact (Below.refl _ _).alloc (Nat.le_refl _) _) (by first | rfl | exact congrArg _ (by decide))
  refine Rg.op_of (fun w' v => RowI w' v [1, 1]) [] rfl ?_ ?_ rfl (by kernel_rfl) ?_ ?_
  · exact fun w1 w2 v hk h => h.below hk
  · exact fun w1 w2 v hk h => h.below hk
  · intro wx hb
    refine Rg.from_nil fun T hT => ?_
    go_wp2
    exact hT _ _ rfl (below_alloc _ _) (rowI_new wx [1, 1] 2 2 rfl (by decide))
  refine Rg.op_is (.int .i64 4) [16, 17] rfl rfl (by kernel_rfl) ?_ ?_
  · intro wx hb
    refine Rg.from_is (some 188) rfl rfl ?_
    refine Rg.from_of (some 189) rfl rfl fun v189 h189 => ?_
    refine Rg.from_nil fun T hT => ?_
    obtain ⟨A1, c1, rfl, g1, _⟩ := h189
    go_wp2_with (go_at_call 37; refine (query_c parSome A1 [1, 1] c1 _ g1 (by decide) (ints_of_decide (by decide))).mono ?_; rintro e w8 ⟨rfl, hw8⟩; rw [show queryE parSome [1, 1] = 4 from by decide])
    exact hT _ _ rfl hw8 rfl
  refine Rg.op_is (.bool true) [18] rfl rfl (by kernel_rfl) ?_ ?_
  · intro wx hb
    refine Rg.from_is (some 190) rfl rfl ?_
    refine Rg.from_nil fun T hT => ?_
    go_wp2
    exact hT _ _ rfl (by first | exact Rg.Keep.refl _ | exact below_of_dr hw2 | exact hw2 | exact (Below.refl _ _).alloc (Nat.le_refl _) _) (by first | rfl | exact congrArg _ (by decide))
  refine Rg.op_is (.bool true) [15, 19] rfl rfl (by kernel_rfl) ?_ ?_
  · intro wx hb
    refine Rg.from_is (some 187) rfl rfl ?_
    refine Rg.from_is (some 191) rfl rfl ?_
    refine Rg.from_nil fun T hT => ?_
    go_wp2
    exact hT _ _ rfl (by first | exact Rg.Keep.refl _ | exact below_of_dr hw2 | exact hw2 | exact (Below.refl _ _).alloc (Nat.le_refl _) _) (by first | rfl | exact congrArg _ (by decide))
  refine Rg.op_is (.bool true) [20] rfl rfl (by kernel_rfl) ?_ ?_
  · intro wx hb
    refine Rg.from_is (some 192) rfl rfl ?_
    refine Rg.from_nil fun T hT => ?_
    go_wp2
    exact hT _ _ rfl (by first | exact Rg.Keep.refl _ | exact below_of_dr hw2 | exact hw2 | exact (Below.refl _ _).alloc (Nat.le_refl _) _) (by first | rfl | exact congrArg _ (by decide))
  refine Rg.op_is (pval parSome) [] rfl rfl (by kernel_rfl) ?_ ?_
  · intro wx hb
    refine Rg.from_nil fun T hT => ?_
    obtain ⟨q0, q1, q2, q3, q4, q5, q6, q7, q8, q9, q10, q11⟩ := pars_at (hP5.below hb)
    go_wp2
    exact hT _ _ rfl (by first | exact Rg.Keep.refl _ | exact below_of_dr hw2 | exact hw2 | exact (Below.refl _ _).alloc (Nat.le_refl _) _) (by first | rfl | exact congrArg _ (by decide))
  refine Rg.op_is (.int .i64 4) [22] rfl rfl (by kernel_rfl) ?_ ?_
  · intro wx hb
    refine Rg.from_is (some 194) rfl rfl ?_
    refine Rg.from_nil fun T hT => ?_
    go_wp2_with (go_at_call 37; refine (query_c parSome none [] 0 _ (Cells.nil _ _) (by decide) (ints_of_decide (by decide))).mono ?_; rintro e w8 ⟨rfl, hw8⟩; rw [show queryE parSome [] = 4 from by decide])
    exact hT _ _ rfl hw8 rfl
  refine Rg.op_is (.bool true) [23] rfl rfl (by kernel_rfl) ?_ ?_
  · intro wx hb
    refine Rg.from_is (some 195) rfl rfl ?_
    refine Rg.from_nil fun T hT => ?_
    go_wp2
    exact hT _ _ rfl (by first | exact Rg.Keep.refl _ | exact below_of_dr hw2 | exact hw2 | exact (Below.refl _ _).alloc (Nat.le_refl _) _) (by first | rfl | exact congrArg _ (by decide))
  refine Rg.op_is (.bool true) [21, 24] rfl rfl (by kernel_rfl) ?_ ?_
  · intro wx hb
    refine Rg.from_is (some 193) rfl rfl ?_
    refine Rg.from_is (some 196) rfl rfl ?_
    refine Rg.from_nil fun T hT => ?_
    go_wp2
    exact hT _ _ rfl (by first | exact Rg.Keep.refl _ | exact below_of_dr hw2 | exact hw2 | exact (Below.refl _ _).alloc (Nat.le_refl _) _) (by first | rfl | exact congrArg _ (by decide))
  refine Rg.op_is (.bool true) [25] rfl rfl (by kernel_rfl) ?_ ?_
  · intro wx hb
    refine Rg.from_is (some 197) rfl rfl ?_
    refine Rg.from_nil fun T hT => ?_
    go_wp2
    exact hT _ _ rfl (by first | exact Rg.Keep.refl _ | exact below_of_dr hw2 | exact hw2 | exact (Below.refl _ _).alloc (Nat.le_refl _) _) (by first | rfl | exact congrArg _ (by decide))
  refine Rg.op_is (pval parNone) [] rfl rfl (by kernel_rfl) ?_ ?_
  · intro wx hb
    refine Rg.from_nil fun T hT => ?_
    obtain ⟨q0, q1, q2, q3, q4, q5, q6, q7, q8, q9, q10, q11⟩ := pars_at (hN5.below hb)
    go_wp2
    exact hT _ _ rfl (by first | exact Rg.Keep.refl _ | exact below_of_dr hw2 | exact hw2 | exact (Below.refl _ _).alloc (Nat.le_refl _) _) (by first | rfl | exact congrArg _ (by decide))
  refine Rg.op_is (mval none 0 0 none 0 0) [] rfl rfl (by kernel_rfl) ?_ ?_
  · intro wx hb
    refine Rg.from_nil fun T hT => ?_
    go_wp2
    exact hT _ _ rfl (by first | exact Rg.Keep.refl _ | exact below_of_dr hw2 | exact hw2 | exact (Below.refl _ _).alloc (Nat.le_refl _) _) (by first | rfl | exact congrArg _ (by decide))
  refine Rg.op_is (.bool true) [27, 28] rfl rfl (by kernel_rfl) ?_ ?_
  · intro wx hb
    refine Rg.from_is (some 199) rfl rfl ?_
    refine Rg.from_is (some 200) rfl rfl ?_
    refine Rg.from_nil fun T hT => ?_
    go_wp2_with (go_at_call 36; refine (fmay_c parNone none none [] [] 0 0 _ (gridI_none _) (Cells.nil _ _) (by decide) (by decide) (intsB_ok (by decide)) (ints_of_decide (by decide))).mono ?_; rintro e w8 ⟨rfl, hw8⟩; rw [show mayB parNone [] [] = true from by decide])
    exact hT _ _ rfl hw8 rfl
  refine Rg.op_is (.bool true) [26, 29] rfl rfl (by kernel_rfl) ?_ ?_
  · intro wx hb
    refine Rg.from_is (some 198) rfl rfl ?_
    refine Rg.from_is (some 201) rfl rfl ?_
    refine Rg.from_nil fun T hT => ?_
    go_wp2
    exact hT _ _ rfl (by first | exact Rg.Keep.refl _ | exact below_of_dr hw2 | exact hw2 | exact (Below.refl _ _).alloc (Nat.le_refl _) _) (by first | rfl | exact congrArg _ (by decide))
  refine Rg.op_is (.bool true) [30] rfl rfl (by kernel_rfl) ?_ ?_
  · intro wx hb
    refine Rg.from_is (some 202) rfl rfl ?_
    refine Rg.from_nil fun T hT => ?_
    go_wp2
    exact hT _ _ rfl (by first | exact Rg.Keep.refl _ | exact below_of_dr hw2 | exact hw2 | exact (Below.refl _ _).alloc (Nat.le_refl _) _) (by first | rfl | exact congrArg _ (by decide))
  refine Rg.op_is (pval parNone) [] rfl rfl (by kernel_rfl) ?_ ?_
  · intro wx hb
    refine Rg.from_nil fun T hT => ?_
    obtain ⟨q0, q1, q2, q3, q4, q5, q6, q7, q8, q9, q10, q11⟩ := pars_at (hN5.below hb)
    go_wp2
    exact hT _ _ rfl (by first | exact Rg.Keep.refl _ | exact below_of_dr hw2 | exact hw2 | exact (Below.refl _ _).alloc (Nat.le_refl _) _) (by first | rfl | exact congrArg _ (by decide))
  refine Rg.op_is (.int .i64 0) [32] rfl rfl (by kernel_rfl) ?_ ?_
  · intro wx hb
    refine Rg.from_is (some 204) rfl rfl ?_
    refine Rg.from_nil fun T hT => ?_
    go_wp2_with (go_at_call 37; refine (query_c parNone none [] 0 _ (Cells.nil _ _) (by decide) (ints_of_decide (by decide))).mono ?_; rintro e w8 ⟨rfl, hw8⟩; rw [show queryE parNone [] = 0 from by decide])
    exact hT _ _ rfl hw8 rfl
  refine Rg.op_is (.bool true) [33] rfl rfl (by kernel_rfl) ?_ ?_
  · intro wx hb
    refine Rg.from_is (some 205) rfl rfl ?_
    refine Rg.from_nil fun T hT => ?_
    go_wp2
    exact hT _ _ rfl (by first | exact Rg.Keep.refl _ | exact below_of_dr hw2 | exact hw2 | exact (Below.refl _ _).alloc (Nat.le_refl _) _) (by first | rfl | exact congrArg _ (by decide))
  refine Rg.op_is (.bool true) [31, 34] rfl rfl (by kernel_rfl) ?_ ?_
  · intro wx hb
    refine Rg.from_is (some 203) rfl rfl ?_
    refine Rg.from_is (some 206) rfl rfl ?_
    refine Rg.from_nil fun T hT => ?_
    go_wp2
    exact hT _ _ rfl (by first | exact Rg.Keep.refl _ | exact below_of_dr hw2 | exact hw2 | exact (Below.refl _ _).alloc (Nat.le_refl _) _) (by first | rfl | exact congrArg _ (by decide))
  refine Rg.op_is (.bool true) [35] rfl rfl (by kernel_rfl) ?_ ?_
  · intro wx hb
    refine Rg.from_is (some 207) rfl rfl ?_
    refine Rg.from_nil fun T hT => ?_
    go_wp2
    exact hT _ _ rfl (by first | exact Rg.Keep.refl _ | exact below_of_dr hw2 | exact hw2 | exact (Below.refl _ _).alloc (Nat.le_refl _) _) (by first | rfl | exact congrArg _ (by decide))
  refine Rg.op_is (pval parNone) [] rfl rfl (by kernel_rfl) ?_ ?_
  · intro wx hb
    refine Rg.from_nil fun T hT => ?_
    obtain ⟨q0, q1, q2, q3, q4, q5, q6, q7, q8, q9, q10, q11⟩ := pars_at (hN5.below hb)
    go_wp2
    exact hT _ _ rfl (by first | exact Rg.Keep.refl _ | exact below_of_dr hw2 | exact hw2 | exact (Below.refl _ _).alloc (Nat.le_refl _) _) (by first | rfl | exact congrArg _ (by decide))
  refine Rg.op_of (fun w' v => RowI w' v [5]) [] rfl ?_ ?_ rfl (by kernel_rfl) ?_ ?_
  · exact fun w1 w2 v hk h => h.below hk
  · exact fun w1 w2 v hk h => h.below hk
  · intro wx hb
    refine Rg.from_nil fun T hT => ?_
    go_wp2
    exact hT _ _ rfl (below_alloc _ _) (rowI_new wx [5] 2 1 rfl (by decide))
  refine Rg.op_of (fun w' v => RowV w' v [1]) [37, 38] rfl ?_ ?_ rfl (by kernel_rfl) ?_ ?_
  · exact fun w1 w2 v hk h => h.below hk
  · exact fun w1 w2 v hk h => h.below hk
  · intro wx hb
    refine Rg.from_is (some 209) rfl rfl ?_
    refine Rg.from_of (some 210) rfl rfl fun v210 h210 => ?_
    refine Rg.from_nil fun T hT => ?_
    obtain ⟨A1, c1, rfl, g1, _⟩ := h210
    go_wp2_with (fail)
    refine (frow_c parNone parNone_ok A1 [5] c1 _ g1 (by decide) (ints_of_decide (by decide))).mono ?_
    rintro e w8 ⟨v, rfl, hown, hw8⟩
    rw [show rowS parNone [5] = [1] from by decide] at hown
    have hrv := rowV_own hown
    clear hown
    go_wp2
    exact hT _ _ rfl hw8 hrv
  refine Rg.op_of (fun w' v => RowV w' v [1]) [] rfl ?_ ?_ rfl (by kernel_rfl) ?_ ?_
  · exact fun w1 w2 v hk h => h.below hk
  · exact fun w1 w2 v hk h => h.below hk
  · intro wx hb
    refine Rg.from_nil fun T hT => ?_
    go_wp2
    exact hT _ _ rfl (below_alloc _ _) (rowV_new wx [1] 23 1 rfl (by decide))
  refine Rg.op_is (.bool true) [39, 40] rfl rfl (by kernel_rfl) ?_ ?_
  · intro wx hb
    refine Rg.from_of (some 211) rfl rfl fun v211 h211 => ?_
    refine Rg.from_of (some 212) rfl rfl fun v212 h212 => ?_
    refine Rg.from_nil fun T hT => ?_
    obtain ⟨A1, c1, rfl, g1, _⟩ := h211
    obtain ⟨A2, c2, rfl, g2, _⟩ := h212
    go_wp2_with (go_at_call 44; refine (numbers_c A1 A2 [1] [1] c1 c2 _ g1 g2 (by decide) (by decide)).mono ?_; rintro e w8 ⟨rfl, hw8⟩; rw [show decide (([1] : List Int) = [1]) = true from by decide])
    exact hT _ _ rfl (below_of_dr hw8) rfl
  refine Rg.op_is (.bool true) [36, 41] rfl rfl (by kernel_rfl) ?_ ?_
  · intro wx hb
    refine Rg.from_is (some 208) rfl rfl ?_
    refine Rg.from_is (some 213) rfl rfl ?_
    refine Rg.from_nil fun T hT => ?_
    go_wp2
    exact hT _ _ rfl (by first | exact Rg.Keep.refl _ | exact below_of_dr hw2 | exact hw2 | exact (Below.refl _ _).alloc (Nat.le_refl _) _) (by first | rfl | exact congrArg _ (by decide))
  refine Rg.op_is (.bool true) [42] rfl rfl (by kernel_rfl) ?_ ?_
  · intro wx hb
    refine Rg.from_is (some 214) rfl rfl ?_
    refine Rg.from_nil fun T hT => ?_
    go_wp2
    exact hT _ _ rfl (by first | exact Rg.Keep.refl _ | exact below_of_dr hw2 | exact hw2 | exact (Below.refl _ _).alloc (Nat.le_refl _) _) (by first | rfl | exact congrArg _ (by decide))
  refine Rg.op_is (pval parNone) [] rfl rfl (by kernel_rfl) ?_ ?_
  · intro wx hb
    refine Rg.from_nil fun T hT => ?_
    obtain ⟨q0, q1, q2, q3, q4, q5, q6, q7, q8, q9, q10, q11⟩ := pars_at (hN5.below hb)
    go_wp2
    exact hT _ _ rfl (by first | exact Rg.Keep.refl _ | exact below_of_dr hw2 | exact hw2 | exact (Below.refl _ _).alloc (Nat.le_refl _) _) (by first | rfl | exact congrArg _ (by decide))
  refine Rg.op_of (fun w' v => RowV w' v [4]) [] rfl ?_ ?_ rfl (by kernel_rfl) ?_ ?_
  · exact fun w1 w2 v hk h => h.below hk
  · exact fun w1 w2 v hk h => h.below hk
  · intro wx hb
    refine Rg.from_nil fun T hT => ?_
    go_wp2
    exact hT _ _ rfl (below_alloc _ _) (rowV_new wx [4] 23 1 rfl (by decide))
  refine Rg.op_of (fun w' v => RowV w' v []) [44, 45] rfl ?_ ?_ rfl (by kernel_rfl) ?_ ?_
  · exact fun w1 w2 v hk h => h.below hk
  · exact fun w1 w2 v hk h => h.below hk
  · intro wx hb
    refine Rg.from_is (some 216) rfl rfl ?_
    refine Rg.from_of (some 217) rfl rfl fun v217 h217 => ?_
    refine Rg.from_nil fun T hT => ?_
    obtain ⟨A1, c1, rfl, g1, _⟩ := h217
    go_wp2_with (fail)
    refine (fdot_c parNone parNone_ok A1 none [4] [] c1 0 _ g1 (Cells.nil _ _) (by decide) (by decide) (words_of_decide (by decide)) (ints_of_decide (by decide))).mono ?_
    rintro e w8 ⟨v, rfl, hown, hw8⟩
    rw [show dotS parNone [4] [] = [] from by decide] at hown
    have hrv := rowV_own hown
    clear hown
    go_wp2
    exact hT _ _ rfl hw8 hrv
  refine Rg.op_is (.int .i64 0) [46] rfl rfl (by kernel_rfl) ?_ ?_
  · intro wx hb
    refine Rg.from_of (some 218) rfl rfl fun v218 h218 => ?_
    refine Rg.from_nil fun T hT => ?_
    obtain ⟨A1, c1, rfl, g1, _⟩ := h218
    go_wp2
    exact hT _ _ rfl (Below.refl _ _) rfl
  refine Rg.op_is (.bool true) [47] rfl rfl (by kernel_rfl) ?_ ?_
  · intro wx hb
    refine Rg.from_is (some 219) rfl rfl ?_
    refine Rg.from_nil fun T hT => ?_
    go_wp2
    exact hT _ _ rfl (by first | exact Rg.Keep.refl _ | exact below_of_dr hw2 | exact hw2 | exact (Below.refl _ _).alloc (Nat.le_refl _) _) (by first | rfl | exact congrArg _ (by decide))
  refine Rg.op_is (.bool true) [43, 48] rfl rfl (by kernel_rfl) ?_ ?_
  · intro wx hb
    refine Rg.from_is (some 215) rfl rfl ?_
    refine Rg.from_is (some 220) rfl rfl ?_
    refine Rg.from_nil fun T hT => ?_
    go_wp2
    exact hT _ _ rfl (by first | exact Rg.Keep.refl _ | exact below_of_dr hw2 | exact hw2 | exact (Below.refl _ _).alloc (Nat.le_refl _) _) (by first | rfl | exact congrArg _ (by decide))
  refine Rg.op_is (.bool true) [49] rfl rfl (by kernel_rfl) ?_ ?_
  · intro wx hb
    refine Rg.from_is (some 221) rfl rfl ?_
    refine Rg.from_nil fun T hT => ?_
    go_wp2
    exact hT _ _ rfl (by first | exact Rg.Keep.refl _ | exact below_of_dr hw2 | exact hw2 | exact (Below.refl _ _).alloc (Nat.le_refl _) _) (by first | rfl | exact congrArg _ (by decide))
  refine Rg.op_is (pval parSome) [] rfl rfl (by kernel_rfl) ?_ ?_
  · intro wx hb
    refine Rg.from_nil fun T hT => ?_
    obtain ⟨q0, q1, q2, q3, q4, q5, q6, q7, q8, q9, q10, q11⟩ := pars_at (hP5.below hb)
    go_wp2
    exact hT _ _ rfl (by first | exact Rg.Keep.refl _ | exact below_of_dr hw2 | exact hw2 | exact (Below.refl _ _).alloc (Nat.le_refl _) _) (by first | rfl | exact congrArg _ (by decide))
  refine Rg.op_of (fun w' v => RowV w' v [0, 1]) [51] rfl ?_ ?_ rfl (by kernel_rfl) ?_ ?_
  · exact fun w1 w2 v hk h => h.below hk
  · exact fun w1 w2 v hk h => h.below hk
  · intro wx hb
    refine Rg.from_is (some 223) rfl rfl ?_
    refine Rg.from_nil fun T hT => ?_
    go_wp2_with (fail)
    refine (frow_c parSome parSome_ok none [] 0 _ (Cells.nil _ _) (by decide) (ints_of_decide (by decide))).mono ?_
    rintro e w8 ⟨v, rfl, hown, hw8⟩
    rw [show rowS parSome [] = [0, 1] from by decide] at hown
    have hrv := rowV_own hown
    clear hown
    go_wp2
    exact hT _ _ rfl hw8 hrv
  refine Rg.op_of (fun w' v => RowV w' v [0, 1]) [] rfl ?_ ?_ rfl (by kernel_rfl) ?_ ?_
  · exact fun w1 w2 v hk h => h.below hk
  · exact fun w1 w2 v hk h => h.below hk
  · intro wx hb
    refine Rg.from_nil fun T hT => ?_
    go_wp2
    exact hT _ _ rfl (below_alloc _ _) (rowV_new wx [0, 1] 23 2 rfl (by decide))
  refine Rg.op_is (.bool true) [52, 53] rfl rfl (by kernel_rfl) ?_ ?_
  · intro wx hb
    refine Rg.from_of (some 224) rfl rfl fun v224 h224 => ?_
    refine Rg.from_of (some 225) rfl rfl fun v225 h225 => ?_
    refine Rg.from_nil fun T hT => ?_
    obtain ⟨A1, c1, rfl, g1, _⟩ := h224
    obtain ⟨A2, c2, rfl, g2, _⟩ := h225
    go_wp2_with (go_at_call 44; refine (numbers_c A1 A2 [0, 1] [0, 1] c1 c2 _ g1 g2 (by decide) (by decide)).mono ?_; rintro e w8 ⟨rfl, hw8⟩; rw [show decide (([0, 1] : List Int) = [0, 1]) = true from by decide])
    exact hT _ _ rfl (below_of_dr hw8) rfl
  refine Rg.op_is (.bool true) [50, 54] rfl rfl (by kernel_rfl) ?_ ?_
  · intro wx hb
    refine Rg.from_is (some 222) rfl rfl ?_
    refine Rg.from_is (some 226) rfl rfl ?_
    refine Rg.from_nil fun T hT => ?_
    go_wp2
    exact hT _ _ rfl (by first | exact Rg.Keep.refl _ | exact below_of_dr hw2 | exact hw2 | exact (Below.refl _ _).alloc (Nat.le_refl _) _) (by first | rfl | exact congrArg _ (by decide))
  refine Rg.op_is (.bool true) [55] rfl rfl (by kernel_rfl) ?_ ?_
  · intro wx hb
    refine Rg.from_is (some 227) rfl rfl ?_
    refine Rg.from_nil fun T hT => ?_
    go_wp2
    exact hT _ _ rfl (by first | exact Rg.Keep.refl _ | exact below_of_dr hw2 | exact hw2 | exact (Below.refl _ _).alloc (Nat.le_refl _) _) (by first | rfl | exact congrArg _ (by decide))
  refine Rg.op_is (pval parSome) [] rfl rfl (by kernel_rfl) ?_ ?_
  · intro wx hb
    refine Rg.from_nil fun T hT => ?_
    obtain ⟨q0, q1, q2, q3, q4, q5, q6, q7, q8, q9, q10, q11⟩ := pars_at (hP5.below hb)
    go_wp2
    exact hT _ _ rfl (by first | exact Rg.Keep.refl _ | exact below_of_dr hw2 | exact hw2 | exact (Below.refl _ _).alloc (Nat.le_refl _) _) (by first | rfl | exact congrArg _ (by decide))
  refine Rg.op_of (fun w' v => RowV w' v [5]) [] rfl ?_ ?_ rfl (by kernel_rfl) ?_ ?_
  · exact fun w1 w2 v hk h => h.below hk
  · exact fun w1 w2 v hk h => h.below hk
  · intro wx hb
    refine Rg.from_nil fun T hT => ?_
    go_wp2
    exact hT _ _ rfl (below_alloc _ _) (rowV_new wx [5] 23 1 rfl (by decide))
  refine Rg.op_of (fun w' v => RowI w' v [3, 9]) [] rfl ?_ ?_ rfl (by kernel_rfl) ?_ ?_
  · exact fun w1 w2 v hk h => h.below hk
  · exact fun w1 w2 v hk h => h.below hk
  · intro wx hb
    refine Rg.from_nil fun T hT => ?_
    go_wp2
    exact hT _ _ rfl (below_alloc _ _) (rowI_new wx [3, 9] 2 2 rfl (by decide))
  refine Rg.op_of (fun w' v => RowV w' v [15, 0]) [57, 58, 59] rfl ?_ ?_ rfl (by kernel_rfl) ?_ ?_
  · exact fun w1 w2 v hk h => h.below hk
  · exact fun w1 w2 v hk h => h.below hk
  · intro wx hb
    refine Rg.from_is (some 229) rfl rfl ?_
    refine Rg.from_of (some 230) rfl rfl fun v230 h230 => ?_
    refine Rg.from_of (some 231) rfl rfl fun v231 h231 => ?_
    refine Rg.from_nil fun T hT => ?_
    obtain ⟨A1, c1, rfl, g1, _⟩ := h230
    obtain ⟨A2, c2, rfl, g2, _⟩ := h231
    go_wp2_with (fail)
    refine (fdot_c parSome parSome_ok A1 A2 [5] [3, 9] c1 c2 _ g1 g2 (by decide) (by decide) (words_of_decide (by decide)) (ints_of_decide (by decide))).mono ?_
    rintro e w8 ⟨v, rfl, hown, hw8⟩
    rw [show dotS parSome [5] [3, 9] = [15, 0] from by decide] at hown
    have hrv := rowV_own hown
    clear hown
    go_wp2
    exact hT _ _ rfl hw8 hrv
  refine Rg.op_of (fun w' v => RowV w' v [15, 0]) [] rfl ?_ ?_ rfl (by kernel_rfl) ?_ ?_
  · exact fun w1 w2 v hk h => h.below hk
  · exact fun w1 w2 v hk h => h.below hk
  · intro wx hb
    refine Rg.from_nil fun T hT => ?_
    go_wp2
    exact hT _ _ rfl (below_alloc _ _) (rowV_new wx [15, 0] 23 2 rfl (by decide))
  refine Rg.op_is (.bool true) [60, 61] rfl rfl (by kernel_rfl) ?_ ?_
  · intro wx hb
    refine Rg.from_of (some 232) rfl rfl fun v232 h232 => ?_
    refine Rg.from_of (some 233) rfl rfl fun v233 h233 => ?_
    refine Rg.from_nil fun T hT => ?_
    obtain ⟨A1, c1, rfl, g1, _⟩ := h232
    obtain ⟨A2, c2, rfl, g2, _⟩ := h233
    go_wp2_with (go_at_call 44; refine (numbers_c A1 A2 [15, 0] [15, 0] c1 c2 _ g1 g2 (by decide) (by decide)).mono ?_; rintro e w8 ⟨rfl, hw8⟩; rw [show decide (([15, 0] : List Int) = [15, 0]) = true from by decide])
    exact hT _ _ rfl (below_of_dr hw8) rfl
  refine Rg.op_is (.bool true) [56, 62] rfl rfl (by kernel_rfl) ?_ ?_
  · intro wx hb
    refine Rg.from_is (some 228) rfl rfl ?_
    refine Rg.from_is (some 234) rfl rfl ?_
    refine Rg.from_nil fun T hT => ?_
    go_wp2
    exact hT _ _ rfl (by first | exact Rg.Keep.refl _ | exact below_of_dr hw2 | exact hw2 | exact (Below.refl _ _).alloc (Nat.le_refl _) _) (by first | rfl | exact congrArg _ (by decide))
  refine Rg.op_is (.bool true) [63] rfl rfl (by kernel_rfl) ?_ ?_
  · intro wx hb
    refine Rg.from_is (some 235) rfl rfl ?_
    refine Rg.from_nil fun T hT => ?_
    go_wp2
    exact hT _ _ rfl (by first | exact Rg.Keep.refl _ | exact below_of_dr hw2 | exact hw2 | exact (Below.refl _ _).alloc (Nat.le_refl _) _) (by first | rfl | exact congrArg _ (by decide))
  refine Rg.op_is (mval (some ⟨gW, 0, none⟩) 2 2 (some ⟨gX, 0, none⟩) 2 2) [] rfl rfl (by kernel_rfl) ?_ ?_
  · intro wx hb
    refine Rg.from_nil fun T hT => ?_
    have m0 := (hE5.below hb).cell (k := 0) rfl
    have m1 := (hE5.below hb).cell (k := 1) rfl
    go_wp2
    exact hT _ _ rfl (by first | exact Rg.Keep.refl _ | exact below_of_dr hw2 | exact hw2 | exact (Below.refl _ _).alloc (Nat.le_refl _) _) (by first | rfl | exact congrArg _ (by decide))
  refine' Rg.op_is _ [] rfl rfl (by kernel_rfl) ?_ ?_
  rotate_left
  · intro wx hb
    refine Rg.from_nil fun T hT => ?_
    go_wp2
    refine hT _ _ rfl (by first | exact Rg.Keep.refl _ | exact below_of_dr hw2 | exact hw2 | exact (Below.refl _ _).alloc (Nat.le_refl _) _) ?_
    simp only [Rg.last, List.getElem?_toArray, List.getElem?_cons_succ, List.getElem?_cons_zero, Option.getD_some]
    rfl
  refine Rg.op_is (.slice (some ⟨gW, 0, none⟩) 2 2) [66] rfl rfl (by kernel_rfl) ?_ ?_
  · intro wx hb
    refine Rg.from_is (some 238) rfl rfl ?_
    refine Rg.from_nil fun T hT => ?_
    have m0 := (hE5.below hb).cell (k := 0) rfl
    go_wp2
    exact hT _ _ rfl (by first | exact Rg.Keep.refl _ | exact below_of_dr hw2 | exact hw2 | exact (Below.refl _ _).alloc (Nat.le_refl _) _) (by first | rfl | exact congrArg _ (by decide))
  refine Rg.op_is (mval (some ⟨gW, 0, none⟩) 2 2 none 0 0) [67] rfl rfl (by kernel_rfl) ?_ ?_
  · intro wx hb
    refine Rg.from_is (some 239) rfl rfl ?_
    refine Rg.from_nil fun T hT => ?_
    go_wp2
    exact hT _ _ rfl (by first | exact Rg.Keep.refl _ | exact below_of_dr hw2 | exact hw2 | exact (Below.refl _ _).alloc (Nat.le_refl _) _) (by first | rfl | exact congrArg _ (by decide))
  refine Rg.op_is (.bool false) [65, 68] rfl rfl (by kernel_rfl) ?_ ?_
  · intro wx hb
    refine Rg.from_is (some 237) rfl rfl ?_
    refine Rg.from_is (some 240) rfl rfl ?_
    refine Rg.from_nil fun T hT => ?_
    go_wp2_with (go_at_call 45; refine (fsame_c _ _ _ none [[3], [-3]] [[3], [-3]] [-3, 3] [] 2 2 2 0 _ (hG5.below hb) (hB5.below hb) (hG5.below hb) (Cells.nil _ _) (by decide) (by decide) (by decide) (by decide)).mono ?_; rintro e w8 ⟨rfl, hw8⟩; rw [show sameB [[3], [-3]] [-3, 3] [[3], [-3]] [] = false from by decide])
    exact hT _ _ rfl hw8 rfl
  refine Rg.op_is (.bool true) [69] rfl rfl (by kernel_rfl) ?_ ?_
  · intro wx hb
    refine Rg.from_is (some 241) rfl rfl ?_
    refine Rg.from_nil fun T hT => ?_
    go_wp2
    exact hT _ _ rfl (by first | exact Rg.Keep.refl _ | exact below_of_dr hw2 | exact hw2 | exact (Below.refl _ _).alloc (Nat.le_refl _) _) (by first | rfl | exact congrArg _ (by decide))
  refine Rg.op_is (.bool true) [64, 70] rfl rfl (by kernel_rfl) ?_ ?_
  · intro wx hb
    refine Rg.from_is (some 236) rfl rfl ?_
    refine Rg.from_is (some 242) rfl rfl ?_
    refine Rg.from_nil fun T hT => ?_
    go_wp2
    exact hT _ _ rfl (by first | exact Rg.Keep.refl _ | exact below_of_dr hw2 | exact hw2 | exact (Below.refl _ _).alloc (Nat.le_refl _) _) (by first | rfl | exact congrArg _ (by decide))
  refine Rg.op_is (.bool true) [71] rfl rfl (by kernel_rfl) ?_ ?_
  · intro wx hb
    refine Rg.from_is (some 243) rfl rfl ?_
    refine Rg.from_nil fun T hT => ?_
    go_wp2
    exact hT _ _ rfl (by first | exact Rg.Keep.refl _ | exact below_of_dr hw2 | exact hw2 | exact (Below.refl _ _).alloc (Nat.le_refl _) _) (by first | rfl | exact congrArg _ (by decide))
  refine Rg.op_is (mval (some ⟨gW, 0, none⟩) 2 2 (some ⟨gX, 0, none⟩) 2 2) [] rfl rfl (by kernel_rfl) ?_ ?_
  · intro wx hb
    refine Rg.from_nil fun T hT => ?_
    have m0 := (hE5.below hb).cell (k := 0) rfl
    have m1 := (hE5.below hb).cell (k := 1) rfl
    go_wp2
    exact hT _ _ rfl (by first | exact Rg.Keep.refl _ | exact below_of_dr hw2 | exact hw2 | exact (Below.refl _ _).alloc (Nat.le_refl _) _) (by first | rfl | exact congrArg _ (by decide))
  refine Rg.op_is (mval (some ⟨gW, 0, none⟩) 2 2 (some ⟨gX, 0, none⟩) 2 2) [] rfl rfl (by kernel_rfl) ?_ ?_
  · intro wx hb
    refine Rg.from_nil fun T hT => ?_
    have m0 := (hE5.below hb).cell (k := 0) rfl
    have m1 := (hE5.below hb).cell (k := 1) rfl
    go_wp2
    exact hT _ _ rfl (by first | exact Rg.Keep.refl _ | exact below_of_dr hw2 | exact hw2 | exact (Below.refl _ _).alloc (Nat.le_refl _) _) (by first | rfl | exact congrArg _ (by decide))
  refine Rg.op_of (fun w' v => ∃ A c B d, v = mval A 2 c B 2 d ∧ GridI w' A [[3], [-3]] ∧ Cells w' B (([-3, 3] : List Int).map (.int .i64))) [74] rfl ?_ ?_ rfl (by kernel_rfl) ?_ ?_
  · exact fun w1 w2 v hk ⟨A, c, B, d, e, h1, h2⟩ => ⟨A, c, B, d, e, h1.below hk, h2.below hk⟩
  · exact fun w1 w2 v hk ⟨A, c, B, d, e, h1, h2⟩ => ⟨A, c, B, d, e, h1.below hk, h2.below hk⟩
  · intro wx hb
    refine Rg.from_is (some 246) rfl rfl ?_
    refine Rg.from_nil fun T hT => ?_
    go_wp2_with (fail)
    refine (copied_c _ _ [[3], [-3]] [-3, 3] 2 2 _ (hG5.below hb) (hB5.below hb) (by decide) (by decide) (by decide)).mono ?_
    rintro e w8 ⟨CA, cc, CB, cd, rfl, hCA, hCB, hw8⟩
    go_wp2
    exact hT _ _ rfl hw8 ⟨_, _, _, _, rfl, hCA, hCB⟩
  refine Rg.op_is (.bool true) [73, 75] rfl rfl (by kernel_rfl) ?_ ?_
  · intro wx hb
    refine Rg.from_is (some 245) rfl rfl ?_
    refine Rg.from_of (some 247) rfl rfl fun v247 h247 => ?_
    refine Rg.from_nil fun T hT => ?_
    obtain ⟨CA, cc, CB, cd, rfl, hCA, hCB⟩ := h247
    go_wp2_with (go_at_call 45; refine (fsame_c _ _ CA CB [[3], [-3]] [[3], [-3]] [-3, 3] [-3, 3] 2 2 cc cd _ (hG5.below hb) (hB5.below hb) hCA hCB (by decide) (by decide) (by decide) (by decide)).mono ?_; rintro e w8 ⟨rfl, hw8⟩; rw [show sameB [[3], [-3]] [-3, 3] [[3], [-3]] [-3, 3] = true from by decide])
    exact hT _ _ rfl hw8 rfl
  refine Rg.op_is (.bool true) [72, 76] rfl rfl (by kernel_rfl) ?_ ?_
  · intro wx hb
    refine Rg.from_is (some 244) rfl rfl ?_
    refine Rg.from_is (some 248) rfl rfl ?_
    refine Rg.from_nil fun T hT => ?_
    go_wp2
    exact hT _ _ rfl (by first | exact Rg.Keep.refl _ | exact below_of_dr hw2 | exact hw2 | exact (Below.refl _ _).alloc (Nat.le_refl _) _) (by first | rfl | exact congrArg _ (by decide))
  refine Rg.walk_nil [0, 1, 2, 3, 4, 5, 6, 7, 8, 9, 10, 11, 12, 13, 14, 15, 16, 17, 18, 19, 20, 21, 22, 23, 24, 25, 26, 27, 28, 29, 30, 31, 32, 33, 34, 35, 36, 37, 38, 39, 40, 41, 42, 43, 44, 45, 46, 47, 48, 49, 50, 51, 52, 53, 54, 55, 56, 57, 58, 59, 60, 61, 62, 63, 64, 65, 66, 67, 68, 69, 70, 71, 72, 73, 74, 75, 76, 77] (by kernel_rfl) ?_
  intro wx hb
  refine Rg.from_is (some 172) rfl rfl ?_
  refine Rg.from_is (some 173) rfl rfl ?_
  refine Rg.from_is (some 174) rfl rfl ?_
  refine Rg.from_is (some 175) rfl rfl ?_
  refine Rg.from_is (some 176) rfl rfl ?_
  refine Rg.from_of (some 177) rfl rfl fun v177 h177 => ?_
  refine Rg.from_is (some 178) rfl rfl ?_
  refine Rg.from_is (some 179) rfl rfl ?_
  refine Rg.from_is (some 180) rfl rfl ?_
  refine Rg.from_is (some 181) rfl rfl ?_
  refine Rg.from_is (some 182) rfl rfl ?_
  refine Rg.from_of (some 183) rfl rfl fun v183 h183 => ?_
  refine Rg.from_is (some 184) rfl rfl ?_
  refine Rg.from_is (some 185) rfl rfl ?_
  refine Rg.from_is (some 186) rfl rfl ?_
  refine Rg.from_is (some 187) rfl rfl ?_
  refine Rg.from_is (some 188) rfl rfl ?_
  refine Rg.from_of (some 189) rfl rfl fun v189 h189 => ?_
  refine Rg.from_is (some 190) rfl rfl ?_
  refine Rg.from_is (some 191) rfl rfl ?_
  refine Rg.from_is (some 192) rfl rfl ?_
  refine Rg.from_is (some 193) rfl rfl ?_
  refine Rg.from_is (some 194) rfl rfl ?_
  refine Rg.from_is (some 195) rfl rfl ?_
  refine Rg.from_is (some 196) rfl rfl ?_
  refine Rg.from_is (some 197) rfl rfl ?_
  refine Rg.from_is (some 198) rfl rfl ?_
  refine Rg.from_is (some 199) rfl rfl ?_
  refine Rg.from_is (some 200) rfl rfl ?_
  refine Rg.from_is (some 201) rfl rfl ?_
  refine Rg.from_is (some 202) rfl rfl ?_
  refine Rg.from_is (some 203) rfl rfl ?_
  refine Rg.from_is (some 204) rfl rfl ?_
  refine Rg.from_is (some 205) rfl rfl ?_
  refine Rg.from_is (some 206) rfl rfl ?_
  refine Rg.from_is (some 207) rfl rfl ?_
  refine Rg.from_is (some 208) rfl rfl ?_
  refine Rg.from_is (some 209) rfl rfl ?_
  refine Rg.from_of (some 210) rfl rfl fun v210 h210 => ?_
  refine Rg.from_of (some 211) rfl rfl fun v211 h211 => ?_
  refine Rg.from_of (some 212) rfl rfl fun v212 h212 => ?_
  refine Rg.from_is (some 213) rfl rfl ?_
  refine Rg.from_is (some 214) rfl rfl ?_
  refine Rg.from_is (some 215) rfl rfl ?_
  refine Rg.from_is (some 216) rfl rfl ?_
  refine Rg.from_of (some 217) rfl rfl fun v217 h217 => ?_
  refine Rg.from_of (some 218) rfl rfl fun v218 h218 => ?_
  refine Rg.from_is (some 219) rfl rfl ?_
  refine Rg.from_is (some 220) rfl rfl ?_
  refine Rg.from_is (some 221) rfl rfl ?_
  refine Rg.from_is (some 222) rfl rfl ?_
  refine Rg.from_is (some 223) rfl rfl ?_
  refine Rg.from_of (some 224) rfl rfl fun v224 h224 => ?_
  refine Rg.from_of (some 225) rfl rfl fun v225 h225 => ?_
  refine Rg.from_is (some 226) rfl rfl ?_
  refine Rg.from_is (some 227) rfl rfl ?_
  refine Rg.from_is (some 228) rfl rfl ?_
  refine Rg.from_is (some 229) rfl rfl ?_
  refine Rg.from_of (some 230) rfl rfl fun v230 h230 => ?_
  refine Rg.from_of (some 231) rfl rfl fun v231 h231 => ?_
  refine Rg.from_of (some 232) rfl rfl fun v232 h232 => ?_
  refine Rg.from_of (some 233) rfl rfl fun v233 h233 => ?_
  refine Rg.from_is (some 234) rfl rfl ?_
  refine Rg.from_is (some 235) rfl rfl ?_
  refine Rg.from_is (some 236) rfl rfl ?_
  refine Rg.from_is (some 237) rfl rfl ?_
  refine Rg.from_is (some 238) rfl rfl ?_
  refine Rg.from_is (some 239) rfl rfl ?_
  refine Rg.from_is (some 240) rfl rfl ?_
  refine Rg.from_is (some 241) rfl rfl ?_
  refine Rg.from_is (some 242) rfl rfl ?_
  refine Rg.from_is (some 243) rfl rfl ?_
  refine Rg.from_is (some 244) rfl rfl ?_
  refine Rg.from_is (some 245) rfl rfl ?_
  refine Rg.from_is (some 246) rfl rfl ?_
  refine Rg.from_of (some 247) rfl rfl fun v247 h247 => ?_
  refine Rg.from_is (some 248) rfl rfl ?_
  refine Rg.from_is (some 249) rfl rfl ?_
  refine Rg.from_nil ?_
  simp only [List.map, Act.put, List.setIfInBounds_toArray, List.set_cons_zero, List.set_cons_succ]
  have hbz := below_next hbv2 hbv2.size hb
  go_wp2
  go_ret
  exact ⟨rfl, hbz⟩

set_option maxRecDepth 100000 in
theorem fixedNames_lifted (os : Os) (started : os.Started) (H : Type) (enc : TypeId × Value → H) :
    ReturnsInHanded {} Try.checked os 9 .any (Rows.fixedNamesSpec.pre6 enc Try.prog Try.f9 Rows.fixedNamesRow.domain false) (Rows.fixedNamesSpec.post enc Try.prog Try.f9 false true false false) := by
  refine returnsInHanded_of_change (C := Try.checked) Try.own started (by kernel_rfl) Try.func9
    (ChangeSpec.witness6 (enc := enc) (C := Try.checked) false ⟨#[], #[], []⟩ 8 (by kernel_rfl) (by kernel_rfl) (by kernel_rfl) (by kernel_rfl)) ?_
  intro W base args ds gs before hval0 hW hcnd _
  have hW' := hW
  obtain ⟨p, q, hA0, hV, rfl, hfz, hnd⟩ := hW
  have hA : DataW.TrodAll enc Try.prog W 0 (fun _ => true) true Try.f9.params.toList args.toList ds p := hA0
  rw [Try.params9] at hA
  obtain ⟨rfl, rfl⟩ := trodVars_none hV
  obtain ⟨l⟩ := args
  obtain ⟨rfl, rfl, rfl⟩ := trodAll_end hA
  clear hA0 hval0
  refine (fixedNames_c W).mono fun e W' ⟨he, hb⟩ => ?_
  subst he
  exact ⟨_, rfl, post_true hW' hb Try.laidOut (by kernel_rfl) rfl rfl rfl rfl rfl Try.underlying4⟩

theorem fixedNames_holds : Rows.FixedNamesSaid :=
  OpenClaim.holds_of_wide 9 Try.f9 rfl rfl rfl rfl rfl rfl rfl ⟨rfl, rfl, rfl, rfl, rfl⟩ rfl rfl rfl rfl rfl (by kernel_rfl) Try.func9 (by kernel_rfl)
    (of_decide_eq_true (by kernel_rfl)) (by unfold Func.isWrapper; first | (rw [if_pos (by decide +kernel)]; kernel_rfl) | (rw [if_neg (by decide +kernel)]; exact ⟨rfl, rfl⟩))
    (fun os started H enc _ => fixedNames_lifted os started H enc)
#print axioms fixedNames_holds

end Go.Proofs.Ytnmadmcegdpecaa
