/-
  PROVED HERE: FixedSpan: two models that are alike on some queries are alike on whatever query is a mixture of these whose factors come to 1.
-/
import Derived.Test.YtnmadmcegdpecaaFixN
import Derived.Test.YtnmadmcegdpecaaFixL
import Derived.Test.YtnmadmcegdpecaaArgs
namespace Go.Proofs.Ytnmadmcegdpecaa
open Go.ChangeShapes Go.WideShapes Go.ChangeAt Go.RowKit

theorem near_big {p : Par} {x : List Int} (h : FairQ p x) : ∀ n ∈ x, -1048576 ≤ n ∧ n ≤ 1048576 := fun n hn => by
  have := h.near n hn
  have := h.fits.X
  omega
theorem mix_i64 {x y z : List Int} {a b : Int} (ha : -1000 ≤ a ∧ a ≤ 1000) (hb : -1000 ≤ b ∧ b ≤ 1000) (hx : ∀ n ∈ x, -1048576 ≤ n ∧ n ≤ 1048576) (hy : ∀ n ∈ y, -1048576 ≤ n ∧ n ≤ 1048576) (hz : ∀ n ∈ z, -1048576 ≤ n ∧ n ≤ 1048576) (n : Nat) : I64s (mixL x y z a b n) := by
  intro m hm
  obtain ⟨i, _, rfl⟩ := List.mem_map.1 hm
  have g : ∀ l : List Int, (∀ n ∈ l, -1048576 ≤ n ∧ n ≤ 1048576) → -1048576 ≤ l.getD i 0 ∧ l.getD i 0 ≤ 1048576 := fun l hl => by
    rcases getD_mem_or (l := l) (i := i) with h | h
    · rw [h]; omega
    · exact hl _ h
  have p1 := prod_bound a (x.getD i 0) 1000 1048576 ha (g x hx)
  have p2 := prod_bound b (y.getD i 0) 1000 1048576 hb (g y hy)
  have p3 := prod_bound (1 - a - b) (z.getD i 0) 3000 1048576 ⟨by omega, by omega⟩ (g z hz)
  constructor <;> omega

theorem trodAll_eight {P : Program} {H : Type} {enc : TypeId × Value → H} {w : World} {base : Nat} {spare : Nat → Bool} {held : Bool} {t0 t1 t2 t3 t4 t5 t6 t7 : TypeId} {args : Array Value} {ds : List (DataW H)} {ps : List MemPlace} (h : DataW.TrodAll enc P w base spare held [t0, t1, t2, t3, t4, t5, t6, t7] args.toList ds ps) :
    ∃ v0 v1 v2 v3 v4 v5 v6 v7 d0 d1 d2 d3 d4 d5 d6 d7 p0 p1 p2 p3 p4 p5 p6 p7, args = #[v0, v1, v2, v3, v4, v5, v6, v7] ∧ ds = [d0, d1, d2, d3, d4, d5, d6, d7] ∧ DataW.Trod enc P w base spare held t0 v0 d0 p0 ∧ DataW.Trod enc P w base spare held t1 v1 d1 p1 ∧ DataW.Trod enc P w base spare held t2 v2 d2 p2 ∧ DataW.Trod enc P w base spare held t3 v3 d3 p3 ∧ DataW.Trod enc P w base spare held t4 v4 d4 p4 ∧ DataW.Trod enc P w base spare held t5 v5 d5 p5 ∧ DataW.Trod enc P w base spare held t6 v6 d6 p6 ∧ DataW.Trod enc P w base spare held t7 v7 d7 p7 := by
  obtain ⟨l⟩ := args
  obtain ⟨v0, l0, d0, e0, p0, q0, rfl, rfl, rfl, h0, h⟩ := trodAll_more h
  obtain ⟨v1, l1, d1, e1, p1, q1, rfl, rfl, rfl, h1, h⟩ := trodAll_more h
  obtain ⟨v2, l2, d2, e2, p2, q2, rfl, rfl, rfl, h2, h⟩ := trodAll_more h
  obtain ⟨v3, l3, d3, e3, p3, q3, rfl, rfl, rfl, h3, h⟩ := trodAll_more h
  obtain ⟨v4, l4, d4, e4, p4, q4, rfl, rfl, rfl, h4, h⟩ := trodAll_more h
  obtain ⟨v5, l5, d5, e5, p5, q5, rfl, rfl, rfl, h5, h⟩ := trodAll_more h
  obtain ⟨v6, l6, d6, e6, p6, q6, rfl, rfl, rfl, h6, h⟩ := trodAll_more h
  obtain ⟨v7, l7, d7, e7, p7, q7, rfl, rfl, rfl, h7, h⟩ := trodAll_more h
  obtain ⟨rfl, rfl, rfl⟩ := trodAll_end h
  exact ⟨v0, v1, v2, v3, v4, v5, v6, v7, d0, d1, d2, d3, d4, d5, d6, d7, p0, p1, p2, p3, p4, p5, p6, p7, rfl, rfl, h0, h1, h2, h3, h4, h5, h6, h7⟩

/-- what lies in memory while the statement goes on. -/
structure Sp (p : Par) (A : Option Addr) (W : List (List Int)) (c : Nat) (B : Option Addr) (b : List Int) (d : Nat) (A2 : Option Addr) (V : List (List Int)) (c2 : Nat) (B2 : Option Addr) (b2 : List Int) (d2 : Nat) (X Y Z : Option Addr) (x y z : List Int) (g : Nat) (w0 wr : World) : Prop where
  P : Row1 wr g 40 (pcells p)
  M : Row1 wr (g + 1) 44 [.slice A W.length c, .slice B b.length d]
  O : Row1 wr (g + 1 + 1) 44 [.slice A2 V.length c2, .slice B2 b2.length d2]
  A : GridI wr A W
  B : Cells wr B (b.map (.int .i64))
  A2 : GridI wr A2 V
  B2 : Cells wr B2 (b2.map (.int .i64))
  X : Cells wr X (x.map (.int .i64))
  Y : Cells wr Y (y.map (.int .i64))
  Z : Cells wr Z (z.map (.int .i64))
  b : Below w0.heap.size w0 wr
theorem Sp.below {p : Par} {A : Option Addr} {W : List (List Int)} {c : Nat} {B : Option Addr} {b : List Int} {d : Nat} {A2 : Option Addr} {V : List (List Int)} {c2 : Nat} {B2 : Option Addr} {b2 : List Int} {d2 : Nat} {X Y Z : Option Addr} {x y z : List Int} {g : Nat} {w0 wr w' : World} (h : Sp p A W c B b d A2 V c2 B2 b2 d2 X Y Z x y z g w0 wr) (hb : Below wr.heap.size wr w') : Sp p A W c B b d A2 V c2 B2 b2 d2 X Y Z x y z g w0 w' :=
  ⟨h.P.below hb, h.M.below hb, h.O.below hb, h.A.below hb, h.B.below hb, h.A2.below hb, h.B2.below hb, h.X.below hb, h.Y.below hb, h.Z.below hb, below_next h.b h.b.size hb⟩


set_option maxRecDepth 100000 in
set_option maxHeartbeats 4000000 in
theorem fixedSpan_c (p : Par) (hp : p.ok) (A B A2 B2 X Y Z : Option Addr) (W V : List (List Int)) (b b2 x y z : List Int) (c d c2 d2 ex ey ez : Nat) (a0 b0 : Int) (w : World) (hA : GridI w A W) (hB : Cells w B (b.map (.int .i64))) (hA2 : GridI w A2 V) (hB2 : Cells w B2 (b2.map (.int .i64)))
    (hX : Cells w X (x.map (.int .i64))) (hY : Cells w Y (y.map (.int .i64))) (hZ : Cells w Z (z.map (.int .i64)))
    (l1 : W.length ≤ 9223372036854775807) (l2 : b.length ≤ 9223372036854775807) (l3 : V.length ≤ 9223372036854775807) (l4 : b2.length ≤ 9223372036854775807) (lx : x.length ≤ 9223372036854775807) (ly : y.length ≤ 9223372036854775807) (lz : z.length ≤ 9223372036854775807)
    (u1 : Ints W) (u2 : I64s b) (u3 : Ints V) (u4 : I64s b2) (ux : I64s x) (uy : I64s y) (uz : I64s z) (ha : I64 a0) (hb : I64 b0) :
    Calls Try.prog 8 #[pval p, mval A W.length c B b.length d, mval A2 V.length c2 B2 b2.length d2, .slice X x.length ex, .slice Y y.length ey, .slice Z z.length ez, .int .i64 a0, .int .i64 b0] w fun e w' => e = .returned (.bool true) ∧ Below w.heap.size w w' := by
  go_enter Try.func8, Try.ntmps8
  go_wp2_with (fail)
  have hbb := ((below_alloc w (.cells (pcells p).toArray 40)).alloc (by simp) (.cells #[.slice A W.length c, .slice B b.length d] 44)).alloc (by simp; omega) (.cells #[.slice A2 V.length c2, .slice B2 b2.length d2] 44)
  have S0 : Sp p A W c B b d A2 V c2 B2 b2 d2 X Y Z x y z w.heap.size w (((w.alloc (.cells (pcells p).toArray 40)).alloc (.cells #[.slice A W.length c, .slice B b.length d] 44)).alloc (.cells #[.slice A2 V.length c2, .slice B2 b2.length d2] 44)) := by
    refine ⟨((row1_new w (pcells p) 40).alloc _).alloc _, ?_, ?_, hA.below hbb, hB.below hbb, hA2.below hbb, hB2.below hbb, hX.below hbb, hY.below hbb, hZ.below hbb, hbb⟩
    · exact (row1_at (w.alloc (.cells (pcells p).toArray 40)) [.slice A W.length c, .slice B b.length d] 44 (w.heap.size + 1) (by simp)).alloc _
    · exact row1_at _ [.slice A2 V.length c2, .slice B2 b2.length d2] 44 (w.heap.size + 1 + 1) (by simp)
  refine (large_c _ _ _ _ _ _ _ S0.A l1 l2).mono ?_
  rintro e w1 ⟨rfl, hb3⟩
  have S1 := S0.below hb3
  clear S0 hbb hA hB hA2 hB2 hX hY hZ hb3
  obtain ⟨q0, q1, q2, q3, q4, q5, q6, q7, q8, q9, q10, q11⟩ := pars_at S1.P
  have m0 := S1.M.cell (k := 0) rfl
  have m1 := S1.M.cell (k := 1) rfl
  have o0 := S1.O.cell (k := 0) rfl
  have o1 := S1.O.cell (k := 1) rfl
  cases hL : largeB W b with
  | true =>
    go_wp2_with (fail)
    refine (awake07_c _).mono ?_
    rintro e w9 ⟨rfl, hb9⟩
    go_wp2
    go_ret
    exact ⟨rfl, (S1.below hb9).b⟩
  | false =>
  go_wp2_with (fail)
  refine (large_c _ _ _ _ _ _ _ S1.A2 l3 l4).mono ?_
  rintro e w2 ⟨rfl, hb4⟩
  have S2 := S1.below hb4
  clear q0 q1 q2 q3 q4 q5 q6 q7 q8 q9 q10 q11 m0 m1 o0 o1
  obtain ⟨q0, q1, q2, q3, q4, q5, q6, q7, q8, q9, q10, q11⟩ := pars_at S2.P
  have m0 := S2.M.cell (k := 0) rfl
  have m1 := S2.M.cell (k := 1) rfl
  have o0 := S2.O.cell (k := 0) rfl
  have o1 := S2.O.cell (k := 1) rfl
  clear S1 hb4
  cases hL2 : largeB V b2 with
  | true =>
    go_wp2_with (fail)
    refine (awake07_c _).mono ?_
    rintro e w9 ⟨rfl, hb9⟩
    go_wp2
    go_ret
    exact ⟨rfl, (S2.below hb9).b⟩
  | false =>
  cases hx40 : decide ((x.length : Int) > 40) with
  | true =>
    go_wp2_with (fail)
    refine (awake07_c _).mono ?_
    rintro e w9 ⟨rfl, hb9⟩
    go_wp2
    go_ret
    exact ⟨rfl, (S2.below hb9).b⟩
  | false =>
  cases hy40 : decide ((y.length : Int) > 40) with
  | true =>
    go_wp2_with (fail)
    refine (awake07_c _).mono ?_
    rintro e w9 ⟨rfl, hb9⟩
    go_wp2
    go_ret
    exact ⟨rfl, (S2.below hb9).b⟩
  | false =>
  cases hz40 : decide ((z.length : Int) > 40) with
  | true =>
    go_wp2_with (fail)
    refine (awake07_c _).mono ?_
    rintro e w9 ⟨rfl, hb9⟩
    go_wp2
    go_ret
    exact ⟨rfl, (S2.below hb9).b⟩
  | false =>
  go_wp2_with (fail)
  refine (awake07_c _).mono ?_
  rintro e w3 ⟨rfl, hb5⟩
  have S3 := S2.below hb5
  clear q0 q1 q2 q3 q4 q5 q6 q7 q8 q9 q10 q11 m0 m1 o0 o1
  obtain ⟨q0, q1, q2, q3, q4, q5, q6, q7, q8, q9, q10, q11⟩ := pars_at S3.P
  have m0 := S3.M.cell (k := 0) rfl
  have m1 := S3.M.cell (k := 1) rfl
  have o0 := S3.O.cell (k := 0) rfl
  have o1 := S3.O.cell (k := 1) rfl
  clear S2 hb5
  have hb40 : b.length ≤ 40 := by simp [largeB] at hL; omega
  have hb240 : b2.length ≤ 40 := by simp [largeB] at hL2; omega
  have hxl : x.length ≤ 40 := by simp at hx40; omega
  have hyl : y.length ≤ 40 := by simp at hy40; omega
  have hzl : z.length ≤ 40 := by simp at hz40; omega
  clear hL hL2 hx40 hy40 hz40
  go_wp2_with (fail)
  refine (fmay_c p _ _ _ _ _ _ _ S3.A S3.B l1 l2 u1 u2).mono ?_
  rintro e w4 ⟨rfl, hb6⟩
  have S4 := S3.below hb6
  clear q0 q1 q2 q3 q4 q5 q6 q7 q8 q9 q10 q11 m0 m1 o0 o1
  obtain ⟨q0, q1, q2, q3, q4, q5, q6, q7, q8, q9, q10, q11⟩ := pars_at S4.P
  have m0 := S4.M.cell (k := 0) rfl
  have m1 := S4.M.cell (k := 1) rfl
  have o0 := S4.O.cell (k := 0) rfl
  have o1 := S4.O.cell (k := 1) rfl
  clear S3 hb6
  cases hm : mayB p W b with
  | false =>
    go_wp2
    go_ret
    exact ⟨rfl, S4.b⟩
  | true =>
  go_wp2_with (fail)
  refine (fmay_c p _ _ _ _ _ _ _ S4.A2 S4.B2 l3 l4 u3 u4).mono ?_
  rintro e w5 ⟨rfl, hb7⟩
  have S5 := S4.below hb7
  clear q0 q1 q2 q3 q4 q5 q6 q7 q8 q9 q10 q11 m0 m1 o0 o1
  clear S4 hb7
  cases hm2 : mayB p V b2 with
  | false =>
    go_wp2
    go_ret
    exact ⟨rfl, S5.b⟩
  | true =>
  have HF := hid ((mayB_iff p W b).1 hm)
  have HG := hid ((mayB_iff p V b2).1 hm2)
  clear hm hm2
  go_wp2
  have hr6 := row1_new w5 [.slice X x.length ex, .slice Y y.length ey, .slice Z z.length ez] 42
  have S6 := S5.below (below_alloc w5 (.cells #[.slice X x.length ex, .slice Y y.length ey, .slice Z z.length ez] 42))
  simp only [List.toArray] at hr6
  generalize w5.alloc (.cells #[.slice X x.length ex, .slice Y y.length ey, .slice Z z.length ez] 42) = V0 at *
  clear S5
  go_loopw [18, 66] (fun _ i wr => ∃ k : Nat, i = .int .i64 k ∧ k ≤ 3 ∧ (∀ j q, j < k → [x, y, z][j]? = some q → FairQ p q ∧ scoresS p W b q = scoresS p V b2 q) ∧ Below V0.heap.size V0 wr) (fun _ i _ => 3 - (intOf i).toNat)
  case atStart => exact ⟨0, rfl, by omega, fun j q hj => absurd hj (by omega), Below.refl _ _⟩
  case round =>
    obtain ⟨k, rfl, hk, hgood, hbk⟩ := hrel
    rename_i wr
    have S7 := S6.below hbk
    have hr7 := hr6.below hbk
    have HGD := hid hgood
    clear hgood
    by_cases hlt : k < 3
    · obtain ⟨Q, q, cq, hkq, hkv, hcq, hql, huq⟩ : ∃ (Q : Option Addr) (q : List Int) (cq : Nat), [x, y, z][k]? = some q ∧ [Value.slice X x.length ex, .slice Y y.length ey, .slice Z z.length ez][k]? = some (.slice Q q.length cq) ∧ Cells wr Q (q.map (.int .i64)) ∧ q.length ≤ 9223372036854775807 ∧ I64s q := by
        match k, hlt with
        | 0, _ => exact ⟨X, x, ex, rfl, rfl, S7.X, lx, ux⟩
        | 1, _ => exact ⟨Y, y, ey, rfl, rfl, S7.Y, ly, uy⟩
        | 2, _ => exact ⟨Z, z, ez, rfl, rfl, S7.Z, lz, uz⟩
      have hcell := hr7.cell hkv
      have HKQ := hid hkq
      clear hkq hkv
      by_cases hq : queryE p q = 0
      case neg =>
        have hq' : (queryE p q != 0) = true := by simpa using hq
        clear hq
        go_wp2
        refine Rg.wp_region (l := [_, _, _, _, _, _, _, _, _, _, _, _, _, _, _]) (tail := [_]) (Rg.grows _ 16) [some 70, some 71, some 72, some 73, some 74, some 75, some 76, some 77, some 78, some 79, some 80, some 81, some 82, some 83, some 84, some 85] 134 (by kernel_rfl) (by kernel_rfl) (by kernel_rfl) rfl (Rg.grows_fair _ _) (Rg.keep_drew _) (trivial) ?_
        refine Rg.op_is (pval p) [] rfl rfl (by kernel_rfl) ?_ ?_
        · intro wx hb
          refine Rg.from_nil fun T hT => ?_
          obtain ⟨q0, q1, q2, q3, q4, q5, q6, q7, q8, q9, q10, q11⟩ := pars_at (S7.below hb).P
          go_wp2
          exact hT _ _ rfl (by first | exact Rg.Keep.refl _ | exact below_of_dr hw2 | exact hw2 | exact (Below.refl _ _).alloc (Nat.le_refl _) _) (by first | rfl | exact congrArg _ (by decide))
        refine' Rg.op_is _ [] rfl rfl (by kernel_rfl) ?_ ?_
        rotate_left
        · intro wx hb
          refine Rg.from_nil fun T hT => ?_
          go_wp2
          refine hT _ _ rfl (by first | exact Rg.Keep.refl _ | exact below_of_dr hw2 | exact hw2 | exact (Below.refl _ _).alloc (Nat.le_refl _) _) ?_
          simp only [Rg.last, List.getElem?_toArray, List.getElem?_cons_succ, List.getElem?_cons_zero, Option.getD_some]
          rfl
        refine Rg.op_is (.int .i64 (queryE p q)) [0, 1] rfl rfl (by kernel_rfl) ?_ ?_
        · intro wx hb
          refine Rg.from_is (some 70) rfl rfl ?_
          refine Rg.from_is (some 71) rfl rfl ?_
          refine Rg.from_nil fun T hT => ?_
          go_wp2_with (go_at_call 40; refine (rquery_c p Q q cq _ (hcq.below hb) hql huq).mono ?_; rintro e w8 ⟨rfl, hw8⟩)
          exact hT _ _ rfl hw8 rfl
        refine Rg.op_is (.bool true) [2] rfl rfl (by kernel_rfl) ?_ ?_
        · intro wx hb
          refine Rg.from_is (some 72) rfl rfl ?_
          refine Rg.from_nil fun T hT => ?_
          go_wp2
          exact hT _ _ rfl (by first | exact Rg.Keep.refl _ | exact below_of_dr hw2 | exact hw2 | exact (Below.refl _ _).alloc (Nat.le_refl _) _) (by first | rfl | exact congrArg _ (by decide))
        refine Rg.op_is (.bool true) [3] rfl rfl (by kernel_rfl) ?_ ?_
        · intro wx hb
          refine Rg.from_is (some 73) rfl rfl ?_
          refine Rg.from_nil fun T hT => ?_
          go_wp2
          exact hT _ _ rfl (by first | exact Rg.Keep.refl _ | exact below_of_dr hw2 | exact hw2 | exact (Below.refl _ _).alloc (Nat.le_refl _) _) (by first | rfl | exact congrArg _ (by decide))
        refine Rg.op_skip rfl ?_
        refine Rg.op_skip rfl ?_
        refine Rg.op_skip rfl ?_
        refine Rg.op_skip rfl ?_
        refine Rg.op_skip rfl ?_
        refine Rg.op_skip rfl ?_
        refine Rg.op_skip rfl ?_
        refine Rg.op_skip rfl ?_
        refine Rg.op_skip rfl ?_
        refine Rg.op_skip rfl ?_
        refine Rg.walk_nil [0, 1, 2, 3, 4, 5, 6, 7, 8, 9, 10, 11, 12, 13, 14] (by kernel_rfl) ?_
        intro wx hb
        refine Rg.from_is (some 70) rfl rfl ?_
        refine Rg.from_is (some 71) rfl rfl ?_
        refine Rg.from_is (some 72) rfl rfl ?_
        refine Rg.from_is (some 73) rfl rfl ?_
        refine Rg.from_is (some 74) rfl rfl ?_
        refine Rg.from_is (some 75) rfl rfl ?_
        refine Rg.from_is (some 76) rfl rfl ?_
        refine Rg.from_is (some 77) rfl rfl ?_
        refine Rg.from_is (some 78) rfl rfl ?_
        refine Rg.from_is (some 79) rfl rfl ?_
        refine Rg.from_is (some 80) rfl rfl ?_
        refine Rg.from_is (some 81) rfl rfl ?_
        refine Rg.from_is (some 82) rfl rfl ?_
        refine Rg.from_is (some 83) rfl rfl ?_
        refine Rg.from_is (some 84) rfl rfl ?_
        refine Rg.from_nil ?_
        simp only [List.map, Act.put, List.setIfInBounds_toArray, List.set_cons_zero, List.set_cons_succ]
        have S8 := S7.below hb
        go_wp2
        go_ret
        exact ⟨rfl, S8.b⟩
      case pos =>
        have hq' : (queryE p q != 0) = false := by simpa using hq
        have HQ := hid ((query_iff p q).1 hq)
        clear hq
        by_cases hsc : scoresS p W b q = scoresS p V b2 q
        case pos =>
          have hd : decide (scoresS p W b q = scoresS p V b2 q) = true := by simpa using hsc
          have HSC := hid hsc
          clear hsc
          go_wp2
          refine Rg.wp_region (l := [_, _, _, _, _, _, _, _, _, _, _, _, _, _, _]) (tail := [_]) (Rg.grows _ 16) [some 70, some 71, some 72, some 73, some 74, some 75, some 76, some 77, some 78, some 79, some 80, some 81, some 82, some 83, some 84, some 85] 134 (by kernel_rfl) (by kernel_rfl) (by kernel_rfl) rfl (Rg.grows_fair _ _) (Rg.keep_drew _) (trivial) ?_
          refine Rg.op_is (pval p) [] rfl rfl (by kernel_rfl) ?_ ?_
          · intro wx hb
            refine Rg.from_nil fun T hT => ?_
            obtain ⟨q0, q1, q2, q3, q4, q5, q6, q7, q8, q9, q10, q11⟩ := pars_at (S7.below hb).P
            go_wp2
            exact hT _ _ rfl (by first | exact Rg.Keep.refl _ | exact below_of_dr hw2 | exact hw2 | exact (Below.refl _ _).alloc (Nat.le_refl _) _) (by first | rfl | exact congrArg _ (by decide))
          refine' Rg.op_is _ [] rfl rfl (by kernel_rfl) ?_ ?_
          rotate_left
          · intro wx hb
            refine Rg.from_nil fun T hT => ?_
            go_wp2
            refine hT _ _ rfl (by first | exact Rg.Keep.refl _ | exact below_of_dr hw2 | exact hw2 | exact (Below.refl _ _).alloc (Nat.le_refl _) _) ?_
            simp only [Rg.last, List.getElem?_toArray, List.getElem?_cons_succ, List.getElem?_cons_zero, Option.getD_some]
            rfl
          refine Rg.op_is (.int .i64 (queryE p q)) [0, 1] rfl rfl (by kernel_rfl) ?_ ?_
          · intro wx hb
            refine Rg.from_is (some 70) rfl rfl ?_
            refine Rg.from_is (some 71) rfl rfl ?_
            refine Rg.from_nil fun T hT => ?_
            go_wp2_with (go_at_call 40; refine (rquery_c p Q q cq _ (hcq.below hb) hql huq).mono ?_; rintro e w8 ⟨rfl, hw8⟩)
            exact hT _ _ rfl hw8 rfl
          refine Rg.op_is (.bool false) [2] rfl rfl (by kernel_rfl) ?_ ?_
          · intro wx hb
            refine Rg.from_is (some 72) rfl rfl ?_
            refine Rg.from_nil fun T hT => ?_
            go_wp2
            exact hT _ _ rfl (by first | exact Rg.Keep.refl _ | exact below_of_dr hw2 | exact hw2 | exact (Below.refl _ _).alloc (Nat.le_refl _) _) (by first | rfl | exact congrArg _ (by decide))
          refine Rg.op_is (.bool false) [3] rfl rfl (by kernel_rfl) ?_ ?_
          · intro wx hb
            refine Rg.from_is (some 73) rfl rfl ?_
            refine Rg.from_nil fun T hT => ?_
            go_wp2
            exact hT _ _ rfl (by first | exact Rg.Keep.refl _ | exact below_of_dr hw2 | exact hw2 | exact (Below.refl _ _).alloc (Nat.le_refl _) _) (by first | rfl | exact congrArg _ (by decide))
          refine Rg.op_is (pval p) [] rfl rfl (by kernel_rfl) ?_ ?_
          · intro wx hb
            refine Rg.from_nil fun T hT => ?_
            obtain ⟨q0, q1, q2, q3, q4, q5, q6, q7, q8, q9, q10, q11⟩ := pars_at (S7.below hb).P
            go_wp2
            exact hT _ _ rfl (by first | exact Rg.Keep.refl _ | exact below_of_dr hw2 | exact hw2 | exact (Below.refl _ _).alloc (Nat.le_refl _) _) (by first | rfl | exact congrArg _ (by decide))
          refine Rg.op_is (mval A W.length c B b.length d) [] rfl rfl (by kernel_rfl) ?_ ?_
          · intro wx hb
            refine Rg.from_nil fun T hT => ?_
            have m0 := (S7.below hb).M.cell (k := 0) rfl
            have m1 := (S7.below hb).M.cell (k := 1) rfl
            go_wp2
            exact hT _ _ rfl (by first | exact Rg.Keep.refl _ | exact below_of_dr hw2 | exact hw2 | exact (Below.refl _ _).alloc (Nat.le_refl _) _) (by first | rfl | exact congrArg _ (by decide))
          refine' Rg.op_is _ [] rfl rfl (by kernel_rfl) ?_ ?_
          rotate_left
          · intro wx hb
            refine Rg.from_nil fun T hT => ?_
            go_wp2
            refine hT _ _ rfl (by first | exact Rg.Keep.refl _ | exact below_of_dr hw2 | exact hw2 | exact (Below.refl _ _).alloc (Nat.le_refl _) _) ?_
            simp only [Rg.last, List.getElem?_toArray, List.getElem?_cons_succ, List.getElem?_cons_zero, Option.getD_some]
            rfl
          refine Rg.op_of (fun w' v => RowI w' v (scoresS p W b q)) [5, 6, 7] rfl ?_ ?_ rfl (by kernel_rfl) ?_ ?_
          · exact fun w1 w2 v hk h => h.below hk
          · exact fun w1 w2 v hk h => h.below hk
          · intro wx hb
            refine Rg.from_is (some 75) rfl rfl ?_
            refine Rg.from_is (some 76) rfl rfl ?_
            refine Rg.from_is (some 77) rfl rfl ?_
            refine Rg.from_nil fun T hT => ?_
            go_wp2_with (fail)
            refine (fscores_c p _ _ Q _ _ q _ _ cq _ (S7.below hb).A (S7.below hb).B (hcq.below hb) l1 (by omega) hql u1 u2 huq).mono ?_
            rintro e w8 ⟨v, rfl, hown, hw8⟩
            have hrv := rowI_own hown
            clear hown
            go_wp2
            exact hT _ _ rfl hw8 hrv
          refine Rg.op_is (pval p) [] rfl rfl (by kernel_rfl) ?_ ?_
          · intro wx hb
            refine Rg.from_nil fun T hT => ?_
            obtain ⟨q0, q1, q2, q3, q4, q5, q6, q7, q8, q9, q10, q11⟩ := pars_at (S7.below hb).P
            go_wp2
            exact hT _ _ rfl (by first | exact Rg.Keep.refl _ | exact below_of_dr hw2 | exact hw2 | exact (Below.refl _ _).alloc (Nat.le_refl _) _) (by first | rfl | exact congrArg _ (by decide))
          refine Rg.op_is (mval A2 V.length c2 B2 b2.length d2) [] rfl rfl (by kernel_rfl) ?_ ?_
          · intro wx hb
            refine Rg.from_nil fun T hT => ?_
            have o0 := (S7.below hb).O.cell (k := 0) rfl
            have o1 := (S7.below hb).O.cell (k := 1) rfl
            go_wp2
            exact hT _ _ rfl (by first | exact Rg.Keep.refl _ | exact below_of_dr hw2 | exact hw2 | exact (Below.refl _ _).alloc (Nat.le_refl _) _) (by first | rfl | exact congrArg _ (by decide))
          refine' Rg.op_is _ [] rfl rfl (by kernel_rfl) ?_ ?_
          rotate_left
          · intro wx hb
            refine Rg.from_nil fun T hT => ?_
            go_wp2
            refine hT _ _ rfl (by first | exact Rg.Keep.refl _ | exact below_of_dr hw2 | exact hw2 | exact (Below.refl _ _).alloc (Nat.le_refl _) _) ?_
            simp only [Rg.last, List.getElem?_toArray, List.getElem?_cons_succ, List.getElem?_cons_zero, Option.getD_some]
            rfl
          refine Rg.op_of (fun w' v => RowI w' v (scoresS p V b2 q)) [9, 10, 11] rfl ?_ ?_ rfl (by kernel_rfl) ?_ ?_
          · exact fun w1 w2 v hk h => h.below hk
          · exact fun w1 w2 v hk h => h.below hk
          · intro wx hb
            refine Rg.from_is (some 79) rfl rfl ?_
            refine Rg.from_is (some 80) rfl rfl ?_
            refine Rg.from_is (some 81) rfl rfl ?_
            refine Rg.from_nil fun T hT => ?_
            go_wp2_with (fail)
            refine (fscores_c p _ _ Q _ _ q _ _ cq _ (S7.below hb).A2 (S7.below hb).B2 (hcq.below hb) l3 (by omega) hql u3 u4 huq).mono ?_
            rintro e w8 ⟨v, rfl, hown, hw8⟩
            have hrv := rowI_own hown
            clear hown
            go_wp2
            exact hT _ _ rfl hw8 hrv
          refine Rg.op_is (.bool true) [8, 12] rfl rfl (by kernel_rfl) ?_ ?_
          · intro wx hb
            refine Rg.from_of (some 78) rfl rfl fun v78 h78 => ?_
            refine Rg.from_of (some 82) rfl rfl fun v82 h82 => ?_
            refine Rg.from_nil fun T hT => ?_
            obtain ⟨A3, c3, rfl, g1, g2⟩ := h78
            obtain ⟨A4, c4, rfl, g3, g4⟩ := h82
            go_wp2_with (go_at_call 41; refine (ints_c A3 A4 _ _ c3 c4 _ g1 g3 g2 g4).mono ?_; rintro e w8 ⟨rfl, hw8⟩; rw [hd])
            exact hT _ _ rfl (below_of_dr hw8) rfl
          refine Rg.op_is (.bool false) [13] rfl rfl (by kernel_rfl) ?_ ?_
          · intro wx hb
            refine Rg.from_is (some 83) rfl rfl ?_
            refine Rg.from_nil fun T hT => ?_
            go_wp2
            exact hT _ _ rfl (by first | exact Rg.Keep.refl _ | exact below_of_dr hw2 | exact hw2 | exact (Below.refl _ _).alloc (Nat.le_refl _) _) (by first | rfl | exact congrArg _ (by decide))
          refine Rg.walk_nil [0, 1, 2, 3, 4, 5, 6, 7, 8, 9, 10, 11, 12, 13, 14] (by kernel_rfl) ?_
          intro wx hb
          refine Rg.from_is (some 70) rfl rfl ?_
          refine Rg.from_is (some 71) rfl rfl ?_
          refine Rg.from_is (some 72) rfl rfl ?_
          refine Rg.from_is (some 73) rfl rfl ?_
          refine Rg.from_is (some 74) rfl rfl ?_
          refine Rg.from_is (some 75) rfl rfl ?_
          refine Rg.from_is (some 76) rfl rfl ?_
          refine Rg.from_is (some 77) rfl rfl ?_
          refine Rg.from_of (some 78) rfl rfl fun v78 h78 => ?_
          refine Rg.from_is (some 79) rfl rfl ?_
          refine Rg.from_is (some 80) rfl rfl ?_
          refine Rg.from_is (some 81) rfl rfl ?_
          refine Rg.from_of (some 82) rfl rfl fun v82 h82 => ?_
          refine Rg.from_is (some 83) rfl rfl ?_
          refine Rg.from_is (some 84) rfl rfl ?_
          refine Rg.from_nil ?_
          simp only [List.map, Act.put, List.setIfInBounds_toArray, List.set_cons_zero, List.set_cons_succ]
          have hbk2 := below_next hbk hbk.size hb
          have HNEW := hid (show ∀ j q', j < k + 1 → [x, y, z][j]? = some q' → FairQ p q' ∧ scoresS p W b q' = scoresS p V b2 q' from fun j q' hj hjq => by
            rcases Nat.lt_or_ge j k with h | h
            · exact HGD.out j q' h hjq
            · obtain rfl : j = k := by omega
              rw [HKQ.out] at hjq
              obtain rfl := Option.some.inj hjq
              exact ⟨HQ.out, HSC.out⟩)
          clear hb S7 hr7 hcell hcq
          go_wp2
          go_roundw
          case rel => exact ⟨k + 1, by go_num, by omega, HNEW.out, hbk2⟩
          case measure => simp [intOf]; omega
        case neg =>
          have hd : decide (scoresS p W b q = scoresS p V b2 q) = false := by simpa using hsc
          clear hsc
          go_wp2
          refine Rg.wp_region (l := [_, _, _, _, _, _, _, _, _, _, _, _, _, _, _]) (tail := [_]) (Rg.grows _ 16) [some 70, some 71, some 72, some 73, some 74, some 75, some 76, some 77, some 78, some 79, some 80, some 81, some 82, some 83, some 84, some 85] 134 (by kernel_rfl) (by kernel_rfl) (by kernel_rfl) rfl (Rg.grows_fair _ _) (Rg.keep_drew _) (trivial) ?_
          refine Rg.op_is (pval p) [] rfl rfl (by kernel_rfl) ?_ ?_
          · intro wx hb
            refine Rg.from_nil fun T hT => ?_
            obtain ⟨q0, q1, q2, q3, q4, q5, q6, q7, q8, q9, q10, q11⟩ := pars_at (S7.below hb).P
            go_wp2
            exact hT _ _ rfl (by first | exact Rg.Keep.refl _ | exact below_of_dr hw2 | exact hw2 | exact (Below.refl _ _).alloc (Nat.le_refl _) _) (by first | rfl | exact congrArg _ (by decide))
          refine' Rg.op_is _ [] rfl rfl (by kernel_rfl) ?_ ?_
          rotate_left
          · intro wx hb
            refine Rg.from_nil fun T hT => ?_
            go_wp2
            refine hT _ _ rfl (by first | exact Rg.Keep.refl _ | exact below_of_dr hw2 | exact hw2 | exact (Below.refl _ _).alloc (Nat.le_refl _) _) ?_
            simp only [Rg.last, List.getElem?_toArray, List.getElem?_cons_succ, List.getElem?_cons_zero, Option.getD_some]
            rfl
          refine Rg.op_is (.int .i64 (queryE p q)) [0, 1] rfl rfl (by kernel_rfl) ?_ ?_
          · intro wx hb
            refine Rg.from_is (some 70) rfl rfl ?_
            refine Rg.from_is (some 71) rfl rfl ?_
            refine Rg.from_nil fun T hT => ?_
            go_wp2_with (go_at_call 40; refine (rquery_c p Q q cq _ (hcq.below hb) hql huq).mono ?_; rintro e w8 ⟨rfl, hw8⟩)
            exact hT _ _ rfl hw8 rfl
          refine Rg.op_is (.bool false) [2] rfl rfl (by kernel_rfl) ?_ ?_
          · intro wx hb
            refine Rg.from_is (some 72) rfl rfl ?_
            refine Rg.from_nil fun T hT => ?_
            go_wp2
            exact hT _ _ rfl (by first | exact Rg.Keep.refl _ | exact below_of_dr hw2 | exact hw2 | exact (Below.refl _ _).alloc (Nat.le_refl _) _) (by first | rfl | exact congrArg _ (by decide))
          refine Rg.op_is (.bool false) [3] rfl rfl (by kernel_rfl) ?_ ?_
          · intro wx hb
            refine Rg.from_is (some 73) rfl rfl ?_
            refine Rg.from_nil fun T hT => ?_
            go_wp2
            exact hT _ _ rfl (by first | exact Rg.Keep.refl _ | exact below_of_dr hw2 | exact hw2 | exact (Below.refl _ _).alloc (Nat.le_refl _) _) (by first | rfl | exact congrArg _ (by decide))
          refine Rg.op_is (pval p) [] rfl rfl (by kernel_rfl) ?_ ?_
          · intro wx hb
            refine Rg.from_nil fun T hT => ?_
            obtain ⟨q0, q1, q2, q3, q4, q5, q6, q7, q8, q9, q10, q11⟩ := pars_at (S7.below hb).P
            go_wp2
            exact hT _ _ rfl (by first | exact Rg.Keep.refl _ | exact below_of_dr hw2 | exact hw2 | exact (Below.refl _ _).alloc (Nat.le_refl _) _) (by first | rfl | exact congrArg _ (by decide))
          refine Rg.op_is (mval A W.length c B b.length d) [] rfl rfl (by kernel_rfl) ?_ ?_
          · intro wx hb
            refine Rg.from_nil fun T hT => ?_
            have m0 := (S7.below hb).M.cell (k := 0) rfl
            have m1 := (S7.below hb).M.cell (k := 1) rfl
            go_wp2
            exact hT _ _ rfl (by first | exact Rg.Keep.refl _ | exact below_of_dr hw2 | exact hw2 | exact (Below.refl _ _).alloc (Nat.le_refl _) _) (by first | rfl | exact congrArg _ (by decide))
          refine' Rg.op_is _ [] rfl rfl (by kernel_rfl) ?_ ?_
          rotate_left
          · intro wx hb
            refine Rg.from_nil fun T hT => ?_
            go_wp2
            refine hT _ _ rfl (by first | exact Rg.Keep.refl _ | exact below_of_dr hw2 | exact hw2 | exact (Below.refl _ _).alloc (Nat.le_refl _) _) ?_
            simp only [Rg.last, List.getElem?_toArray, List.getElem?_cons_succ, List.getElem?_cons_zero, Option.getD_some]
            rfl
          refine Rg.op_of (fun w' v => RowI w' v (scoresS p W b q)) [5, 6, 7] rfl ?_ ?_ rfl (by kernel_rfl) ?_ ?_
          · exact fun w1 w2 v hk h => h.below hk
          · exact fun w1 w2 v hk h => h.below hk
          · intro wx hb
            refine Rg.from_is (some 75) rfl rfl ?_
            refine Rg.from_is (some 76) rfl rfl ?_
            refine Rg.from_is (some 77) rfl rfl ?_
            refine Rg.from_nil fun T hT => ?_
            go_wp2_with (fail)
            refine (fscores_c p _ _ Q _ _ q _ _ cq _ (S7.below hb).A (S7.below hb).B (hcq.below hb) l1 (by omega) hql u1 u2 huq).mono ?_
            rintro e w8 ⟨v, rfl, hown, hw8⟩
            have hrv := rowI_own hown
            clear hown
            go_wp2
            exact hT _ _ rfl hw8 hrv
          refine Rg.op_is (pval p) [] rfl rfl (by kernel_rfl) ?_ ?_
          · intro wx hb
            refine Rg.from_nil fun T hT => ?_
            obtain ⟨q0, q1, q2, q3, q4, q5, q6, q7, q8, q9, q10, q11⟩ := pars_at (S7.below hb).P
            go_wp2
            exact hT _ _ rfl (by first | exact Rg.Keep.refl _ | exact below_of_dr hw2 | exact hw2 | exact (Below.refl _ _).alloc (Nat.le_refl _) _) (by first | rfl | exact congrArg _ (by decide))
          refine Rg.op_is (mval A2 V.length c2 B2 b2.length d2) [] rfl rfl (by kernel_rfl) ?_ ?_
          · intro wx hb
            refine Rg.from_nil fun T hT => ?_
            have o0 := (S7.below hb).O.cell (k := 0) rfl
            have o1 := (S7.below hb).O.cell (k := 1) rfl
            go_wp2
            exact hT _ _ rfl (by first | exact Rg.Keep.refl _ | exact below_of_dr hw2 | exact hw2 | exact (Below.refl _ _).alloc (Nat.le_refl _) _) (by first | rfl | exact congrArg _ (by decide))
          refine' Rg.op_is _ [] rfl rfl (by kernel_rfl) ?_ ?_
          rotate_left
          · intro wx hb
            refine Rg.from_nil fun T hT => ?_
            go_wp2
            refine hT _ _ rfl (by first | exact Rg.Keep.refl _ | exact below_of_dr hw2 | exact hw2 | exact (Below.refl _ _).alloc (Nat.le_refl _) _) ?_
            simp only [Rg.last, List.getElem?_toArray, List.getElem?_cons_succ, List.getElem?_cons_zero, Option.getD_some]
            rfl
          refine Rg.op_of (fun w' v => RowI w' v (scoresS p V b2 q)) [9, 10, 11] rfl ?_ ?_ rfl (by kernel_rfl) ?_ ?_
          · exact fun w1 w2 v hk h => h.below hk
          · exact fun w1 w2 v hk h => h.below hk
          · intro wx hb
            refine Rg.from_is (some 79) rfl rfl ?_
            refine Rg.from_is (some 80) rfl rfl ?_
            refine Rg.from_is (some 81) rfl rfl ?_
            refine Rg.from_nil fun T hT => ?_
            go_wp2_with (fail)
            refine (fscores_c p _ _ Q _ _ q _ _ cq _ (S7.below hb).A2 (S7.below hb).B2 (hcq.below hb) l3 (by omega) hql u3 u4 huq).mono ?_
            rintro e w8 ⟨v, rfl, hown, hw8⟩
            have hrv := rowI_own hown
            clear hown
            go_wp2
            exact hT _ _ rfl hw8 hrv
          refine Rg.op_is (.bool false) [8, 12] rfl rfl (by kernel_rfl) ?_ ?_
          · intro wx hb
            refine Rg.from_of (some 78) rfl rfl fun v78 h78 => ?_
            refine Rg.from_of (some 82) rfl rfl fun v82 h82 => ?_
            refine Rg.from_nil fun T hT => ?_
            obtain ⟨A3, c3, rfl, g1, g2⟩ := h78
            obtain ⟨A4, c4, rfl, g3, g4⟩ := h82
            go_wp2_with (go_at_call 41; refine (ints_c A3 A4 _ _ c3 c4 _ g1 g3 g2 g4).mono ?_; rintro e w8 ⟨rfl, hw8⟩; rw [hd])
            exact hT _ _ rfl (below_of_dr hw8) rfl
          refine Rg.op_is (.bool true) [13] rfl rfl (by kernel_rfl) ?_ ?_
          · intro wx hb
            refine Rg.from_is (some 83) rfl rfl ?_
            refine Rg.from_nil fun T hT => ?_
            go_wp2
            exact hT _ _ rfl (by first | exact Rg.Keep.refl _ | exact below_of_dr hw2 | exact hw2 | exact (Below.refl _ _).alloc (Nat.le_refl _) _) (by first | rfl | exact congrArg _ (by decide))
          refine Rg.walk_nil [0, 1, 2, 3, 4, 5, 6, 7, 8, 9, 10, 11, 12, 13, 14] (by kernel_rfl) ?_
          intro wx hb
          refine Rg.from_is (some 70) rfl rfl ?_
          refine Rg.from_is (some 71) rfl rfl ?_
          refine Rg.from_is (some 72) rfl rfl ?_
          refine Rg.from_is (some 73) rfl rfl ?_
          refine Rg.from_is (some 74) rfl rfl ?_
          refine Rg.from_is (some 75) rfl rfl ?_
          refine Rg.from_is (some 76) rfl rfl ?_
          refine Rg.from_is (some 77) rfl rfl ?_
          refine Rg.from_of (some 78) rfl rfl fun v78 h78 => ?_
          refine Rg.from_is (some 79) rfl rfl ?_
          refine Rg.from_is (some 80) rfl rfl ?_
          refine Rg.from_is (some 81) rfl rfl ?_
          refine Rg.from_of (some 82) rfl rfl fun v82 h82 => ?_
          refine Rg.from_is (some 83) rfl rfl ?_
          refine Rg.from_is (some 84) rfl rfl ?_
          refine Rg.from_nil ?_
          simp only [List.map, Act.put, List.setIfInBounds_toArray, List.set_cons_zero, List.set_cons_succ]
          have S8 := S7.below hb
          go_wp2
          go_ret
          exact ⟨rfl, S8.b⟩
    · obtain rfl : k = 3 := by omega
      have gx := HGD.out 0 x (by omega) rfl
      have gy := HGD.out 1 y (by omega) rfl
      have gz := HGD.out 2 z (by omega) rfl
      have HG3 := hid (⟨gx, gy, gz⟩ : _ ∧ _ ∧ _)
      have hlt1 := Int.tmod_lt_of_pos a0 (show (0 : Int) < 1000 by decide)
      have hlt2 := Int.lt_tmod_of_pos a0 (show (0 : Int) < 1000 by decide)
      have hlt3 := Int.tmod_lt_of_pos b0 (show (0 : Int) < 1000 by decide)
      have hlt4 := Int.lt_tmod_of_pos b0 (show (0 : Int) < 1000 by decide)
      obtain ⟨al, hal⟩ : ∃ t, a0.tmod 1000 = t := ⟨_, rfl⟩
      obtain ⟨be, hbe⟩ : ∃ t, b0.tmod 1000 = t := ⟨_, rfl⟩
      rw [hal] at hlt1 hlt2 ⊢
      rw [hbe] at hlt3 hlt4 ⊢
      have hyl2 : y.length = x.length := by have := gx.1.len; have := gy.1.len; omega
      have hzl2 : z.length = x.length := by have := gx.1.len; have := gz.1.len; omega
      have HLN := hid (⟨hyl2, hzl2⟩ : _ ∧ _)
      clear hr7 hr6 HGD S6 hbk gx gy gz hal hbe hyl2 hzl2
      go_wp2
      generalize wr = wo at *
      go_loopw [19, 20] (fun mi i w6 => ∃ k : Nat, i = .int .i64 k ∧ k ≤ x.length ∧ Own w6 wo.heap.size 2 mi ((mixL x y z al be k).map (.int .i64)) ∧ Below wo.heap.size wo w6) (fun _ i _ => x.length - (intOf i).toNat)
      case atStart => exact ⟨0, rfl, by omega, by simpa [mixL] using Own.nil wo wo.heap.size 2, Below.refl _ _⟩
      case round =>
        obtain ⟨k, rfl, hk, hown, hbm⟩ := hrel
        have S8 := S7.below hbm
        by_cases hlt : k < x.length
        · obtain ⟨xi, hxi⟩ := get_of_lt hlt
          have hky : k < y.length := by rw [HLN.out.1]; exact hlt
          have hkz : k < z.length := by rw [HLN.out.2]; exact hlt
          obtain ⟨yi, hyi⟩ := get_of_lt hky
          obtain ⟨zi, hzi⟩ := get_of_lt hkz
          obtain ⟨r1, f1, rfl, g1⟩ := S8.X.at_map hxi
          obtain ⟨r2, f2, rfl, g2⟩ := S8.Y.at_map hyi
          obtain ⟨r3, f3, rfl, g3⟩ := S8.Z.at_map hzi
          have bx := HG3.out.1.1.near xi (List.mem_of_getElem? hxi)
          have by_ := HG3.out.2.1.1.near yi (List.mem_of_getElem? hyi)
          have bz := HG3.out.2.2.1.near zi (List.mem_of_getElem? hzi)
          have hX := HG3.out.1.1.fits.X
          have p1 := prod_bound al xi 1000 1048576 ⟨by omega, by omega⟩ ⟨by omega, by omega⟩
          have p2 := prod_bound be yi 1000 1048576 ⟨by omega, by omega⟩ ⟨by omega, by omega⟩
          have p3 := prod_bound (1 - al - be) zi 3000 1048576 ⟨by omega, by omega⟩ ⟨by omega, by omega⟩
          have hmix : (mixL x y z al be k).map (Value.int .i64) ++ [Value.int .i64 (al * xi + be * yi + (1 - al - be) * zi)] = (mixL x y z al be (k + 1)).map (.int .i64) := by
            simp [mixL, List.range_succ, List.getD_eq_getElem?_getD, hxi, hyi, hzi]
          obtain ⟨m1, hm1⟩ : ∃ t, al * xi = t := ⟨_, rfl⟩
          obtain ⟨m2, hm2⟩ : ∃ t, be * yi = t := ⟨_, rfl⟩
          obtain ⟨m3, hm3⟩ : ∃ t, (1 - al - be) * zi = t := ⟨_, rfl⟩
          rw [hm1] at p1 hmix
          rw [hm2] at p2 hmix
          rw [hm3] at p3 hmix
          have p11 := p1.1
          have p12 := p1.2
          have p21 := p2.1
          have p22 := p2.2
          have p31 := p3.1
          have p32 := p3.2
          have hlen : ((mixL x y z al be k).map (Value.int .i64)).length = k := by simp [mixL]
          have HM := hid (⟨hmix, hlen⟩ : _ ∧ _)
          clear hmix hlen p1 p2 p3 bx by_ bz hxi hyi hzi
          go_wp2
          refine Rg.wp_region (l := [_, _, _, _, _, _, _, _, _, _, _, _, _, _, _, _, _, _, _, _, _, _, _, _, _]) (tail := [_, _]) (Rg.grows _ 27) [some 93, some 94, some 95, some 96, some 97, some 98, some 99, some 100, some 101, some 102, some 103, some 104, some 105, some 106, some 107, some 108, some 109, some 110, some 111, some 112, some 113, some 114, some 115, some 116, some 117, some 118, some 19] 134 (by kernel_rfl) (by kernel_rfl) (by kernel_rfl) rfl (Rg.grows_fair _ _) (Rg.keep_drew _) (trivial) ?_
          refine' Rg.op_is _ [] rfl rfl (by kernel_rfl) ?_ ?_
          rotate_left
          · intro wx hb
            refine Rg.from_nil fun T hT => ?_
            go_wp2
            refine hT _ _ rfl (by first | exact Rg.Keep.refl _ | exact below_of_dr hw2 | exact hw2 | exact (Below.refl _ _).alloc (Nat.le_refl _) _) ?_
            simp only [Rg.last, List.getElem?_toArray, List.getElem?_cons_succ, List.getElem?_cons_zero, Option.getD_some]
            rfl
          refine' Rg.op_is _ [] rfl rfl (by kernel_rfl) ?_ ?_
          rotate_left
          · intro wx hb
            refine Rg.from_nil fun T hT => ?_
            go_wp2
            refine hT _ _ rfl (by first | exact Rg.Keep.refl _ | exact below_of_dr hw2 | exact hw2 | exact (Below.refl _ _).alloc (Nat.le_refl _) _) ?_
            simp only [Rg.last, List.getElem?_toArray, List.getElem?_cons_succ, List.getElem?_cons_zero, Option.getD_some]
            rfl
          refine' Rg.op_is _ [] rfl rfl (by kernel_rfl) ?_ ?_
          rotate_left
          · intro wx hb
            refine Rg.from_nil fun T hT => ?_
            go_wp2
            refine hT _ _ rfl (by first | exact Rg.Keep.refl _ | exact below_of_dr hw2 | exact hw2 | exact (Below.refl _ _).alloc (Nat.le_refl _) _) ?_
            simp only [Rg.last, List.getElem?_toArray, List.getElem?_cons_succ, List.getElem?_cons_zero, Option.getD_some]
            rfl
          refine' Rg.op_is _ [] rfl rfl (by kernel_rfl) ?_ ?_
          rotate_left
          · intro wx hb
            refine Rg.from_nil fun T hT => ?_
            go_wp2
            refine hT _ _ rfl (by first | exact Rg.Keep.refl _ | exact below_of_dr hw2 | exact hw2 | exact (Below.refl _ _).alloc (Nat.le_refl _) _) ?_
            simp only [Rg.last, List.getElem?_toArray, List.getElem?_cons_succ, List.getElem?_cons_zero, Option.getD_some]
            rfl
          refine' Rg.op_is _ [2, 3] rfl rfl (by kernel_rfl) ?_ ?_
          rotate_left
          · intro wx hb
            refine Rg.from_is (some 95) rfl rfl ?_
            refine Rg.from_is (some 96) rfl rfl ?_
            refine Rg.from_nil fun T hT => ?_
            go_wp2
            refine hT _ _ rfl (by first | exact Rg.Keep.refl _ | exact below_of_dr hw2 | exact hw2 | exact (Below.refl _ _).alloc (Nat.le_refl _) _) ?_
            simp only [Rg.last, List.getElem?_toArray, List.getElem?_cons_succ, List.getElem?_cons_zero, Option.getD_some]
            rfl
          refine Rg.op_is (.int .i64 xi) [4] rfl rfl (by kernel_rfl) ?_ ?_
          · intro wx hb
            refine Rg.from_is (some 97) rfl rfl ?_
            refine Rg.from_nil fun T hT => ?_
            have g1' := (hb.cell (lt_of_cell g1)).trans g1
            go_wp2
            exact hT _ _ rfl (by first | exact Rg.Keep.refl _ | exact below_of_dr hw2 | exact hw2 | exact (Below.refl _ _).alloc (Nat.le_refl _) _) (by first | rfl | exact congrArg _ (by decide))
          refine Rg.op_is (.int .i64 m1) [1, 5] rfl rfl (by kernel_rfl) ?_ ?_
          · intro wx hb
            refine Rg.from_is (some 94) rfl rfl ?_
            refine Rg.from_is (some 98) rfl rfl ?_
            refine Rg.from_nil fun T hT => ?_
            go_wp2
            exact hT _ _ rfl (by first | exact Rg.Keep.refl _ | exact below_of_dr hw2 | exact hw2 | exact (Below.refl _ _).alloc (Nat.le_refl _) _) (by first | rfl | exact congrArg _ (by decide))
          refine' Rg.op_is _ [] rfl rfl (by kernel_rfl) ?_ ?_
          rotate_left
          · intro wx hb
            refine Rg.from_nil fun T hT => ?_
            go_wp2
            refine hT _ _ rfl (by first | exact Rg.Keep.refl _ | exact below_of_dr hw2 | exact hw2 | exact (Below.refl _ _).alloc (Nat.le_refl _) _) ?_
            simp only [Rg.last, List.getElem?_toArray, List.getElem?_cons_succ, List.getElem?_cons_zero, Option.getD_some]
            rfl
          refine' Rg.op_is _ [] rfl rfl (by kernel_rfl) ?_ ?_
          rotate_left
          · intro wx hb
            refine Rg.from_nil fun T hT => ?_
            go_wp2
            refine hT _ _ rfl (by first | exact Rg.Keep.refl _ | exact below_of_dr hw2 | exact hw2 | exact (Below.refl _ _).alloc (Nat.le_refl _) _) ?_
            simp only [Rg.last, List.getElem?_toArray, List.getElem?_cons_succ, List.getElem?_cons_zero, Option.getD_some]
            rfl
          refine' Rg.op_is _ [] rfl rfl (by kernel_rfl) ?_ ?_
          rotate_left
          · intro wx hb
            refine Rg.from_nil fun T hT => ?_
            go_wp2
            refine hT _ _ rfl (by first | exact Rg.Keep.refl _ | exact below_of_dr hw2 | exact hw2 | exact (Below.refl _ _).alloc (Nat.le_refl _) _) ?_
            simp only [Rg.last, List.getElem?_toArray, List.getElem?_cons_succ, List.getElem?_cons_zero, Option.getD_some]
            rfl
          refine' Rg.op_is _ [8, 9] rfl rfl (by kernel_rfl) ?_ ?_
          rotate_left
          · intro wx hb
            refine Rg.from_is (some 101) rfl rfl ?_
            refine Rg.from_is (some 102) rfl rfl ?_
            refine Rg.from_nil fun T hT => ?_
            go_wp2
            refine hT _ _ rfl (by first | exact Rg.Keep.refl _ | exact below_of_dr hw2 | exact hw2 | exact (Below.refl _ _).alloc (Nat.le_refl _) _) ?_
            simp only [Rg.last, List.getElem?_toArray, List.getElem?_cons_succ, List.getElem?_cons_zero, Option.getD_some]
            rfl
          refine Rg.op_is (.int .i64 yi) [10] rfl rfl (by kernel_rfl) ?_ ?_
          · intro wx hb
            refine Rg.from_is (some 103) rfl rfl ?_
            refine Rg.from_nil fun T hT => ?_
            have g2' := (hb.cell (lt_of_cell g2)).trans g2
            go_wp2
            exact hT _ _ rfl (by first | exact Rg.Keep.refl _ | exact below_of_dr hw2 | exact hw2 | exact (Below.refl _ _).alloc (Nat.le_refl _) _) (by first | rfl | exact congrArg _ (by decide))
          refine Rg.op_is (.int .i64 m2) [7, 11] rfl rfl (by kernel_rfl) ?_ ?_
          · intro wx hb
            refine Rg.from_is (some 100) rfl rfl ?_
            refine Rg.from_is (some 104) rfl rfl ?_
            refine Rg.from_nil fun T hT => ?_
            go_wp2
            exact hT _ _ rfl (by first | exact Rg.Keep.refl _ | exact below_of_dr hw2 | exact hw2 | exact (Below.refl _ _).alloc (Nat.le_refl _) _) (by first | rfl | exact congrArg _ (by decide))
          refine Rg.op_is (.int .i64 (m1 + m2)) [6, 12] rfl rfl (by kernel_rfl) ?_ ?_
          · intro wx hb
            refine Rg.from_is (some 99) rfl rfl ?_
            refine Rg.from_is (some 105) rfl rfl ?_
            refine Rg.from_nil fun T hT => ?_
            go_wp2
            exact hT _ _ rfl (by first | exact Rg.Keep.refl _ | exact below_of_dr hw2 | exact hw2 | exact (Below.refl _ _).alloc (Nat.le_refl _) _) (by first | rfl | exact congrArg _ (by decide))
          refine' Rg.op_is _ [] rfl rfl (by kernel_rfl) ?_ ?_
          rotate_left
          · intro wx hb
            refine Rg.from_nil fun T hT => ?_
            go_wp2
            refine hT _ _ rfl (by first | exact Rg.Keep.refl _ | exact below_of_dr hw2 | exact hw2 | exact (Below.refl _ _).alloc (Nat.le_refl _) _) ?_
            simp only [Rg.last, List.getElem?_toArray, List.getElem?_cons_succ, List.getElem?_cons_zero, Option.getD_some]
            rfl
          refine Rg.op_is (.int .i64 (1 - al)) [14] rfl rfl (by kernel_rfl) ?_ ?_
          · intro wx hb
            refine Rg.from_is (some 107) rfl rfl ?_
            refine Rg.from_nil fun T hT => ?_
            go_wp2
            exact hT _ _ rfl (by first | exact Rg.Keep.refl _ | exact below_of_dr hw2 | exact hw2 | exact (Below.refl _ _).alloc (Nat.le_refl _) _) (by first | rfl | exact congrArg _ (by decide))
          refine' Rg.op_is _ [] rfl rfl (by kernel_rfl) ?_ ?_
          rotate_left
          · intro wx hb
            refine Rg.from_nil fun T hT => ?_
            go_wp2
            refine hT _ _ rfl (by first | exact Rg.Keep.refl _ | exact below_of_dr hw2 | exact hw2 | exact (Below.refl _ _).alloc (Nat.le_refl _) _) ?_
            simp only [Rg.last, List.getElem?_toArray, List.getElem?_cons_succ, List.getElem?_cons_zero, Option.getD_some]
            rfl
          refine Rg.op_is (.int .i64 (1 - al - be)) [15, 16] rfl rfl (by kernel_rfl) ?_ ?_
          · intro wx hb
            refine Rg.from_is (some 108) rfl rfl ?_
            refine Rg.from_is (some 109) rfl rfl ?_
            refine Rg.from_nil fun T hT => ?_
            go_wp2
            exact hT _ _ rfl (by first | exact Rg.Keep.refl _ | exact below_of_dr hw2 | exact hw2 | exact (Below.refl _ _).alloc (Nat.le_refl _) _) (by first | rfl | exact congrArg _ (by decide))
          refine' Rg.op_is _ [] rfl rfl (by kernel_rfl) ?_ ?_
          rotate_left
          · intro wx hb
            refine Rg.from_nil fun T hT => ?_
            go_wp2
            refine hT _ _ rfl (by first | exact Rg.Keep.refl _ | exact below_of_dr hw2 | exact hw2 | exact (Below.refl _ _).alloc (Nat.le_refl _) _) ?_
            simp only [Rg.last, List.getElem?_toArray, List.getElem?_cons_succ, List.getElem?_cons_zero, Option.getD_some]
            rfl
          refine' Rg.op_is _ [] rfl rfl (by kernel_rfl) ?_ ?_
          rotate_left
          · intro wx hb
            refine Rg.from_nil fun T hT => ?_
            go_wp2
            refine hT _ _ rfl (by first | exact Rg.Keep.refl _ | exact below_of_dr hw2 | exact hw2 | exact (Below.refl _ _).alloc (Nat.le_refl _) _) ?_
            simp only [Rg.last, List.getElem?_toArray, List.getElem?_cons_succ, List.getElem?_cons_zero, Option.getD_some]
            rfl
          refine' Rg.op_is _ [18, 19] rfl rfl (by kernel_rfl) ?_ ?_
          rotate_left
          · intro wx hb
            refine Rg.from_is (some 111) rfl rfl ?_
            refine Rg.from_is (some 112) rfl rfl ?_
            refine Rg.from_nil fun T hT => ?_
            go_wp2
            refine hT _ _ rfl (by first | exact Rg.Keep.refl _ | exact below_of_dr hw2 | exact hw2 | exact (Below.refl _ _).alloc (Nat.le_refl _) _) ?_
            simp only [Rg.last, List.getElem?_toArray, List.getElem?_cons_succ, List.getElem?_cons_zero, Option.getD_some]
            rfl
          refine Rg.op_is (.int .i64 zi) [20] rfl rfl (by kernel_rfl) ?_ ?_
          · intro wx hb
            refine Rg.from_is (some 113) rfl rfl ?_
            refine Rg.from_nil fun T hT => ?_
            have g3' := (hb.cell (lt_of_cell g3)).trans g3
            go_wp2
            exact hT _ _ rfl (by first | exact Rg.Keep.refl _ | exact below_of_dr hw2 | exact hw2 | exact (Below.refl _ _).alloc (Nat.le_refl _) _) (by first | rfl | exact congrArg _ (by decide))
          refine Rg.op_is (.int .i64 m3) [17, 21] rfl rfl (by kernel_rfl) ?_ ?_
          · intro wx hb
            refine Rg.from_is (some 110) rfl rfl ?_
            refine Rg.from_is (some 114) rfl rfl ?_
            refine Rg.from_nil fun T hT => ?_
            go_wp2
            exact hT _ _ rfl (by first | exact Rg.Keep.refl _ | exact below_of_dr hw2 | exact hw2 | exact (Below.refl _ _).alloc (Nat.le_refl _) _) (by first | rfl | exact congrArg _ (by decide))
          refine Rg.op_is (.int .i64 (m1 + m2 + m3)) [13, 22] rfl rfl (by kernel_rfl) ?_ ?_
          · intro wx hb
            refine Rg.from_is (some 106) rfl rfl ?_
            refine Rg.from_is (some 115) rfl rfl ?_
            refine Rg.from_nil fun T hT => ?_
            go_wp2
            exact hT _ _ rfl (by first | exact Rg.Keep.refl _ | exact below_of_dr hw2 | exact hw2 | exact (Below.refl _ _).alloc (Nat.le_refl _) _) (by first | rfl | exact congrArg _ (by decide))
          refine Rg.op_of (fun w' v => ∃ g, v = Value.slice (some ⟨g, 0, none⟩) 1 1 ∧ wo.heap.size ≤ g ∧ Row1 w' g 2 [.int .i64 (m1 + m2 + m3)]) [23] rfl ?_ ?_ rfl (by kernel_rfl) ?_ ?_
          · exact fun w1 w2 v hk ⟨g, e, h1, h2⟩ => ⟨g, e, h1, h2.below hk⟩
          · exact fun w1 w2 v hk ⟨g, e, h1, h2⟩ => ⟨g, e, h1, h2.below hk⟩
          · intro wx hb
            refine Rg.from_is (some 116) rfl rfl ?_
            refine Rg.from_nil fun T hT => ?_
            go_wp2
            exact hT _ _ rfl (below_alloc _ _) ⟨wx.heap.size, rfl, Nat.le_trans hbm.size hb.size, row1_new wx [.int .i64 (m1 + m2 + m3)] 2⟩
          refine Rg.walk_nil [0, 1, 2, 3, 4, 5, 6, 7, 8, 9, 10, 11, 12, 13, 14, 15, 16, 17, 18, 19, 20, 21, 22, 23, 24] (by kernel_rfl) ?_
          intro wx hb
          refine Rg.from_is (some 93) rfl rfl ?_
          refine Rg.from_is (some 94) rfl rfl ?_
          refine Rg.from_is (some 95) rfl rfl ?_
          refine Rg.from_is (some 96) rfl rfl ?_
          refine Rg.from_is (some 97) rfl rfl ?_
          refine Rg.from_is (some 98) rfl rfl ?_
          refine Rg.from_is (some 99) rfl rfl ?_
          refine Rg.from_is (some 100) rfl rfl ?_
          refine Rg.from_is (some 101) rfl rfl ?_
          refine Rg.from_is (some 102) rfl rfl ?_
          refine Rg.from_is (some 103) rfl rfl ?_
          refine Rg.from_is (some 104) rfl rfl ?_
          refine Rg.from_is (some 105) rfl rfl ?_
          refine Rg.from_is (some 106) rfl rfl ?_
          refine Rg.from_is (some 107) rfl rfl ?_
          refine Rg.from_is (some 108) rfl rfl ?_
          refine Rg.from_is (some 109) rfl rfl ?_
          refine Rg.from_is (some 110) rfl rfl ?_
          refine Rg.from_is (some 111) rfl rfl ?_
          refine Rg.from_is (some 112) rfl rfl ?_
          refine Rg.from_is (some 113) rfl rfl ?_
          refine Rg.from_is (some 114) rfl rfl ?_
          refine Rg.from_is (some 115) rfl rfl ?_
          refine Rg.from_is (some 116) rfl rfl ?_
          refine Rg.from_of (some 117) rfl rfl fun v117 h117 => ?_
          refine Rg.from_nil ?_
          simp only [List.map, Act.put, List.setIfInBounds_toArray, List.set_cons_zero, List.set_cons_succ]
          obtain ⟨g, rfl, hg, hrg⟩ := h117
          have hnew : Own wx wo.heap.size 2 (.slice (some ⟨g, 0, none⟩) 1 1) [.int .i64 (m1 + m2 + m3)] := by
            simpa using hrg.own (base := wo.heap.size) hg (by simp)
          have hown2 := hown.below hb
          refine wpList_pushes elt_i64 wx rfl _ _ rfl wo.heap.size hown2 rfl hnew rfl (fun u hu => by simp only [List.mem_singleton] at hu; subst hu; rfl) (by rw [HM.out.2]; simp; omega) (by rw [HM.out.2]; simp; omega) (by have := hb.size; have := hbm.size; omega) ?_
          intro v' w7 hown7 _ hbel
          rw [HM.out.1] at hown7
          have hbw : Below wo.heap.size wo w7 := (below_next hbm hbm.size hb).trans hbel
          clear hbel hb hrg hnew hown2 hown hbm S8
          go_wp2
          go_roundw
          case rel => first | exact ⟨k + 1, by go_num, by omega, hown7, hbw⟩ | ((repeat apply Exists.intro); exact ⟨⟨k + 1, by go_num, by omega, hown7, hbw⟩, rfl⟩)
          case measure => simp [intOf]; omega
        · obtain rfl : k = x.length := by omega
          obtain ⟨MA, cm, rfl, hcm, hlm⟩ := rowI_own hown
          have hmu : I64s (mixL x y z al be x.length) := mix_i64 ⟨by omega, by omega⟩ ⟨by omega, by omega⟩ (near_big HG3.out.1.1) (near_big HG3.out.2.1.1) (near_big HG3.out.2.2.1) _
          have hspan := fun h => span_law (m := al) (n := be) HF.out HG.out HG3.out.1.1 HG3.out.2.1.1 HG3.out.2.2.1 HG3.out.1.2 HG3.out.2.1.2 HG3.out.2.2.2 h
          generalize mixL x y z al be x.length = mx at *
          have HSP := hid hspan
          clear hspan hown hbm
          by_cases hq : queryE p mx = 0
          case neg =>
            have hq' : (queryE p mx != 0) = true := by simpa using hq
            clear hq
            go_wp2
            refine Rg.wp_region (l := [_, _, _, _, _, _, _, _, _, _, _, _, _, _, _]) (tail := [_]) (Rg.grows _ 16) [some 119, some 120, some 121, some 122, some 123, some 124, some 125, some 126, some 127, some 128, some 129, some 130, some 131, some 132, some 133, some 16] 134 (by kernel_rfl) (by kernel_rfl) (by kernel_rfl) rfl (Rg.grows_fair _ _) (Rg.keep_drew _) (trivial) ?_
            refine Rg.op_is (pval p) [] rfl rfl (by kernel_rfl) ?_ ?_
            · intro wx hb
              refine Rg.from_nil fun T hT => ?_
              obtain ⟨q0, q1, q2, q3, q4, q5, q6, q7, q8, q9, q10, q11⟩ := pars_at (S8.below hb).P
              go_wp2
              exact hT _ _ rfl (by first | exact Rg.Keep.refl _ | exact below_of_dr hw2 | exact hw2 | exact (Below.refl _ _).alloc (Nat.le_refl _) _) (by first | rfl | exact congrArg _ (by decide))
            refine' Rg.op_is _ [] rfl rfl (by kernel_rfl) ?_ ?_
            rotate_left
            · intro wx hb
              refine Rg.from_nil fun T hT => ?_
              go_wp2
              refine hT _ _ rfl (by first | exact Rg.Keep.refl _ | exact below_of_dr hw2 | exact hw2 | exact (Below.refl _ _).alloc (Nat.le_refl _) _) ?_
              simp only [Rg.last, List.getElem?_toArray, List.getElem?_cons_succ, List.getElem?_cons_zero, Option.getD_some]
              rfl
            refine Rg.op_is (.int .i64 (queryE p mx)) [0, 1] rfl rfl (by kernel_rfl) ?_ ?_
            · intro wx hb
              refine Rg.from_is (some 119) rfl rfl ?_
              refine Rg.from_is (some 120) rfl rfl ?_
              refine Rg.from_nil fun T hT => ?_
              go_wp2_with (go_at_call 40; refine (rquery_c p MA mx cm _ (hcm.below hb) hlm hmu).mono ?_; rintro e w8 ⟨rfl, hw8⟩)
              exact hT _ _ rfl hw8 rfl
            refine Rg.op_is (.bool true) [2] rfl rfl (by kernel_rfl) ?_ ?_
            · intro wx hb
              refine Rg.from_is (some 121) rfl rfl ?_
              refine Rg.from_nil fun T hT => ?_
              go_wp2
              exact hT _ _ rfl (by first | exact Rg.Keep.refl _ | exact below_of_dr hw2 | exact hw2 | exact (Below.refl _ _).alloc (Nat.le_refl _) _) (by first | rfl | exact congrArg _ (by decide))
            refine Rg.op_is (.bool true) [3] rfl rfl (by kernel_rfl) ?_ ?_
            · intro wx hb
              refine Rg.from_is (some 122) rfl rfl ?_
              refine Rg.from_nil fun T hT => ?_
              go_wp2
              exact hT _ _ rfl (by first | exact Rg.Keep.refl _ | exact below_of_dr hw2 | exact hw2 | exact (Below.refl _ _).alloc (Nat.le_refl _) _) (by first | rfl | exact congrArg _ (by decide))
            refine Rg.op_skip rfl ?_
            refine Rg.op_skip rfl ?_
            refine Rg.op_skip rfl ?_
            refine Rg.op_skip rfl ?_
            refine Rg.op_skip rfl ?_
            refine Rg.op_skip rfl ?_
            refine Rg.op_skip rfl ?_
            refine Rg.op_skip rfl ?_
            refine Rg.op_skip rfl ?_
            refine Rg.op_is (.bool true) [4, 13] rfl rfl (by kernel_rfl) ?_ ?_
            · intro wx hb
              refine Rg.from_is (some 123) rfl rfl ?_
              refine Rg.from_is (some 132) rfl rfl ?_
              refine Rg.from_nil fun T hT => ?_
              go_wp2
              exact hT _ _ rfl (by first | exact Rg.Keep.refl _ | exact below_of_dr hw2 | exact hw2 | exact (Below.refl _ _).alloc (Nat.le_refl _) _) (by first | rfl | exact congrArg _ (by decide))
            refine Rg.walk_nil [0, 1, 2, 3, 4, 5, 6, 7, 8, 9, 10, 11, 12, 13, 14] (by kernel_rfl) ?_
            intro wx hb
            refine Rg.from_is (some 119) rfl rfl ?_
            refine Rg.from_is (some 120) rfl rfl ?_
            refine Rg.from_is (some 121) rfl rfl ?_
            refine Rg.from_is (some 122) rfl rfl ?_
            refine Rg.from_is (some 123) rfl rfl ?_
            refine Rg.from_is (some 124) rfl rfl ?_
            refine Rg.from_is (some 125) rfl rfl ?_
            refine Rg.from_is (some 126) rfl rfl ?_
            refine Rg.from_is (some 127) rfl rfl ?_
            refine Rg.from_is (some 128) rfl rfl ?_
            refine Rg.from_is (some 129) rfl rfl ?_
            refine Rg.from_is (some 130) rfl rfl ?_
            refine Rg.from_is (some 131) rfl rfl ?_
            refine Rg.from_is (some 132) rfl rfl ?_
            refine Rg.from_is (some 133) rfl rfl ?_
            refine Rg.from_nil ?_
            simp only [List.map, Act.put, List.setIfInBounds_toArray, List.set_cons_zero, List.set_cons_succ]
            have S9 := S8.below hb
            go_wp2
            go_ret
            exact ⟨rfl, S9.b⟩
          case pos =>
            have hq' : (queryE p mx != 0) = false := by simpa using hq
            have hd : decide (scoresS p W b mx = scoresS p V b2 mx) = true := by simpa using HSP.out ((query_iff p mx).1 hq)
            clear hq
            go_wp2
            refine Rg.wp_region (l := [_, _, _, _, _, _, _, _, _, _, _, _, _, _, _]) (tail := [_]) (Rg.grows _ 16) [some 119, some 120, some 121, some 122, some 123, some 124, some 125, some 126, some 127, some 128, some 129, some 130, some 131, some 132, some 133, some 16] 134 (by kernel_rfl) (by kernel_rfl) (by kernel_rfl) rfl (Rg.grows_fair _ _) (Rg.keep_drew _) (trivial) ?_
            refine Rg.op_is (pval p) [] rfl rfl (by kernel_rfl) ?_ ?_
            · intro wx hb
              refine Rg.from_nil fun T hT => ?_
              obtain ⟨q0, q1, q2, q3, q4, q5, q6, q7, q8, q9, q10, q11⟩ := pars_at (S8.below hb).P
              go_wp2
              exact hT _ _ rfl (by first | exact Rg.Keep.refl _ | exact below_of_dr hw2 | exact hw2 | exact (Below.refl _ _).alloc (Nat.le_refl _) _) (by first | rfl | exact congrArg _ (by decide))
            refine' Rg.op_is _ [] rfl rfl (by kernel_rfl) ?_ ?_
            rotate_left
            · intro wx hb
              refine Rg.from_nil fun T hT => ?_
              go_wp2
              refine hT _ _ rfl (by first | exact Rg.Keep.refl _ | exact below_of_dr hw2 | exact hw2 | exact (Below.refl _ _).alloc (Nat.le_refl _) _) ?_
              simp only [Rg.last, List.getElem?_toArray, List.getElem?_cons_succ, List.getElem?_cons_zero, Option.getD_some]
              rfl
            refine Rg.op_is (.int .i64 (queryE p mx)) [0, 1] rfl rfl (by kernel_rfl) ?_ ?_
            · intro wx hb
              refine Rg.from_is (some 119) rfl rfl ?_
              refine Rg.from_is (some 120) rfl rfl ?_
              refine Rg.from_nil fun T hT => ?_
              go_wp2_with (go_at_call 40; refine (rquery_c p MA mx cm _ (hcm.below hb) hlm hmu).mono ?_; rintro e w8 ⟨rfl, hw8⟩)
              exact hT _ _ rfl hw8 rfl
            refine Rg.op_is (.bool false) [2] rfl rfl (by kernel_rfl) ?_ ?_
            · intro wx hb
              refine Rg.from_is (some 121) rfl rfl ?_
              refine Rg.from_nil fun T hT => ?_
              go_wp2
              exact hT _ _ rfl (by first | exact Rg.Keep.refl _ | exact below_of_dr hw2 | exact hw2 | exact (Below.refl _ _).alloc (Nat.le_refl _) _) (by first | rfl | exact congrArg _ (by decide))
            refine Rg.op_is (.bool false) [3] rfl rfl (by kernel_rfl) ?_ ?_
            · intro wx hb
              refine Rg.from_is (some 122) rfl rfl ?_
              refine Rg.from_nil fun T hT => ?_
              go_wp2
              exact hT _ _ rfl (by first | exact Rg.Keep.refl _ | exact below_of_dr hw2 | exact hw2 | exact (Below.refl _ _).alloc (Nat.le_refl _) _) (by first | rfl | exact congrArg _ (by decide))
            refine Rg.op_is (pval p) [] rfl rfl (by kernel_rfl) ?_ ?_
            · intro wx hb
              refine Rg.from_nil fun T hT => ?_
              obtain ⟨q0, q1, q2, q3, q4, q5, q6, q7, q8, q9, q10, q11⟩ := pars_at (S8.below hb).P
              go_wp2
              exact hT _ _ rfl (by first | exact Rg.Keep.refl _ | exact below_of_dr hw2 | exact hw2 | exact (Below.refl _ _).alloc (Nat.le_refl _) _) (by first | rfl | exact congrArg _ (by decide))
            refine Rg.op_is (mval A W.length c B b.length d) [] rfl rfl (by kernel_rfl) ?_ ?_
            · intro wx hb
              refine Rg.from_nil fun T hT => ?_
              have m0 := (S8.below hb).M.cell (k := 0) rfl
              have m1 := (S8.below hb).M.cell (k := 1) rfl
              go_wp2
              exact hT _ _ rfl (by first | exact Rg.Keep.refl _ | exact below_of_dr hw2 | exact hw2 | exact (Below.refl _ _).alloc (Nat.le_refl _) _) (by first | rfl | exact congrArg _ (by decide))
            refine' Rg.op_is _ [] rfl rfl (by kernel_rfl) ?_ ?_
            rotate_left
            · intro wx hb
              refine Rg.from_nil fun T hT => ?_
              go_wp2
              refine hT _ _ rfl (by first | exact Rg.Keep.refl _ | exact below_of_dr hw2 | exact hw2 | exact (Below.refl _ _).alloc (Nat.le_refl _) _) ?_
              simp only [Rg.last, List.getElem?_toArray, List.getElem?_cons_succ, List.getElem?_cons_zero, Option.getD_some]
              rfl
            refine Rg.op_of (fun w' v => RowI w' v (scoresS p W b mx)) [5, 6, 7] rfl ?_ ?_ rfl (by kernel_rfl) ?_ ?_
            · exact fun w1 w2 v hk h => h.below hk
            · exact fun w1 w2 v hk h => h.below hk
            · intro wx hb
              refine Rg.from_is (some 124) rfl rfl ?_
              refine Rg.from_is (some 125) rfl rfl ?_
              refine Rg.from_is (some 126) rfl rfl ?_
              refine Rg.from_nil fun T hT => ?_
              go_wp2_with (fail)
              refine (fscores_c p _ _ MA _ _ mx _ _ cm _ (S8.below hb).A (S8.below hb).B (hcm.below hb) l1 (by omega) hlm u1 u2 hmu).mono ?_
              rintro e w8 ⟨v, rfl, hown, hw8⟩
              have hrv := rowI_own hown
              clear hown
              go_wp2
              exact hT _ _ rfl hw8 hrv
            refine Rg.op_is (pval p) [] rfl rfl (by kernel_rfl) ?_ ?_
            · intro wx hb
              refine Rg.from_nil fun T hT => ?_
              obtain ⟨q0, q1, q2, q3, q4, q5, q6, q7, q8, q9, q10, q11⟩ := pars_at (S8.below hb).P
              go_wp2
              exact hT _ _ rfl (by first | exact Rg.Keep.refl _ | exact below_of_dr hw2 | exact hw2 | exact (Below.refl _ _).alloc (Nat.le_refl _) _) (by first | rfl | exact congrArg _ (by decide))
            refine Rg.op_is (mval A2 V.length c2 B2 b2.length d2) [] rfl rfl (by kernel_rfl) ?_ ?_
            · intro wx hb
              refine Rg.from_nil fun T hT => ?_
              have o0 := (S8.below hb).O.cell (k := 0) rfl
              have o1 := (S8.below hb).O.cell (k := 1) rfl
              go_wp2
              exact hT _ _ rfl (by first | exact Rg.Keep.refl _ | exact below_of_dr hw2 | exact hw2 | exact (Below.refl _ _).alloc (Nat.le_refl _) _) (by first | rfl | exact congrArg _ (by decide))
            refine' Rg.op_is _ [] rfl rfl (by kernel_rfl) ?_ ?_
            rotate_left
            · intro wx hb
              refine Rg.from_nil fun T hT => ?_
              go_wp2
              refine hT _ _ rfl (by first | exact Rg.Keep.refl _ | exact below_of_dr hw2 | exact hw2 | exact (Below.refl _ _).alloc (Nat.le_refl _) _) ?_
              simp only [Rg.last, List.getElem?_toArray, List.getElem?_cons_succ, List.getElem?_cons_zero, Option.getD_some]
              rfl
            refine Rg.op_of (fun w' v => RowI w' v (scoresS p V b2 mx)) [9, 10, 11] rfl ?_ ?_ rfl (by kernel_rfl) ?_ ?_
            · exact fun w1 w2 v hk h => h.below hk
            · exact fun w1 w2 v hk h => h.below hk
            · intro wx hb
              refine Rg.from_is (some 128) rfl rfl ?_
              refine Rg.from_is (some 129) rfl rfl ?_
              refine Rg.from_is (some 130) rfl rfl ?_
              refine Rg.from_nil fun T hT => ?_
              go_wp2_with (fail)
              refine (fscores_c p _ _ MA _ _ mx _ _ cm _ (S8.below hb).A2 (S8.below hb).B2 (hcm.below hb) l3 (by omega) hlm u3 u4 hmu).mono ?_
              rintro e w8 ⟨v, rfl, hown, hw8⟩
              have hrv := rowI_own hown
              clear hown
              go_wp2
              exact hT _ _ rfl hw8 hrv
            refine Rg.op_is (.bool true) [8, 12] rfl rfl (by kernel_rfl) ?_ ?_
            · intro wx hb
              refine Rg.from_of (some 127) rfl rfl fun v127 h127 => ?_
              refine Rg.from_of (some 131) rfl rfl fun v131 h131 => ?_
              refine Rg.from_nil fun T hT => ?_
              obtain ⟨A3, c3, rfl, g1, g2⟩ := h127
              obtain ⟨A4, c4, rfl, g3, g4⟩ := h131
              go_wp2_with (go_at_call 41; refine (ints_c A3 A4 _ _ c3 c4 _ g1 g3 g2 g4).mono ?_; rintro e w8 ⟨rfl, hw8⟩; rw [hd])
              exact hT _ _ rfl (below_of_dr hw8) rfl
            refine Rg.op_is (.bool true) [4, 13] rfl rfl (by kernel_rfl) ?_ ?_
            · intro wx hb
              refine Rg.from_is (some 123) rfl rfl ?_
              refine Rg.from_is (some 132) rfl rfl ?_
              refine Rg.from_nil fun T hT => ?_
              go_wp2
              exact hT _ _ rfl (by first | exact Rg.Keep.refl _ | exact below_of_dr hw2 | exact hw2 | exact (Below.refl _ _).alloc (Nat.le_refl _) _) (by first | rfl | exact congrArg _ (by decide))
            refine Rg.walk_nil [0, 1, 2, 3, 4, 5, 6, 7, 8, 9, 10, 11, 12, 13, 14] (by kernel_rfl) ?_
            intro wx hb
            refine Rg.from_is (some 119) rfl rfl ?_
            refine Rg.from_is (some 120) rfl rfl ?_
            refine Rg.from_is (some 121) rfl rfl ?_
            refine Rg.from_is (some 122) rfl rfl ?_
            refine Rg.from_is (some 123) rfl rfl ?_
            refine Rg.from_is (some 124) rfl rfl ?_
            refine Rg.from_is (some 125) rfl rfl ?_
            refine Rg.from_is (some 126) rfl rfl ?_
            refine Rg.from_of (some 127) rfl rfl fun v127 h127 => ?_
            refine Rg.from_is (some 128) rfl rfl ?_
            refine Rg.from_is (some 129) rfl rfl ?_
            refine Rg.from_is (some 130) rfl rfl ?_
            refine Rg.from_of (some 131) rfl rfl fun v131 h131 => ?_
            refine Rg.from_is (some 132) rfl rfl ?_
            refine Rg.from_is (some 133) rfl rfl ?_
            refine Rg.from_nil ?_
            simp only [List.map, Act.put, List.setIfInBounds_toArray, List.set_cons_zero, List.set_cons_succ]
            have S9 := S8.below hb
            go_wp2
            go_ret
            exact ⟨rfl, S9.b⟩

set_option maxRecDepth 100000 in
theorem fixedSpan_lifted (os : Os) (started : os.Started) (H : Type) (enc : TypeId × Value → H) :
    ReturnsInHanded {} Try.checked os 8 .any (Rows.fixedSpanSpec.pre6 enc Try.prog Try.f8 Rows.fixedSpanRow.domain false) (Rows.fixedSpanSpec.post enc Try.prog Try.f8 false true false false) := by
  refine returnsInHanded_of_change (C := Try.checked) Try.own started (by kernel_rfl) Try.func8
    (ChangeSpec.witness6 (enc := enc) (C := Try.checked) false ⟨#[], #[pval parSome, .agg #[.slice none 0 0, .slice none 0 0], .agg #[.slice none 0 0, .slice none 0 0], .slice none 0 0, .slice none 0 0, .slice none 0 0, .int .i64 0, .int .i64 0], []⟩ 8 (by kernel_rfl) (by kernel_rfl) (by kernel_rfl) (by kernel_rfl)) ?_
  intro W base args ds gs before hval0 hW hcnd _
  have hval : ∀ (j : Nat) t v, Try.f8.params[j]? = some t → args[j]? = some v → Value.okWide Try.prog W .any base t v := hval0
  have hW' := hW
  obtain ⟨p, q, hA0, hV, rfl, hfz, hnd⟩ := hW
  have hA : DataW.TrodAll enc Try.prog W 0 (fun _ => true) true Try.f8.params.toList args.toList ds p := hA0
  rw [Try.params8] at hA hval
  obtain ⟨v0, v1, v2, v3, v4, v5, v6, v7, d0, d1, d2, d3, d4, d5, d6, d7, p0, p1, p2, p3, p4, p5, p6, p7, rfl, rfl, h0, h1, h2, h3, h4, h5, h6, h7⟩ := trodAll_eight hA
  obtain ⟨rfl, rfl⟩ := trodVars_none hV
  obtain ⟨pr, rfl, hp⟩ := par_at (hval 0 40 v0 rfl rfl) h0
  obtain ⟨A, Wm, c, B, b, e1, rfl, gA, gB, gl, gl', gu, gu'⟩ := model_at (hval 1 44 v1 rfl rfl) h1
  obtain ⟨A2, Vm, c2, B2, b2, e2, rfl, gA2, gB2, gl2, gl2', gu2, gu2'⟩ := model_at (hval 2 44 v2 rfl rfl) h2
  obtain ⟨_, k3⟩ := one_of Try.underlying42 (hval 3 42 v3 rfl rfl) h3
  obtain ⟨X, x, ex, rfl, gX, glx, gux⟩ := ints_at k3
  obtain ⟨_, k4⟩ := one_of Try.underlying42 (hval 4 42 v4 rfl rfl) h4
  obtain ⟨Y, y, ey, rfl, gY, gly, guy⟩ := ints_at k4
  obtain ⟨_, k5⟩ := one_of Try.underlying42 (hval 5 42 v5 rfl rfl) h5
  obtain ⟨Z, z, ez, rfl, gZ, glz, guz⟩ := ints_at k5
  obtain ⟨a0, rfl, _, _, wa⟩ := open_int Try.underlying2 (hval 6 2 v6 rfl rfl) h6
  obtain ⟨b0, rfl, _, _, wb⟩ := open_int Try.underlying2 (hval 7 2 v7 rfl rfl) h7
  clear hA0 hval0
  refine (fixedSpan_c pr hp A B A2 B2 X Y Z Wm Vm b b2 x y z c e1 c2 e2 ex ey ez a0 b0 W gA gB gA2 gB2 gX gY gZ gl gl' gl2 gl2' glx gly glz gu gu' gu2 gu2' gux guy guz (i64_of wa) (i64_of wb)).mono fun e W' ⟨he, hb⟩ => ?_
  subst he
  exact ⟨_, rfl, post_true hW' hb Try.laidOut (by kernel_rfl) rfl rfl rfl rfl rfl Try.underlying4⟩

theorem fixedSpan_holds : Rows.FixedSpanSaid :=
  OpenClaim.holds_of_wide 8 Try.f8 rfl rfl rfl rfl rfl rfl rfl ⟨rfl, rfl, rfl, rfl, rfl⟩ rfl rfl rfl rfl rfl (by kernel_rfl) Try.func8 (by kernel_rfl)
    (of_decide_eq_true (by kernel_rfl)) (by unfold Func.isWrapper; first | (rw [if_pos (by decide +kernel)]; kernel_rfl) | (rw [if_neg (by decide +kernel)]; exact ⟨rfl, rfl⟩))
    (fun os started H enc _ => fixedSpan_lifted os started H enc)
#print axioms fixedSpan_holds

end Go.Proofs.Ytnmadmcegdpecaa
