/-
  PROVED HERE: FixedTells: whether any model and any query may be, secrets, rows, products and scores, by any params, are the document's.
-/
import Derived.Test.YtnmadmcegdpecaaFixX
import Derived.Test.YtnmadmcegdpecaaFixL
import Derived.Test.YtnmadmcegdpecaaArgs
namespace Go.Proofs.Ytnmadmcegdpecaa
open Go.ChangeShapes Go.WideShapes Go.ChangeAt Go.RowKit

/-- what lies in memory while the statement goes on. -/
structure Tl (p : Par) (A : Option Addr) (W : List (List Int)) (c : Nat) (B : Option Addr) (b : List Int) (d : Nat) (A2 : Option Addr) (V : List (List Int)) (c2 : Nat) (B2 : Option Addr) (b2 : List Int) (d2 : Nat) (X L : Option Addr) (x l : List Int) (g : Nat) (w0 wr : World) : Prop where
  P : Row1 wr g 40 (pcells p)
  M : Row1 wr (g + 1) 44 [.slice A W.length c, .slice B b.length d]
  O : Row1 wr (g + 1 + 1) 44 [.slice A2 V.length c2, .slice B2 b2.length d2]
  A : GridI wr A W
  B : Cells wr B (b.map (.int .i64))
  A2 : GridI wr A2 V
  B2 : Cells wr B2 (b2.map (.int .i64))
  X : Cells wr X (x.map (.int .i64))
  L : Cells wr L (l.map (.int .u64))
  b : Below w0.heap.size w0 wr
theorem Tl.below {p : Par} {A : Option Addr} {W : List (List Int)} {c : Nat} {B : Option Addr} {b : List Int} {d : Nat} {A2 : Option Addr} {V : List (List Int)} {c2 : Nat} {B2 : Option Addr} {b2 : List Int} {d2 : Nat} {X L : Option Addr} {x l : List Int} {g : Nat} {w0 wr w' : World} (h : Tl p A W c B b d A2 V c2 B2 b2 d2 X L x l g w0 wr) (hb : Below wr.heap.size wr w') : Tl p A W c B b d A2 V c2 B2 b2 d2 X L x l g w0 w' :=
  ⟨h.P.below hb, h.M.below hb, h.O.below hb, h.A.below hb, h.B.below hb, h.A2.below hb, h.B2.below hb, h.X.below hb, h.L.below hb, below_next h.b h.b.size hb⟩
/-- the copies. -/
structure Tc (CA : Option Addr) (W : List (List Int)) (cc : Nat) (CB : Option Addr) (b : List Int) (cd : Nat) (Y N : Option Addr) (x l : List Int) (gc : Nat) (wr : World) : Prop where
  C : Row1 wr gc 44 [.slice CA W.length cc, .slice CB b.length cd]
  CA : GridI wr CA W
  CB : Cells wr CB (b.map (.int .i64))
  Y : Cells wr Y (x.map (.int .i64))
  N : Cells wr N (l.map (.int .u64))
theorem Tc.below {CA : Option Addr} {W : List (List Int)} {cc : Nat} {CB : Option Addr} {b : List Int} {cd : Nat} {Y N : Option Addr} {x l : List Int} {gc : Nat} {wr w' : World} (h : Tc CA W cc CB b cd Y N x l gc wr) (hb : Below wr.heap.size wr w') : Tc CA W cc CB b cd Y N x l gc w' :=
  ⟨h.C.below hb, h.CA.below hb, h.CB.below hb, h.Y.below hb, h.N.below hb⟩
theorem largeB_no {W : List (List Int)} {b : List Int} (h : largeB W b = false) : W.length ≤ 40 ∧ b.length ≤ 40 ∧ ∀ l ∈ W, l.length ≤ 40 := by
  simp only [largeB, Bool.or_eq_false_iff, decide_eq_false_iff_not, List.any_eq_false, decide_eq_true_eq] at h
  exact ⟨by omega, by omega, fun l hl => by have := h.2.2 l hl; omega⟩
/-- what was told, to be written over. -/
structure Fo (base : Nat) (va vb vd ve : Value) (na nb nd ne : Nat) (w : World) : Prop where
  a : Writ w base 23 va na
  b : Writ w base 23 vb nb
  d : Writ w base 23 vd nd
  e : Writ w base 2 ve ne
theorem Fo.below {base : Nat} {va vb vd ve : Value} {na nb nd ne : Nat} {w w' : World} (h : Fo base va vb vd ve na nb nd ne w) (hb : Below w.heap.size w w') : Fo base va vb vd ve na nb nd ne w' := ⟨h.a.below hb, h.b.below hb, h.d.below hb, h.e.below hb⟩
theorem Fo.set {base : Nat} {va vb vd ve : Value} {na nb nd ne : Nat} {w : World} (h : Fo base va vb vd ve na nb nd ne w) (g k : Nat) (u : Value) : Fo base va vb vd ve na nb nd ne (w.setCell ⟨g, k, none⟩ u) := ⟨h.a.set g k u, h.b.set g k u, h.d.set g k u, h.e.set g k u⟩
theorem Fo.at_ {base : Nat} {va vb vd ve : Value} {na nb nd ne : Nat} {w : World} (h : Fo base va vb vd ve na nb nd ne w) {j : Nat} {u : Value} {n : Nat} (h1 : [va, vb, vd][j]? = some u) (h2 : [na, nb, nd][j]? = some n) : Writ w base 23 u n := by
  match j, h1, h2 with
  | 0, h1, h2 => obtain rfl := Option.some.inj h1; obtain rfl := Option.some.inj h2; exact h.a
  | 1, h1, h2 => obtain rfl := Option.some.inj h1; obtain rfl := Option.some.inj h2; exact h.b
  | 2, h1, h2 => obtain rfl := Option.some.inj h1; obtain rfl := Option.some.inj h2; exact h.d
  | j + 3, h1, h2 => simp at h1
theorem writ_far {w : World} {e e2 : TypeId} {g k : Nat} {xs : List Value} {ar : Array Value} (hr : Row1 w k e2 xs) (hg : w.heap[g]? = some (Obj.cells ar e (0, 0))) (hne : e ≠ e2) : g ≠ k := by
  rintro rfl
  unfold Row1 at hr
  rw [hr] at hg
  simp only [Option.some.injEq, Obj.cells.injEq] at hg
  exact hne hg.2.1.symm


set_option maxRecDepth 100000 in
set_option maxHeartbeats 4000000 in
theorem fixedTells_c (p : Par) (hp : p.ok) (A B A2 B2 X L : Option Addr) (W V : List (List Int)) (b b2 x l : List Int) (c d c2 d2 ex el : Nat) (w : World) (hA : GridI w A W) (hB : Cells w B (b.map (.int .i64))) (hA2 : GridI w A2 V) (hB2 : Cells w B2 (b2.map (.int .i64)))
    (hX : Cells w X (x.map (.int .i64))) (hL' : Cells w L (l.map (.int .u64)))
    (l1 : W.length ≤ 9223372036854775807) (l2 : b.length ≤ 9223372036854775807) (l3 : V.length ≤ 9223372036854775807) (l4 : b2.length ≤ 9223372036854775807) (lx : x.length ≤ 9223372036854775807) (ll : l.length ≤ 9223372036854775807)
    (u1 : Ints W) (u2 : I64s b) (u3 : Ints V) (u4 : I64s b2) (ux : I64s x) (ul : U64s l) :
    Calls Try.prog 10 #[pval p, mval A W.length c B b.length d, mval A2 V.length c2 B2 b2.length d2, .slice X x.length ex, .slice L l.length el] w fun e w' => e = .returned (.bool true) ∧ Below w.heap.size w w' := by
  go_enter Try.func10, Try.ntmps10
  go_wp2_with (fail)
  have hbb := ((below_alloc w (.cells (pcells p).toArray 40)).alloc (by simp) (.cells #[.slice A W.length c, .slice B b.length d] 44)).alloc (by simp; omega) (.cells #[.slice A2 V.length c2, .slice B2 b2.length d2] 44)
  have S0 : Tl p A W c B b d A2 V c2 B2 b2 d2 X L x l w.heap.size w (((w.alloc (.cells (pcells p).toArray 40)).alloc (.cells #[.slice A W.length c, .slice B b.length d] 44)).alloc (.cells #[.slice A2 V.length c2, .slice B2 b2.length d2] 44)) := by
    refine ⟨((row1_new w (pcells p) 40).alloc _).alloc _, ?_, ?_, hA.below hbb, hB.below hbb, hA2.below hbb, hB2.below hbb, hX.below hbb, hL'.below hbb, hbb⟩
    · exact (row1_at (w.alloc (.cells (pcells p).toArray 40)) [.slice A W.length c, .slice B b.length d] 44 (w.heap.size + 1) (by simp)).alloc _
    · exact row1_at _ [.slice A2 V.length c2, .slice B2 b2.length d2] 44 (w.heap.size + 1 + 1) (by simp)
  refine (large_c _ _ _ _ _ _ _ S0.A l1 l2).mono ?_
  rintro e w1 ⟨rfl, hb3⟩
  have S1 := S0.below hb3
  clear S0 hbb hA hB hA2 hB2 hX hL' hb3
  obtain ⟨q0, q1, q2, q3, q4, q5, q6, q7, q8, q9, q10, q11⟩ := pars_at S1.P
  have m0 := S1.M.cell (k := 0) rfl
  have m1 := S1.M.cell (k := 1) rfl
  have o0 := S1.O.cell (k := 0) rfl
  have o1 := S1.O.cell (k := 1) rfl
  cases hL : largeB W b with
  | true =>
    go_wp2_with (fail)
    refine (awake07_c _).mono ?_
    rintro e w9 ⟨rfl, hb9⟩
    go_wp2
    go_ret
    exact ⟨rfl, (S1.below hb9).b⟩
  | false =>
  go_wp2_with (fail)
  refine (large_c _ _ _ _ _ _ _ S1.A2 l3 l4).mono ?_
  rintro e w2 ⟨rfl, hb4⟩
  have S2 := S1.below hb4
  clear q0 q1 q2 q3 q4 q5 q6 q7 q8 q9 q10 q11 m0 m1 o0 o1
  obtain ⟨q0, q1, q2, q3, q4, q5, q6, q7, q8, q9, q10, q11⟩ := pars_at S2.P
  have m0 := S2.M.cell (k := 0) rfl
  have m1 := S2.M.cell (k := 1) rfl
  have o0 := S2.O.cell (k := 0) rfl
  have o1 := S2.O.cell (k := 1) rfl
  clear S1 hb4
  cases hL2 : largeB V b2 with
  | true =>
    go_wp2_with (fail)
    refine (awake07_c _).mono ?_
    rintro e w9 ⟨rfl, hb9⟩
    go_wp2
    go_ret
    exact ⟨rfl, (S2.below hb9).b⟩
  | false =>
  cases hx40 : decide ((x.length : Int) > 40) with
  | true =>
    go_wp2_with (fail)
    refine (awake07_c _).mono ?_
    rintro e w9 ⟨rfl, hb9⟩
    go_wp2
    go_ret
    exact ⟨rfl, (S2.below hb9).b⟩
  | false =>
  cases hl60 : decide ((l.length : Int) > 60) with
  | true =>
    go_wp2_with (fail)
    refine (awake07_c _).mono ?_
    rintro e w9 ⟨rfl, hb9⟩
    go_wp2
    go_ret
    exact ⟨rfl, (S2.below hb9).b⟩
  | false =>
  obtain ⟨n1, n2, n3⟩ := largeB_no hL
  obtain ⟨n4, n5, n6⟩ := largeB_no hL2
  have nx : x.length ≤ 40 := by simp at hx40; omega
  have nl : l.length ≤ 60 := by simp at hl60; omega
  clear hL hL2
  go_wp2_with (fail)
  refine (copied_c _ _ _ _ _ _ _ S2.A S2.B n1 n2 n3).mono ?_
  rintro e w3 ⟨CA, cc, CB, cd, rfl, hCA, hCB, hb5⟩
  clear hx40 hl60
  have S3 := S2.below hb5
  clear q0 q1 q2 q3 q4 q5 q6 q7 q8 q9 q10 q11 m0 m1 o0 o1
  clear S2 hb5
  go_wp2_with (first
    | (at_builtin; refine wpList_fresh elt_i64 (w3.alloc _) rfl _ _ rfl rfl (S3.X.below (below_alloc _ _)) (by simp; rfl) (fun u hu => by simp only [List.mem_map] at hu; obtain ⟨z, _, rfl⟩ := hu; rfl) (by simp; omega) (by simp; omega) ?_; intro vy w4 hy hb6; obtain ⟨Y, ey, rfl, hcy, _⟩ := hy.form; rw [List.length_map])
    | (at_builtin; refine wpList_fresh elt_u64 (w4.alloc _) rfl _ _ rfl rfl (((S3.below (below_alloc_next hb6)).L).below (below_alloc _ _)) (by simp; rfl) (fun u hu => by simp only [List.mem_map] at hu; obtain ⟨z, _, rfl⟩ := hu; rfl) (by simp; omega) (by simp; omega) ?_; intro vn w5 hn hb7; obtain ⟨N, en, rfl, hcn, _⟩ := hn.form; rw [List.length_map]))
  have hb8 := below_alloc_next hb6
  have hb9 := below_alloc_next hb7
  have S6 := ((S3.below hb8).below hb9).below (below_alloc w5 (.cells #[.slice CA W.length cc, .slice CB b.length cd] 44))
  have T6 : Tc CA W cc CB b cd Y N x l w5.heap.size (w5.alloc (.cells #[.slice CA W.length cc, .slice CB b.length cd] 44)) :=
    ⟨row1_new w5 [.slice CA W.length cc, .slice CB b.length cd] 44, ((hCA.below hb8).below hb9).below (below_alloc _ _), ((hCB.below hb8).below hb9).below (below_alloc _ _), (hcy.below hb9).below (below_alloc _ _), hcn.below (below_alloc _ _)⟩
  generalize w5.alloc (.cells #[.slice CA W.length cc, .slice CB b.length cd] 44) = V0 at *
  obtain ⟨gc, hgc⟩ : ∃ g, w5.heap.size = g := ⟨_, rfl⟩
  rw [hgc] at T6 ⊢
  clear S3 hb6 hb7 hb8 hb9 hCA hCB hcy hcn hy hn hgc
  go_loopw [14, 15, 16, 17, 18, 20, 21, 22] (fun i _ _ _ _ _ _ _ wr => ∃ k : Nat, i = .int .i64 k ∧ k ≤ 2 ∧ Below V0.heap.size V0 wr) (fun i _ _ _ _ _ _ _ _ => 2 - (intOf i).toNat)
  case atStart => exact ⟨0, rfl, by omega, Below.refl _ _⟩
  case round =>
    obtain ⟨k, rfl, hk, hbk⟩ := hrel
    have S7 := S6.below hbk
    have T7 := T6.below hbk
    by_cases hlt : k < 2
    · go_wp2
      refine Rg.wp_region (l := [_, _, _, _, _, _, _, _, _, _, _, _, _, _]) (tail := [_, _, _, _]) (Rg.grows _ 18) [some 52, some 53, some 54, some 55, some 56, some 57, some 58, some 59, some 60, some 61, some 62, some 63, some 64, some 65, some 15, some 16, some 17, some 18] 169 (by kernel_rfl) (by kernel_rfl) (by kernel_rfl) rfl (Rg.grows_fair _ _) (Rg.keep_drew _) (trivial) ?_
      refine Rg.op_is (pval p) [] rfl rfl (by kernel_rfl) ?_ ?_
      · intro wx hb
        refine Rg.from_nil fun T hT => ?_
        obtain ⟨q0, q1, q2, q3, q4, q5, q6, q7, q8, q9, q10, q11⟩ := pars_at (S7.below hb).P
        go_wp2
        exact hT _ _ rfl (by first | exact Rg.Keep.refl _ | exact below_of_dr hw2 | exact hw2 | exact (Below.refl _ _).alloc (Nat.le_refl _) _) (by first | rfl | exact congrArg _ (by decide))
      refine Rg.op_is (mval CA W.length cc CB b.length cd) [] rfl rfl (by kernel_rfl) ?_ ?_
      · intro wx hb
        refine Rg.from_nil fun T hT => ?_
        have m0 := (T7.below hb).C.cell (k := 0) rfl
        have m1 := (T7.below hb).C.cell (k := 1) rfl
        go_wp2
        exact hT _ _ rfl (by first | exact Rg.Keep.refl _ | exact below_of_dr hw2 | exact hw2 | exact (Below.refl _ _).alloc (Nat.le_refl _) _) (by first | rfl | exact congrArg _ (by decide))
      refine Rg.op_of (fun w' v => Own w' wr.heap.size 23 v ((secretsS p W b).map (.int .u64))) [0, 1] rfl ?_ ?_ rfl (by kernel_rfl) ?_ ?_
      · exact fun w1 w2 v hk h => h.below hk
      · exact fun w1 w2 v hk h => h.below hk
      · intro wx hb
        refine Rg.from_is (some 52) rfl rfl ?_
        refine Rg.from_is (some 53) rfl rfl ?_
        refine Rg.from_nil fun T hT => ?_
        go_wp2_with (fail)
        refine (fsecrets_c p hp _ _ _ _ _ _ _ (T7.below hb).CA (T7.below hb).CB l1 l2 u1 u2).mono ?_
        rintro e w8 ⟨v, rfl, hown, hw8⟩
        have hrv := hown.from_ hb.size
        clear hown
        go_wp2
        exact hT _ _ rfl hw8 hrv
      refine Rg.op_is (pval p) [] rfl rfl (by kernel_rfl) ?_ ?_
      · intro wx hb
        refine Rg.from_nil fun T hT => ?_
        obtain ⟨q0, q1, q2, q3, q4, q5, q6, q7, q8, q9, q10, q11⟩ := pars_at (S7.below hb).P
        go_wp2
        exact hT _ _ rfl (by first | exact Rg.Keep.refl _ | exact below_of_dr hw2 | exact hw2 | exact (Below.refl _ _).alloc (Nat.le_refl _) _) (by first | rfl | exact congrArg _ (by decide))
      refine' Rg.op_is _ [] rfl rfl (by kernel_rfl) ?_ ?_
      rotate_left
      · intro wx hb
        refine Rg.from_nil fun T hT => ?_
        go_wp2
        refine hT _ _ rfl (by first | exact Rg.Keep.refl _ | exact below_of_dr hw2 | exact hw2 | exact (Below.refl _ _).alloc (Nat.le_refl _) _) ?_
        simp only [Rg.last, List.getElem?_toArray, List.getElem?_cons_succ, List.getElem?_cons_zero, Option.getD_some]
        rfl
      refine Rg.op_of (fun w' v => Own w' wr.heap.size 23 v ((rowS p x).map (.int .u64))) [3, 4] rfl ?_ ?_ rfl (by kernel_rfl) ?_ ?_
      · exact fun w1 w2 v hk h => h.below hk
      · exact fun w1 w2 v hk h => h.below hk
      · intro wx hb
        refine Rg.from_is (some 55) rfl rfl ?_
        refine Rg.from_is (some 56) rfl rfl ?_
        refine Rg.from_nil fun T hT => ?_
        go_wp2_with (fail)
        refine (frow_c p hp _ _ _ _ (T7.below hb).Y (by omega) ux).mono ?_
        rintro e w8 ⟨v, rfl, hown, hw8⟩
        have hrv := hown.from_ hb.size
        clear hown
        go_wp2
        exact hT _ _ rfl hw8 hrv
      refine Rg.op_is (pval p) [] rfl rfl (by kernel_rfl) ?_ ?_
      · intro wx hb
        refine Rg.from_nil fun T hT => ?_
        obtain ⟨q0, q1, q2, q3, q4, q5, q6, q7, q8, q9, q10, q11⟩ := pars_at (S7.below hb).P
        go_wp2
        exact hT _ _ rfl (by first | exact Rg.Keep.refl _ | exact below_of_dr hw2 | exact hw2 | exact (Below.refl _ _).alloc (Nat.le_refl _) _) (by first | rfl | exact congrArg _ (by decide))
      refine' Rg.op_is _ [] rfl rfl (by kernel_rfl) ?_ ?_
      rotate_left
      · intro wx hb
        refine Rg.from_nil fun T hT => ?_
        go_wp2
        refine hT _ _ rfl (by first | exact Rg.Keep.refl _ | exact below_of_dr hw2 | exact hw2 | exact (Below.refl _ _).alloc (Nat.le_refl _) _) ?_
        simp only [Rg.last, List.getElem?_toArray, List.getElem?_cons_succ, List.getElem?_cons_zero, Option.getD_some]
        rfl
      refine' Rg.op_is _ [] rfl rfl (by kernel_rfl) ?_ ?_
      rotate_left
      · intro wx hb
        refine Rg.from_nil fun T hT => ?_
        go_wp2
        refine hT _ _ rfl (by first | exact Rg.Keep.refl _ | exact below_of_dr hw2 | exact hw2 | exact (Below.refl _ _).alloc (Nat.le_refl _) _) ?_
        simp only [Rg.last, List.getElem?_toArray, List.getElem?_cons_succ, List.getElem?_cons_zero, Option.getD_some]
        rfl
      refine Rg.op_of (fun w' v => Own w' wr.heap.size 23 v ((dotS p l x).map (.int .u64))) [6, 7, 8] rfl ?_ ?_ rfl (by kernel_rfl) ?_ ?_
      · exact fun w1 w2 v hk h => h.below hk
      · exact fun w1 w2 v hk h => h.below hk
      · intro wx hb
        refine Rg.from_is (some 58) rfl rfl ?_
        refine Rg.from_is (some 59) rfl rfl ?_
        refine Rg.from_is (some 60) rfl rfl ?_
        refine Rg.from_nil fun T hT => ?_
        go_wp2_with (fail)
        refine (fdot_c p hp _ _ _ _ _ _ _ (T7.below hb).N (T7.below hb).Y ll (by omega) ul ux).mono ?_
        rintro e w8 ⟨v, rfl, hown, hw8⟩
        have hrv := hown.from_ hb.size
        clear hown
        go_wp2
        exact hT _ _ rfl hw8 hrv
      refine Rg.op_is (pval p) [] rfl rfl (by kernel_rfl) ?_ ?_
      · intro wx hb
        refine Rg.from_nil fun T hT => ?_
        obtain ⟨q0, q1, q2, q3, q4, q5, q6, q7, q8, q9, q10, q11⟩ := pars_at (S7.below hb).P
        go_wp2
        exact hT _ _ rfl (by first | exact Rg.Keep.refl _ | exact below_of_dr hw2 | exact hw2 | exact (Below.refl _ _).alloc (Nat.le_refl _) _) (by first | rfl | exact congrArg _ (by decide))
      refine Rg.op_is (mval CA W.length cc CB b.length cd) [] rfl rfl (by kernel_rfl) ?_ ?_
      · intro wx hb
        refine Rg.from_nil fun T hT => ?_
        have m0 := (T7.below hb).C.cell (k := 0) rfl
        have m1 := (T7.below hb).C.cell (k := 1) rfl
        go_wp2
        exact hT _ _ rfl (by first | exact Rg.Keep.refl _ | exact below_of_dr hw2 | exact hw2 | exact (Below.refl _ _).alloc (Nat.le_refl _) _) (by first | rfl | exact congrArg _ (by decide))
      refine' Rg.op_is _ [] rfl rfl (by kernel_rfl) ?_ ?_
      rotate_left
      · intro wx hb
        refine Rg.from_nil fun T hT => ?_
        go_wp2
        refine hT _ _ rfl (by first | exact Rg.Keep.refl _ | exact below_of_dr hw2 | exact hw2 | exact (Below.refl _ _).alloc (Nat.le_refl _) _) ?_
        simp only [Rg.last, List.getElem?_toArray, List.getElem?_cons_succ, List.getElem?_cons_zero, Option.getD_some]
        rfl
      refine Rg.op_of (fun w' v => Own w' wr.heap.size 2 v ((scoresS p W b x).map (.int .i64))) [10, 11, 12] rfl ?_ ?_ rfl (by kernel_rfl) ?_ ?_
      · exact fun w1 w2 v hk h => h.below hk
      · exact fun w1 w2 v hk h => h.below hk
      · intro wx hb
        refine Rg.from_is (some 62) rfl rfl ?_
        refine Rg.from_is (some 63) rfl rfl ?_
        refine Rg.from_is (some 64) rfl rfl ?_
        refine Rg.from_nil fun T hT => ?_
        go_wp2_with (fail)
        refine (fscores_c p _ _ _ _ _ _ _ _ _ _ (T7.below hb).CA (T7.below hb).CB (T7.below hb).Y l1 (by omega) lx u1 u2 ux).mono ?_
        rintro e w8 ⟨v, rfl, hown, hw8⟩
        have hrv := hown.from_ hb.size
        clear hown
        go_wp2
        exact hT _ _ rfl hw8 hrv
      refine Rg.walk_nil [0, 1, 2, 3, 4, 5, 6, 7, 8, 9, 10, 11, 12, 13] (by kernel_rfl) ?_
      intro wx hb
      refine Rg.from_is (some 52) rfl rfl ?_
      refine Rg.from_is (some 53) rfl rfl ?_
      refine Rg.from_of (some 54) rfl rfl fun v54 h54 => ?_
      refine Rg.from_is (some 55) rfl rfl ?_
      refine Rg.from_is (some 56) rfl rfl ?_
      refine Rg.from_of (some 57) rfl rfl fun v57 h57 => ?_
      refine Rg.from_is (some 58) rfl rfl ?_
      refine Rg.from_is (some 59) rfl rfl ?_
      refine Rg.from_is (some 60) rfl rfl ?_
      refine Rg.from_of (some 61) rfl rfl fun v61 h61 => ?_
      refine Rg.from_is (some 62) rfl rfl ?_
      refine Rg.from_is (some 63) rfl rfl ?_
      refine Rg.from_is (some 64) rfl rfl ?_
      refine Rg.from_of (some 65) rfl rfl fun v65 h65 => ?_
      refine Rg.from_nil ?_
      simp only [List.map, Act.put, List.setIfInBounds_toArray, List.set_cons_zero, List.set_cons_succ]
      have k54 := h54.len_le
      have k57 := h57.len_le
      have k61 := h61.len_le
      have k65 := h65.len_le
      rw [List.length_map] at k54 k57 k61 k65
      have hFo : Fo wr.heap.size v54 v57 v61 v65 _ _ _ _ wx := ⟨h54.writ, h57.writ, h61.writ, h65.writ⟩
      obtain ⟨Aa, ca, rfl, hca⟩ := h54.form
      obtain ⟨Ab, cb, rfl, hcb⟩ := h57.form
      obtain ⟨Ad, cd', rfl, hcd⟩ := h61.form
      obtain ⟨Ae, ce, rfl, hce⟩ := h65.form
      rw [List.length_map, List.length_map, List.length_map, List.length_map] at hFo
      rw [List.length_map, List.length_map, List.length_map, List.length_map]
      have S8 := S7.below hb
      clear h54 h57 h61 h65
      obtain ⟨q0, q1, q2, q3, q4, q5, q6, q7, q8, q9, q10, q11⟩ := pars_at S8.P
      have m0 := S8.M.cell (k := 0) rfl
      have m1 := S8.M.cell (k := 1) rfl
      have o0 := S8.O.cell (k := 0) rfl
      have o1 := S8.O.cell (k := 1) rfl
      go_wp2_with (fail)
      refine (rsecrets_c p hp _ _ _ _ _ _ _ S8.A S8.B l1 l2 u1 u2).mono ?_
      rintro e w9 ⟨v9, rfl, ho9, hb9⟩
      clear q0 q1 q2 q3 q4 q5 q6 q7 q8 q9 q10 q11 m0 m1 o0 o1
      obtain ⟨A9, c9, rfl, hc9⟩ := ho9.form
      rw [List.length_map]
      have S9 := S8.below hb9
      go_wp2_with (fail)
      refine (numbers_c Aa A9 _ _ ca c9 _ (hca.below hb9) hc9 k54 k54).mono ?_
      rintro e w10 ⟨rfl, hw10⟩
      rw [decide_eq_true (rfl : secretsS p W b = secretsS p W b)]
      have b10 := hb9.trans (below_of_dr (B := wx.heap.size) hw10)
      have S10 := S8.below b10
      clear S9 ho9 hc9 hb9 hw10
      obtain ⟨q0, q1, q2, q3, q4, q5, q6, q7, q8, q9, q10, q11⟩ := pars_at S10.P
      have m0 := S10.M.cell (k := 0) rfl
      have m1 := S10.M.cell (k := 1) rfl
      have o0 := S10.O.cell (k := 0) rfl
      have o1 := S10.O.cell (k := 1) rfl
      go_wp2_with (fail)
      refine (rrow_c p hp _ _ _ _ S10.X lx ux).mono ?_
      rintro e w11 ⟨v11, rfl, ho11, hb11⟩
      clear q0 q1 q2 q3 q4 q5 q6 q7 q8 q9 q10 q11 m0 m1 o0 o1
      obtain ⟨A11, c11, rfl, hc11⟩ := ho11.form
      rw [List.length_map]
      have b11 := below_next b10 b10.size hb11
      go_wp2_with (fail)
      refine (numbers_c Ab A11 _ _ cb c11 _ (hcb.below b11) hc11 k57 k57).mono ?_
      rintro e w12 ⟨rfl, hw12⟩
      rw [decide_eq_true (rfl : rowS p x = rowS p x)]
      have b12 := below_dr b11 hw12
      have S12 := S8.below b12
      clear S10 ho11 hc11 hb11 hw12 b10 b11
      obtain ⟨q0, q1, q2, q3, q4, q5, q6, q7, q8, q9, q10, q11⟩ := pars_at S12.P
      have m0 := S12.M.cell (k := 0) rfl
      have m1 := S12.M.cell (k := 1) rfl
      have o0 := S12.O.cell (k := 0) rfl
      have o1 := S12.O.cell (k := 1) rfl
      go_wp2_with (fail)
      refine (rdot_c p hp _ _ _ _ _ _ _ S12.L S12.X ll lx ul ux).mono ?_
      rintro e w13 ⟨v13, rfl, ho13, hb13⟩
      clear q0 q1 q2 q3 q4 q5 q6 q7 q8 q9 q10 q11 m0 m1 o0 o1
      obtain ⟨A13, c13, rfl, hc13⟩ := ho13.form
      rw [List.length_map]
      have b13 := below_next b12 b12.size hb13
      go_wp2_with (fail)
      refine (numbers_c Ad A13 _ _ cd' c13 _ (hcd.below b13) hc13 k61 k61).mono ?_
      rintro e w14 ⟨rfl, hw14⟩
      rw [decide_eq_true (rfl : dotS p l x = dotS p l x)]
      have b14 := below_dr b13 hw14
      have S14 := S8.below b14
      clear S12 ho13 hc13 hb13 hw14 b12 b13
      obtain ⟨q0, q1, q2, q3, q4, q5, q6, q7, q8, q9, q10, q11⟩ := pars_at S14.P
      have m0 := S14.M.cell (k := 0) rfl
      have m1 := S14.M.cell (k := 1) rfl
      have o0 := S14.O.cell (k := 0) rfl
      have o1 := S14.O.cell (k := 1) rfl
      go_wp2_with (fail)
      refine (rscores_c p _ _ _ _ _ _ _ _ _ _ S14.A S14.B S14.X l1 l2 lx u1 u2 ux).mono ?_
      rintro e w15 ⟨v15, rfl, ho15, hb15⟩
      clear q0 q1 q2 q3 q4 q5 q6 q7 q8 q9 q10 q11 m0 m1 o0 o1
      obtain ⟨A15, c15, rfl, hc15⟩ := ho15.form
      rw [List.length_map]
      have b15 := below_next b14 b14.size hb15
      go_wp2_with (fail)
      refine (ints_c Ae A15 _ _ ce c15 _ (hce.below b15) hc15 k65 k65).mono ?_
      rintro e w16 ⟨rfl, hw16⟩
      rw [decide_eq_true (rfl : scoresS p W b x = scoresS p W b x)]
      have b16 := below_dr b15 hw16
      have hF16 := hFo.below b16
      have hbw := below_next (Below.mono hb (Nat.le_refl _)) hb.size b16
      clear S14 ho15 hc15 hb15 hw16 b14 b15 b16 hb hFo S8 S7 T7 hca hcb hcd hce
      generalize (secretsS p W b).length = na at *
      generalize (rowS p x).length = nb at *
      generalize (dotS p l x).length = nd at *
      generalize (scoresS p W b x).length = ne at *
      go_wp2
      have hr := row1_new w16 [.slice Aa na ca, .slice Ab nb cb, .slice Ad nd cd'] 26
      have hF17 := hF16.below (below_alloc w16 (.cells #[.slice Aa na ca, .slice Ab nb cb, .slice Ad nd cd'] 26))
      have hbw17 := below_next hbw hbw.size (below_alloc w16 (.cells #[.slice Aa na ca, .slice Ab nb cb, .slice Ad nd cd'] 26))
      simp only [List.toArray] at hr
      generalize w16.alloc (.cells #[.slice Aa na ca, .slice Ab nb cb, .slice Ad nd cd'] 26) = w17 at *
      obtain ⟨gk, hgk⟩ : ∃ g, w16.heap.size = g := ⟨_, rfl⟩
      rw [hgk] at hr ⊢
      clear hbw hF16 hgk
      generalize wr = wo at *
      go_loopw [20, 21, 103] (fun _ _ i w6 => ∃ j : Nat, i = .int .i64 j ∧ j ≤ 3 ∧ Row1 w6 gk 26 [.slice Aa na ca, .slice Ab nb cb, .slice Ad nd cd'] ∧ Fo wo.heap.size (.slice Aa na ca) (.slice Ab nb cb) (.slice Ad nd cd') (.slice Ae ne ce) na nb nd ne w6 ∧ Below wo.heap.size wo w6) (fun _ _ i _ => 3 - (intOf i).toNat)
      case atStart => exact ⟨0, rfl, by omega, hr, hF17, hbw17⟩
      case round =>
        obtain ⟨j, rfl, hj, hrr, hFo, hbo⟩ := hrel
        clear hr hF17 hbw17
        by_cases hlt2 : j < 3
        · obtain ⟨Au, nu, cu, hv1, hv2⟩ : ∃ Au nu cu, [Value.slice Aa na ca, Value.slice Ab nb cb, Value.slice Ad nd cd'][j]? = some (.slice Au nu cu) ∧ [na, nb, nd][j]? = some nu := by
            match j, hlt2 with
            | 0, _ => exact ⟨Aa, na, ca, rfl, rfl⟩
            | 1, _ => exact ⟨Ab, nb, cb, rfl, rfl⟩
            | 2, _ => exact ⟨Ad, nd, cd', rfl, rfl⟩
          obtain ⟨_, _, _, hnu⟩ := (hFo.at_ hv1 hv2).form
          have hcell := hrr.cell hv1
          have HV := hid (⟨hv1, hv2⟩ : _ ∧ _)
          clear hv1 hv2
          go_wp2
          generalize wr = wq at *
          clear hcell
          go_loopw [21] (fun i w6 => ∃ i' : Nat, i = .int .i64 i' ∧ i' ≤ nu ∧ Row1 w6 gk 26 [.slice Aa na ca, .slice Ab nb cb, .slice Ad nd cd'] ∧ Fo wo.heap.size (.slice Aa na ca) (.slice Ab nb cb) (.slice Ad nd cd') (.slice Ae ne ce) na nb nd ne w6 ∧ Below wo.heap.size wo w6) (fun i _ => nu - (intOf i).toNat)
          case atStart => exact ⟨0, rfl, by omega, hrr, hFo, hbo⟩
          case round =>
            obtain ⟨i, rfl, hi, hrr2, hFo2, hbo2⟩ := hrel
            by_cases hlt3 : i < nu
            · obtain ⟨g, cap, u0, he, hg1, hg2, hg3, hg4, ar, hg5⟩ := (hFo2.at_ HV.out.1 HV.out.2).at_ hlt3
              simp only [Value.slice.injEq, true_and] at he
              obtain ⟨rfl, rfl⟩ := he
              have hne := writ_far hrr2 hg5 (by decide)
              have hFo3 := hFo2.set g i (.int .u64 77)
              have hrr3 := hrr2.far (p := ⟨g, i, none⟩) hne (.int .u64 77)
              have hbo3 := hbo2.setCell (p := ⟨g, i, none⟩) hg1 (.int .u64 77)
              clear hFo2 hrr2 hbo2 hg5
              go_wp2
              go_roundw
              case rel => exact ⟨i + 1, by go_num, by omega, hrr3, hFo3, hbo3⟩
              case measure => simp [intOf]; omega
            · obtain rfl : i = nu := by omega
              go_wp2
              go_roundw
              case rel => exact ⟨j + 1, by go_num, by omega, hrr2, hFo2, hbo2⟩
              case measure => simp [intOf]; omega
        · obtain rfl : j = 3 := by omega
          clear hrr
          go_wp2
          generalize wr = wq at *
          go_loopw [22] (fun i w6 => ∃ i' : Nat, i = .int .i64 i' ∧ i' ≤ ne ∧ Fo wo.heap.size (.slice Aa na ca) (.slice Ab nb cb) (.slice Ad nd cd') (.slice Ae ne ce) na nb nd ne w6 ∧ Below wo.heap.size wo w6) (fun i _ => ne - (intOf i).toNat)
          case atStart => exact ⟨0, rfl, by omega, hFo, hbo⟩
          case round =>
            obtain ⟨i, rfl, hi, hFo2, hbo2⟩ := hrel
            by_cases hlt3 : i < ne
            · obtain ⟨g, cap, u0, he, hg1, hg2, hg3, hg4, ar, hg5⟩ := hFo2.e.at_ hlt3
              simp only [Value.slice.injEq, true_and] at he
              obtain ⟨rfl, rfl⟩ := he
              have hFo3 := hFo2.set g i (.int .i64 (-77))
              have hbo3 := hbo2.setCell (p := ⟨g, i, none⟩) hg1 (.int .i64 (-77))
              clear hFo2 hbo2 hg5
              go_wp2
              go_roundw
              case rel => exact ⟨i + 1, by go_num, by omega, hFo3, hbo3⟩
              case measure => simp [intOf]; omega
            · obtain rfl : i = ne := by omega
              go_wp2
              go_roundw
              case rel => exact ⟨k + 1, by go_num, by omega, below_next hbk hbk.size hbo2⟩
              case measure => simp [intOf]; omega
    · obtain rfl : k = 2 := by omega
      go_wp2
      refine Rg.wp_region (l := [_, _, _, _, _, _, _, _, _, _, _, _, _, _, _, _, _, _, _, _, _, _, _, _, _, _, _, _, _, _, _, _, _, _, _, _, _, _, _, _, _, _, _]) (tail := [_]) (Rg.grows _ 44) [some 126, some 127, some 128, some 129, some 130, some 131, some 132, some 133, some 134, some 135, some 136, some 137, some 138, some 139, some 140, some 141, some 142, some 143, some 144, some 145, some 146, some 147, some 148, some 149, some 150, some 151, some 152, some 153, some 154, some 155, some 156, some 157, some 158, some 159, some 160, some 161, some 162, some 163, some 164, some 165, some 166, some 167, some 168, some 10] 169 (by kernel_rfl) (by kernel_rfl) (by kernel_rfl) rfl (Rg.grows_fair _ _) (Rg.keep_drew _) (trivial) ?_
      refine Rg.op_is (pval p) [] rfl rfl (by kernel_rfl) ?_ ?_
      · intro wx hb
        refine Rg.from_nil fun T hT => ?_
        obtain ⟨q0, q1, q2, q3, q4, q5, q6, q7, q8, q9, q10, q11⟩ := pars_at (S7.below hb).P
        go_wp2
        exact hT _ _ rfl (by first | exact Rg.Keep.refl _ | exact below_of_dr hw2 | exact hw2 | exact (Below.refl _ _).alloc (Nat.le_refl _) _) (by first | rfl | exact congrArg _ (by decide))
      refine Rg.op_is (mval CA W.length cc CB b.length cd) [] rfl rfl (by kernel_rfl) ?_ ?_
      · intro wx hb
        refine Rg.from_nil fun T hT => ?_
        have m0 := (T7.below hb).C.cell (k := 0) rfl
        have m1 := (T7.below hb).C.cell (k := 1) rfl
        go_wp2
        exact hT _ _ rfl (by first | exact Rg.Keep.refl _ | exact below_of_dr hw2 | exact hw2 | exact (Below.refl _ _).alloc (Nat.le_refl _) _) (by first | rfl | exact congrArg _ (by decide))
      refine Rg.op_is (.bool (mayB p W b)) [0, 1] rfl rfl (by kernel_rfl) ?_ ?_
      · intro wx hb
        refine Rg.from_is (some 126) rfl rfl ?_
        refine Rg.from_is (some 127) rfl rfl ?_
        refine Rg.from_nil fun T hT => ?_
        go_wp2_with (go_at_call 36; refine (fmay_c p _ _ _ _ _ _ _ (T7.below hb).CA (T7.below hb).CB l1 l2 u1 u2).mono ?_; rintro e w8 ⟨rfl, hw8⟩)
        exact hT _ _ rfl hw8 rfl
      refine Rg.op_is (pval p) [] rfl rfl (by kernel_rfl) ?_ ?_
      · intro wx hb
        refine Rg.from_nil fun T hT => ?_
        obtain ⟨q0, q1, q2, q3, q4, q5, q6, q7, q8, q9, q10, q11⟩ := pars_at (S7.below hb).P
        go_wp2
        exact hT _ _ rfl (by first | exact Rg.Keep.refl _ | exact below_of_dr hw2 | exact hw2 | exact (Below.refl _ _).alloc (Nat.le_refl _) _) (by first | rfl | exact congrArg _ (by decide))
      refine Rg.op_is (mval A W.length c B b.length d) [] rfl rfl (by kernel_rfl) ?_ ?_
      · intro wx hb
        refine Rg.from_nil fun T hT => ?_
        have m0 := (S7.below hb).M.cell (k := 0) rfl
        have m1 := (S7.below hb).M.cell (k := 1) rfl
        go_wp2
        exact hT _ _ rfl (by first | exact Rg.Keep.refl _ | exact below_of_dr hw2 | exact hw2 | exact (Below.refl _ _).alloc (Nat.le_refl _) _) (by first | rfl | exact congrArg _ (by decide))
      refine Rg.op_is (.bool (mayB p W b)) [3, 4] rfl rfl (by kernel_rfl) ?_ ?_
      · intro wx hb
        refine Rg.from_is (some 129) rfl rfl ?_
        refine Rg.from_is (some 130) rfl rfl ?_
        refine Rg.from_nil fun T hT => ?_
        go_wp2_with (go_at_call 51; refine (rmay_c p _ _ _ _ _ _ _ (S7.below hb).A (S7.below hb).B l1 l2 u1 u2).mono ?_; rintro e w8 ⟨rfl, hw8⟩)
        exact hT _ _ rfl hw8 rfl
      refine Rg.op_is (.bool true) [2, 5] rfl rfl (by kernel_rfl) ?_ ?_
      · intro wx hb
        refine Rg.from_is (some 128) rfl rfl ?_
        refine Rg.from_is (some 131) rfl rfl ?_
        refine Rg.from_nil fun T hT => ?_
        go_wp2
        exact hT _ _ rfl (by first | exact Rg.Keep.refl _ | exact below_of_dr hw2 | exact hw2 | exact (Below.refl _ _).alloc (Nat.le_refl _) _) (by first | rfl | exact congrArg _ (by decide))
      refine Rg.op_is (.bool true) [6] rfl rfl (by kernel_rfl) ?_ ?_
      · intro wx hb
        refine Rg.from_is (some 132) rfl rfl ?_
        refine Rg.from_nil fun T hT => ?_
        go_wp2
        exact hT _ _ rfl (by first | exact Rg.Keep.refl _ | exact below_of_dr hw2 | exact hw2 | exact (Below.refl _ _).alloc (Nat.le_refl _) _) (by first | rfl | exact congrArg _ (by decide))
      refine Rg.op_is (pval p) [] rfl rfl (by kernel_rfl) ?_ ?_
      · intro wx hb
        refine Rg.from_nil fun T hT => ?_
        obtain ⟨q0, q1, q2, q3, q4, q5, q6, q7, q8, q9, q10, q11⟩ := pars_at (S7.below hb).P
        go_wp2
        exact hT _ _ rfl (by first | exact Rg.Keep.refl _ | exact below_of_dr hw2 | exact hw2 | exact (Below.refl _ _).alloc (Nat.le_refl _) _) (by first | rfl | exact congrArg _ (by decide))
      refine' Rg.op_is _ [] rfl rfl (by kernel_rfl) ?_ ?_
      rotate_left
      · intro wx hb
        refine Rg.from_nil fun T hT => ?_
        go_wp2
        refine hT _ _ rfl (by first | exact Rg.Keep.refl _ | exact below_of_dr hw2 | exact hw2 | exact (Below.refl _ _).alloc (Nat.le_refl _) _) ?_
        simp only [Rg.last, List.getElem?_toArray, List.getElem?_cons_succ, List.getElem?_cons_zero, Option.getD_some]
        rfl
      refine Rg.op_is (.int .i64 (queryE p x)) [8, 9] rfl rfl (by kernel_rfl) ?_ ?_
      · intro wx hb
        refine Rg.from_is (some 134) rfl rfl ?_
        refine Rg.from_is (some 135) rfl rfl ?_
        refine Rg.from_nil fun T hT => ?_
        go_wp2_with (go_at_call 37; refine (query_c p _ _ _ _ (T7.below hb).Y lx ux).mono ?_; rintro e w8 ⟨rfl, hw8⟩)
        exact hT _ _ rfl hw8 rfl
      refine Rg.op_is (pval p) [] rfl rfl (by kernel_rfl) ?_ ?_
      · intro wx hb
        refine Rg.from_nil fun T hT => ?_
        obtain ⟨q0, q1, q2, q3, q4, q5, q6, q7, q8, q9, q10, q11⟩ := pars_at (S7.below hb).P
        go_wp2
        exact hT _ _ rfl (by first | exact Rg.Keep.refl _ | exact below_of_dr hw2 | exact hw2 | exact (Below.refl _ _).alloc (Nat.le_refl _) _) (by first | rfl | exact congrArg _ (by decide))
      refine' Rg.op_is _ [] rfl rfl (by kernel_rfl) ?_ ?_
      rotate_left
      · intro wx hb
        refine Rg.from_nil fun T hT => ?_
        go_wp2
        refine hT _ _ rfl (by first | exact Rg.Keep.refl _ | exact below_of_dr hw2 | exact hw2 | exact (Below.refl _ _).alloc (Nat.le_refl _) _) ?_
        simp only [Rg.last, List.getElem?_toArray, List.getElem?_cons_succ, List.getElem?_cons_zero, Option.getD_some]
        rfl
      refine Rg.op_is (.int .i64 (queryE p x)) [11, 12] rfl rfl (by kernel_rfl) ?_ ?_
      · intro wx hb
        refine Rg.from_is (some 137) rfl rfl ?_
        refine Rg.from_is (some 138) rfl rfl ?_
        refine Rg.from_nil fun T hT => ?_
        go_wp2_with (go_at_call 40; refine (rquery_c p _ _ _ _ (S7.below hb).X lx ux).mono ?_; rintro e w8 ⟨rfl, hw8⟩)
        exact hT _ _ rfl hw8 rfl
      refine Rg.op_is (.bool true) [10, 13] rfl rfl (by kernel_rfl) ?_ ?_
      · intro wx hb
        refine Rg.from_is (some 136) rfl rfl ?_
        refine Rg.from_is (some 139) rfl rfl ?_
        refine Rg.from_nil fun T hT => ?_
        go_wp2
        exact hT _ _ rfl (by first | exact Rg.Keep.refl _ | exact below_of_dr hw2 | exact hw2 | exact (Below.refl _ _).alloc (Nat.le_refl _) _) (by first | rfl | exact congrArg _ (by decide))
      refine Rg.op_is (.bool true) [7, 14] rfl rfl (by kernel_rfl) ?_ ?_
      · intro wx hb
        refine Rg.from_is (some 133) rfl rfl ?_
        refine Rg.from_is (some 140) rfl rfl ?_
        refine Rg.from_nil fun T hT => ?_
        go_wp2
        exact hT _ _ rfl (by first | exact Rg.Keep.refl _ | exact below_of_dr hw2 | exact hw2 | exact (Below.refl _ _).alloc (Nat.le_refl _) _) (by first | rfl | exact congrArg _ (by decide))
      refine Rg.op_is (.bool true) [15] rfl rfl (by kernel_rfl) ?_ ?_
      · intro wx hb
        refine Rg.from_is (some 141) rfl rfl ?_
        refine Rg.from_nil fun T hT => ?_
        go_wp2
        exact hT _ _ rfl (by first | exact Rg.Keep.refl _ | exact below_of_dr hw2 | exact hw2 | exact (Below.refl _ _).alloc (Nat.le_refl _) _) (by first | rfl | exact congrArg _ (by decide))
      refine Rg.op_is (mval CA W.length cc CB b.length cd) [] rfl rfl (by kernel_rfl) ?_ ?_
      · intro wx hb
        refine Rg.from_nil fun T hT => ?_
        have m0 := (T7.below hb).C.cell (k := 0) rfl
        have m1 := (T7.below hb).C.cell (k := 1) rfl
        go_wp2
        exact hT _ _ rfl (by first | exact Rg.Keep.refl _ | exact below_of_dr hw2 | exact hw2 | exact (Below.refl _ _).alloc (Nat.le_refl _) _) (by first | rfl | exact congrArg _ (by decide))
      refine Rg.op_is (mval A2 V.length c2 B2 b2.length d2) [] rfl rfl (by kernel_rfl) ?_ ?_
      · intro wx hb
        refine Rg.from_nil fun T hT => ?_
        have m0 := (S7.below hb).O.cell (k := 0) rfl
        have m1 := (S7.below hb).O.cell (k := 1) rfl
        go_wp2
        exact hT _ _ rfl (by first | exact Rg.Keep.refl _ | exact below_of_dr hw2 | exact hw2 | exact (Below.refl _ _).alloc (Nat.le_refl _) _) (by first | rfl | exact congrArg _ (by decide))
      refine Rg.op_is (.bool (sameB W b V b2)) [17, 18] rfl rfl (by kernel_rfl) ?_ ?_
      · intro wx hb
        refine Rg.from_is (some 143) rfl rfl ?_
        refine Rg.from_is (some 144) rfl rfl ?_
        refine Rg.from_nil fun T hT => ?_
        go_wp2_with (go_at_call 45; refine (fsame_c _ _ _ _ _ _ _ _ _ _ _ _ _ (T7.below hb).CA (T7.below hb).CB (S7.below hb).A2 (S7.below hb).B2 l1 l2 l3 l4).mono ?_; rintro e w8 ⟨rfl, hw8⟩)
        exact hT _ _ rfl hw8 rfl
      refine Rg.op_is (mval A W.length c B b.length d) [] rfl rfl (by kernel_rfl) ?_ ?_
      · intro wx hb
        refine Rg.from_nil fun T hT => ?_
        have m0 := (S7.below hb).M.cell (k := 0) rfl
        have m1 := (S7.below hb).M.cell (k := 1) rfl
        go_wp2
        exact hT _ _ rfl (by first | exact Rg.Keep.refl _ | exact below_of_dr hw2 | exact hw2 | exact (Below.refl _ _).alloc (Nat.le_refl _) _) (by first | rfl | exact congrArg _ (by decide))
      refine Rg.op_is (mval A2 V.length c2 B2 b2.length d2) [] rfl rfl (by kernel_rfl) ?_ ?_
      · intro wx hb
        refine Rg.from_nil fun T hT => ?_
        have m0 := (S7.below hb).O.cell (k := 0) rfl
        have m1 := (S7.below hb).O.cell (k := 1) rfl
        go_wp2
        exact hT _ _ rfl (by first | exact Rg.Keep.refl _ | exact below_of_dr hw2 | exact hw2 | exact (Below.refl _ _).alloc (Nat.le_refl _) _) (by first | rfl | exact congrArg _ (by decide))
      refine Rg.op_is (.bool (sameB W b V b2)) [20, 21] rfl rfl (by kernel_rfl) ?_ ?_
      · intro wx hb
        refine Rg.from_is (some 146) rfl rfl ?_
        refine Rg.from_is (some 147) rfl rfl ?_
        refine Rg.from_nil fun T hT => ?_
        go_wp2_with (go_at_call 52; refine (rsame_c _ _ _ _ _ _ _ _ _ _ _ _ _ (S7.below hb).A (S7.below hb).B (S7.below hb).A2 (S7.below hb).B2 l1 l2 l3 l4).mono ?_; rintro e w8 ⟨rfl, hw8⟩)
        exact hT _ _ rfl hw8 rfl
      refine Rg.op_is (.bool true) [19, 22] rfl rfl (by kernel_rfl) ?_ ?_
      · intro wx hb
        refine Rg.from_is (some 145) rfl rfl ?_
        refine Rg.from_is (some 148) rfl rfl ?_
        refine Rg.from_nil fun T hT => ?_
        go_wp2
        exact hT _ _ rfl (by first | exact Rg.Keep.refl _ | exact below_of_dr hw2 | exact hw2 | exact (Below.refl _ _).alloc (Nat.le_refl _) _) (by first | rfl | exact congrArg _ (by decide))
      refine Rg.op_is (.bool true) [16, 23] rfl rfl (by kernel_rfl) ?_ ?_
      · intro wx hb
        refine Rg.from_is (some 142) rfl rfl ?_
        refine Rg.from_is (some 149) rfl rfl ?_
        refine Rg.from_nil fun T hT => ?_
        go_wp2
        exact hT _ _ rfl (by first | exact Rg.Keep.refl _ | exact below_of_dr hw2 | exact hw2 | exact (Below.refl _ _).alloc (Nat.le_refl _) _) (by first | rfl | exact congrArg _ (by decide))
      refine Rg.op_is (.bool true) [24] rfl rfl (by kernel_rfl) ?_ ?_
      · intro wx hb
        refine Rg.from_is (some 150) rfl rfl ?_
        refine Rg.from_nil fun T hT => ?_
        go_wp2
        exact hT _ _ rfl (by first | exact Rg.Keep.refl _ | exact below_of_dr hw2 | exact hw2 | exact (Below.refl _ _).alloc (Nat.le_refl _) _) (by first | rfl | exact congrArg _ (by decide))
      refine Rg.op_is (mval CA W.length cc CB b.length cd) [] rfl rfl (by kernel_rfl) ?_ ?_
      · intro wx hb
        refine Rg.from_nil fun T hT => ?_
        have m0 := (T7.below hb).C.cell (k := 0) rfl
        have m1 := (T7.below hb).C.cell (k := 1) rfl
        go_wp2
        exact hT _ _ rfl (by first | exact Rg.Keep.refl _ | exact below_of_dr hw2 | exact hw2 | exact (Below.refl _ _).alloc (Nat.le_refl _) _) (by first | rfl | exact congrArg _ (by decide))
      refine Rg.op_is (mval A W.length c B b.length d) [] rfl rfl (by kernel_rfl) ?_ ?_
      · intro wx hb
        refine Rg.from_nil fun T hT => ?_
        have m0 := (S7.below hb).M.cell (k := 0) rfl
        have m1 := (S7.below hb).M.cell (k := 1) rfl
        go_wp2
        exact hT _ _ rfl (by first | exact Rg.Keep.refl _ | exact below_of_dr hw2 | exact hw2 | exact (Below.refl _ _).alloc (Nat.le_refl _) _) (by first | rfl | exact congrArg _ (by decide))
      refine Rg.op_is (.bool true) [26, 27] rfl rfl (by kernel_rfl) ?_ ?_
      · intro wx hb
        refine Rg.from_is (some 152) rfl rfl ?_
        refine Rg.from_is (some 153) rfl rfl ?_
        refine Rg.from_nil fun T hT => ?_
        go_wp2_with (go_at_call 52; refine (rsame_c _ _ _ _ _ _ _ _ _ _ _ _ _ (T7.below hb).CA (T7.below hb).CB (S7.below hb).A (S7.below hb).B l1 l2 l1 l2).mono ?_; rintro e w8 ⟨rfl, hw8⟩; rw [show sameB W b W b = true by simp [sameB]])
        exact hT _ _ rfl hw8 rfl
      refine Rg.op_is (.bool true) [25, 28] rfl rfl (by kernel_rfl) ?_ ?_
      · intro wx hb
        refine Rg.from_is (some 151) rfl rfl ?_
        refine Rg.from_is (some 154) rfl rfl ?_
        refine Rg.from_nil fun T hT => ?_
        go_wp2
        exact hT _ _ rfl (by first | exact Rg.Keep.refl _ | exact below_of_dr hw2 | exact hw2 | exact (Below.refl _ _).alloc (Nat.le_refl _) _) (by first | rfl | exact congrArg _ (by decide))
      refine Rg.op_is (.bool true) [29] rfl rfl (by kernel_rfl) ?_ ?_
      · intro wx hb
        refine Rg.from_is (some 155) rfl rfl ?_
        refine Rg.from_nil fun T hT => ?_
        go_wp2
        exact hT _ _ rfl (by first | exact Rg.Keep.refl _ | exact below_of_dr hw2 | exact hw2 | exact (Below.refl _ _).alloc (Nat.le_refl _) _) (by first | rfl | exact congrArg _ (by decide))
      refine' Rg.op_is _ [] rfl rfl (by kernel_rfl) ?_ ?_
      rotate_left
      · intro wx hb
        refine Rg.from_nil fun T hT => ?_
        go_wp2
        refine hT _ _ rfl (by first | exact Rg.Keep.refl _ | exact below_of_dr hw2 | exact hw2 | exact (Below.refl _ _).alloc (Nat.le_refl _) _) ?_
        simp only [Rg.last, List.getElem?_toArray, List.getElem?_cons_succ, List.getElem?_cons_zero, Option.getD_some]
        rfl
      refine' Rg.op_is _ [] rfl rfl (by kernel_rfl) ?_ ?_
      rotate_left
      · intro wx hb
        refine Rg.from_nil fun T hT => ?_
        go_wp2
        refine hT _ _ rfl (by first | exact Rg.Keep.refl _ | exact below_of_dr hw2 | exact hw2 | exact (Below.refl _ _).alloc (Nat.le_refl _) _) ?_
        simp only [Rg.last, List.getElem?_toArray, List.getElem?_cons_succ, List.getElem?_cons_zero, Option.getD_some]
        rfl
      refine Rg.op_is (.bool true) [31, 32] rfl rfl (by kernel_rfl) ?_ ?_
      · intro wx hb
        refine Rg.from_is (some 157) rfl rfl ?_
        refine Rg.from_is (some 158) rfl rfl ?_
        refine Rg.from_nil fun T hT => ?_
        go_wp2_with (go_at_call 41; refine (ints_c Y X x x ey ex _ (T7.below hb).Y (S7.below hb).X lx lx).mono ?_; rintro e w8 ⟨rfl, hw8⟩; rw [decide_eq_true (rfl : x = x)])
        exact hT _ _ rfl (below_of_dr hw8) rfl
      refine Rg.op_is (.bool true) [30, 33] rfl rfl (by kernel_rfl) ?_ ?_
      · intro wx hb
        refine Rg.from_is (some 156) rfl rfl ?_
        refine Rg.from_is (some 159) rfl rfl ?_
        refine Rg.from_nil fun T hT => ?_
        go_wp2
        exact hT _ _ rfl (by first | exact Rg.Keep.refl _ | exact below_of_dr hw2 | exact hw2 | exact (Below.refl _ _).alloc (Nat.le_refl _) _) (by first | rfl | exact congrArg _ (by decide))
      refine Rg.op_is (.bool true) [34] rfl rfl (by kernel_rfl) ?_ ?_
      · intro wx hb
        refine Rg.from_is (some 160) rfl rfl ?_
        refine Rg.from_nil fun T hT => ?_
        go_wp2
        exact hT _ _ rfl (by first | exact Rg.Keep.refl _ | exact below_of_dr hw2 | exact hw2 | exact (Below.refl _ _).alloc (Nat.le_refl _) _) (by first | rfl | exact congrArg _ (by decide))
      refine' Rg.op_is _ [] rfl rfl (by kernel_rfl) ?_ ?_
      rotate_left
      · intro wx hb
        refine Rg.from_nil fun T hT => ?_
        go_wp2
        refine hT _ _ rfl (by first | exact Rg.Keep.refl _ | exact below_of_dr hw2 | exact hw2 | exact (Below.refl _ _).alloc (Nat.le_refl _) _) ?_
        simp only [Rg.last, List.getElem?_toArray, List.getElem?_cons_succ, List.getElem?_cons_zero, Option.getD_some]
        rfl
      refine' Rg.op_is _ [] rfl rfl (by kernel_rfl) ?_ ?_
      rotate_left
      · intro wx hb
        refine Rg.from_nil fun T hT => ?_
        go_wp2
        refine hT _ _ rfl (by first | exact Rg.Keep.refl _ | exact below_of_dr hw2 | exact hw2 | exact (Below.refl _ _).alloc (Nat.le_refl _) _) ?_
        simp only [Rg.last, List.getElem?_toArray, List.getElem?_cons_succ, List.getElem?_cons_zero, Option.getD_some]
        rfl
      refine Rg.op_is (.bool true) [36, 37] rfl rfl (by kernel_rfl) ?_ ?_
      · intro wx hb
        refine Rg.from_is (some 162) rfl rfl ?_
        refine Rg.from_is (some 163) rfl rfl ?_
        refine Rg.from_nil fun T hT => ?_
        go_wp2_with (go_at_call 44; refine (numbers_c N L l l en el _ (T7.below hb).N (S7.below hb).L ll ll).mono ?_; rintro e w8 ⟨rfl, hw8⟩; rw [decide_eq_true (rfl : l = l)])
        exact hT _ _ rfl (below_of_dr hw8) rfl
      refine Rg.op_is (.bool true) [35, 38] rfl rfl (by kernel_rfl) ?_ ?_
      · intro wx hb
        refine Rg.from_is (some 161) rfl rfl ?_
        refine Rg.from_is (some 164) rfl rfl ?_
        refine Rg.from_nil fun T hT => ?_
        go_wp2
        exact hT _ _ rfl (by first | exact Rg.Keep.refl _ | exact below_of_dr hw2 | exact hw2 | exact (Below.refl _ _).alloc (Nat.le_refl _) _) (by first | rfl | exact congrArg _ (by decide))
      refine Rg.op_is (.bool true) [39] rfl rfl (by kernel_rfl) ?_ ?_
      · intro wx hb
        refine Rg.from_is (some 165) rfl rfl ?_
        refine Rg.from_nil fun T hT => ?_
        go_wp2
        exact hT _ _ rfl (by first | exact Rg.Keep.refl _ | exact below_of_dr hw2 | exact hw2 | exact (Below.refl _ _).alloc (Nat.le_refl _) _) (by first | rfl | exact congrArg _ (by decide))
      refine Rg.op_is (.bool true) [] rfl rfl (by kernel_rfl) ?_ ?_
      · intro wx hb
        refine Rg.from_nil fun T hT => ?_
        go_wp2_with (go_at_call 31; refine (awake07_c _).mono ?_; rintro e w8 ⟨rfl, hw8⟩)
        exact hT _ _ rfl hw8 rfl
      refine Rg.op_is (.bool true) [40, 41] rfl rfl (by kernel_rfl) ?_ ?_
      · intro wx hb
        refine Rg.from_is (some 166) rfl rfl ?_
        refine Rg.from_is (some 167) rfl rfl ?_
        refine Rg.from_nil fun T hT => ?_
        go_wp2
        exact hT _ _ rfl (by first | exact Rg.Keep.refl _ | exact below_of_dr hw2 | exact hw2 | exact (Below.refl _ _).alloc (Nat.le_refl _) _) (by first | rfl | exact congrArg _ (by decide))
      refine Rg.walk_nil [0, 1, 2, 3, 4, 5, 6, 7, 8, 9, 10, 11, 12, 13, 14, 15, 16, 17, 18, 19, 20, 21, 22, 23, 24, 25, 26, 27, 28, 29, 30, 31, 32, 33, 34, 35, 36, 37, 38, 39, 40, 41, 42] (by kernel_rfl) ?_
      intro wx hb
      refine Rg.from_is (some 126) rfl rfl ?_
      refine Rg.from_is (some 127) rfl rfl ?_
      refine Rg.from_is (some 128) rfl rfl ?_
      refine Rg.from_is (some 129) rfl rfl ?_
      refine Rg.from_is (some 130) rfl rfl ?_
      refine Rg.from_is (some 131) rfl rfl ?_
      refine Rg.from_is (some 132) rfl rfl ?_
      refine Rg.from_is (some 133) rfl rfl ?_
      refine Rg.from_is (some 134) rfl rfl ?_
      refine Rg.from_is (some 135) rfl rfl ?_
      refine Rg.from_is (some 136) rfl rfl ?_
      refine Rg.from_is (some 137) rfl rfl ?_
      refine Rg.from_is (some 138) rfl rfl ?_
      refine Rg.from_is (some 139) rfl rfl ?_
      refine Rg.from_is (some 140) rfl rfl ?_
      refine Rg.from_is (some 141) rfl rfl ?_
      refine Rg.from_is (some 142) rfl rfl ?_
      refine Rg.from_is (some 143) rfl rfl ?_
      refine Rg.from_is (some 144) rfl rfl ?_
      refine Rg.from_is (some 145) rfl rfl ?_
      refine Rg.from_is (some 146) rfl rfl ?_
      refine Rg.from_is (some 147) rfl rfl ?_
      refine Rg.from_is (some 148) rfl rfl ?_
      refine Rg.from_is (some 149) rfl rfl ?_
      refine Rg.from_is (some 150) rfl rfl ?_
      refine Rg.from_is (some 151) rfl rfl ?_
      refine Rg.from_is (some 152) rfl rfl ?_
      refine Rg.from_is (some 153) rfl rfl ?_
      refine Rg.from_is (some 154) rfl rfl ?_
      refine Rg.from_is (some 155) rfl rfl ?_
      refine Rg.from_is (some 156) rfl rfl ?_
      refine Rg.from_is (some 157) rfl rfl ?_
      refine Rg.from_is (some 158) rfl rfl ?_
      refine Rg.from_is (some 159) rfl rfl ?_
      refine Rg.from_is (some 160) rfl rfl ?_
      refine Rg.from_is (some 161) rfl rfl ?_
      refine Rg.from_is (some 162) rfl rfl ?_
      refine Rg.from_is (some 163) rfl rfl ?_
      refine Rg.from_is (some 164) rfl rfl ?_
      refine Rg.from_is (some 165) rfl rfl ?_
      refine Rg.from_is (some 166) rfl rfl ?_
      refine Rg.from_is (some 167) rfl rfl ?_
      refine Rg.from_is (some 168) rfl rfl ?_
      refine Rg.from_nil ?_
      simp only [List.map, Act.put, List.setIfInBounds_toArray, List.set_cons_zero, List.set_cons_succ]
      have S9 := S7.below hb
      go_wp2
      go_ret
      exact ⟨rfl, S9.b⟩

set_option maxRecDepth 100000 in
theorem fixedTells_lifted (os : Os) (started : os.Started) (H : Type) (enc : TypeId × Value → H) :
    ReturnsInHanded {} Try.checked os 10 .any (Rows.fixedTellsSpec.pre6 enc Try.prog Try.f10 Rows.fixedTellsRow.domain false) (Rows.fixedTellsSpec.post enc Try.prog Try.f10 false true false false) := by
  refine returnsInHanded_of_change (C := Try.checked) Try.own started (by kernel_rfl) Try.func10
    (ChangeSpec.witness6 (enc := enc) (C := Try.checked) false ⟨#[], #[pval parSome, .agg #[.slice none 0 0, .slice none 0 0], .agg #[.slice none 0 0, .slice none 0 0], .slice none 0 0, .slice none 0 0], []⟩ 8 (by kernel_rfl) (by kernel_rfl) (by kernel_rfl) (by kernel_rfl)) ?_
  intro W base args ds gs before hval0 hW hcnd _
  have hval : ∀ (j : Nat) t v, Try.f10.params[j]? = some t → args[j]? = some v → Value.okWide Try.prog W .any base t v := hval0
  have hW' := hW
  obtain ⟨p, q, hA0, hV, rfl, hfz, hnd⟩ := hW
  have hA : DataW.TrodAll enc Try.prog W 0 (fun _ => true) true Try.f10.params.toList args.toList ds p := hA0
  rw [Try.params10] at hA hval
  obtain ⟨v0, v1, v2, v3, v4, d0, d1, d2, d3, d4, p0, p1, p2, p3, p4, rfl, rfl, rfl, h0, h1, h2, h3, h4⟩ := trodAll_five' hA
  obtain ⟨rfl, rfl⟩ := trodVars_none hV
  obtain ⟨pr, rfl, hp⟩ := par_at (hval 0 40 v0 rfl rfl) h0
  obtain ⟨A, Wm, c, B, b, e1, rfl, gA, gB, gl, gl', gu, gu'⟩ := model_at (hval 1 44 v1 rfl rfl) h1
  obtain ⟨A2, Vm, c2, B2, b2, e2, rfl, gA2, gB2, gl2, gl2', gu2, gu2'⟩ := model_at (hval 2 44 v2 rfl rfl) h2
  obtain ⟨_, k3⟩ := one_of Try.underlying42 (hval 3 42 v3 rfl rfl) h3
  obtain ⟨X, x, ex, rfl, gX, glx, gux⟩ := ints_at k3
  obtain ⟨_, k4⟩ := one_of Try.underlying26 (hval 4 26 v4 rfl rfl) h4
  obtain ⟨L, l, el, rfl, gL, gll, gul⟩ := words_at k4
  clear hA0 hval0
  refine (fixedTells_c pr hp A B A2 B2 X L Wm Vm b b2 x l c e1 c2 e2 ex el W gA gB gA2 gB2 gX gL gl gl' gl2 gl2' glx gll gu gu' gu2 gu2' gux gul).mono fun e W' ⟨he, hb⟩ => ?_
  subst he
  exact ⟨_, rfl, post_true hW' hb Try.laidOut (by kernel_rfl) rfl rfl rfl rfl rfl Try.underlying4⟩

theorem fixedTells_holds : Rows.FixedTellsSaid :=
  OpenClaim.holds_of_wide 10 Try.f10 rfl rfl rfl rfl rfl rfl rfl ⟨rfl, rfl, rfl, rfl, rfl⟩ rfl rfl rfl rfl rfl (by kernel_rfl) Try.func10 (by kernel_rfl)
    (of_decide_eq_true (by kernel_rfl)) (by unfold Func.isWrapper; first | (rw [if_pos (by decide +kernel)]; kernel_rfl) | (rw [if_neg (by decide +kernel)]; exact ⟨rfl, rfl⟩))
    (fun os started H enc _ => fixedTells_lifted os started H enc)
#print axioms fixedTells_holds

end Go.Proofs.Ytnmadmcegdpecaa
