/-
  May a query be put: the document's.
-/
import Derived.Test.YtlbhmoiicbhgkaaDoorAdmQ1
import Derived.Test.YtlbhmoiicbhgkaaDoorAdmQ2
import Derived.Test.YtlbhmoiicbhgkaaDoorAdmQ3
import Derived.Test.YtlbhmoiicbhgkaaDoorAdmQ4
import Derived.Test.YtlbhmoiicbhgkaaDoorAdmQ5
import Derived.Test.YtlbhmoiicbhgkaaDoorAdmQ6
import Derived.Test.YtlbhmoiicbhgkaaDoorAdmQ7
import Derived.Test.YtlbhmoiicbhgkaaDoorAdmQ8
import Derived.Test.YtlbhmoiicbhgkaaDoorAdZ
namespace Go.Proofs.YtlbhmoiicbhgkaaDoor
open Go Go.RowKit Go.Maps Go.Shelf Go.Proofs

attribute [local go_sem] Oper.semAt_some

section
variable {p : Par} {l : List Ask} {id : Int} {x : List Int}
theorem wrong0 : wrongB p l id x 0 = true ↔ queryE p x = 4 ∨ id < 1 ∨ id > 1099511627776 := by
  show (decide (queryE p x = 4) || (decide (id < 1) || decide (id > 1099511627776))) = true ↔ _
  simp
theorem qP0 (h : queryE p x = 4 ∨ id < 1 ∨ id > 1099511627776) : queryP p l id x = 4 := by
  unfold queryP
  rw [if_pos (wrong0.2 h)]
theorem qP1 (h : ¬ (queryE p x = 4 ∨ id < 1 ∨ id > 1099511627776)) (h1 : queryE p x ≠ 0) : queryP p l id x = queryE p x := by
  unfold queryP
  rw [if_neg (fun h' => h (wrong0.1 h')), if_pos (show wrongB p l id x 1 = true by show decide (queryE p x ≠ 0) = true; simpa using h1)]
theorem qP2 (h : ¬ (queryE p x = 4 ∨ id < 1 ∨ id > 1099511627776)) (h1 : queryE p x = 0) (h2 : hasId l id = true) : queryP p l id x = 6 := by
  unfold queryP
  rw [if_neg (fun h' => h (wrong0.1 h')), if_neg (show ¬ wrongB p l id x 1 = true by show ¬ decide (queryE p x ≠ 0) = true; simpa using h1), if_pos (show wrongB p l id x 2 = true from h2)]
theorem qP3 (h : ¬ (queryE p x = 4 ∨ id < 1 ∨ id > 1099511627776)) (h1 : queryE p x = 0) (h2 : hasId l id = false) (h3 : 8 ≤ l.length) : queryP p l id x = 41 := by
  unfold queryP
  rw [if_neg (fun h' => h (wrong0.1 h')), if_neg (show ¬ wrongB p l id x 1 = true by show ¬ decide (queryE p x ≠ 0) = true; simpa using h1), if_neg (show ¬ wrongB p l id x 2 = true by show ¬ hasId l id = true; rw [h2]; decide),
    if_pos (show wrongB p l id x 3 = true by show decide (8 ≤ l.length) = true; simpa using h3)]
theorem qP45 (h : ¬ (queryE p x = 4 ∨ id < 1 ∨ id > 1099511627776)) (h1 : queryE p x = 0) (h2 : hasId l id = false) (h3 : l.length < 8) : queryP p l id x = if (rankV (rowsP p l [x]) p.Q : Int) > p.R then 22 else 0 := by
  unfold queryP
  rw [if_neg (fun h' => h (wrong0.1 h')), if_neg (show ¬ wrongB p l id x 1 = true by show ¬ decide (queryE p x ≠ 0) = true; simpa using h1), if_neg (show ¬ wrongB p l id x 2 = true by show ¬ hasId l id = true; rw [h2]; decide),
    if_neg (show ¬ wrongB p l id x 3 = true by show ¬ decide (8 ≤ l.length) = true; simpa using h3)]
  show (if decide ((rankV (rowsP p l [x]) p.Q : Int) > p.R) = true then (22 : Int) else 0) = _
  simp only [decide_eq_true_eq]
end
/-- what is known while the rows are put together and their rank is asked. -/
structure QB (w0 : World) (F : List (List Int)) (r : List Int) (rk : Int) (g : Rgi.Ghost) (w : World) : Prop where
  b : Below w0.heap.size w0 w
  rows : ∀ v, g 2 = some v → g 7 = none → OwnRows w w0.heap.size 23 24 v (F.map u64v)
  row : ∀ v, g 5 = some v → RowUV w v r
  one : ∀ v, g 6 = some v → g 7 = none → OneUV w v r
  all : ∀ v, g 7 = some v → GridVal w v (F ++ [r])
  rk : ∀ v, g 10 = some v → v = .int .i64 rk
  o2 : g 2 = none → g 7 = none
  o6 : g 6 = none → g 7 = none
section
variable {w0 w w' : World} {F : List (List Int)} {r : List Int} {rk : Int} {g : Rgi.Ghost}
theorem QB.start (w0 : World) (F : List (List Int)) (r : List Int) (rk : Int) : QB w0 F r rk (fun _ => none) w0.drew :=
  ⟨⟨rfl, rfl, rfl, Nat.le_refl _, fun _ _ => rfl⟩, fun _ h => (by cases h), fun _ h => (by cases h), fun _ h => (by cases h), fun _ h => (by cases h), fun _ h => (by cases h), fun _ => rfl, fun _ => rfl⟩
theorem QB.below (h : QB w0 F r rk g w) (hb : Below w.heap.size w w') : QB w0 F r rk g w' :=
  ⟨below_next h.b h.b.size hb, fun v a b => (h.rows v a b).below hb, fun v a => (h.row v a).below hb, fun v a b => (h.one v a b).below hb, fun v a => (h.all v a).below hb, h.rk, h.o2, h.o6⟩
theorem QB.at2 (h : QB w0 F r rk g w) {v : Value} (hv : OwnRows w w0.heap.size 23 24 v (F.map u64v)) : QB w0 F r rk (g.upd 2 v) w :=
  ⟨h.b, fun u a _ => (by obtain rfl : _ = u := Option.some.inj a; exact hv), h.row, h.one, h.all, h.rk, fun a => (by cases a), h.o6⟩
theorem QB.at5 (h : QB w0 F r rk g w) {v : Value} (hv : RowUV w v r) : QB w0 F r rk (g.upd 5 v) w :=
  ⟨h.b, h.rows, fun u a => (by obtain rfl : _ = u := Option.some.inj a; exact hv), h.one, h.all, h.rk, h.o2, h.o6⟩
theorem QB.at6 (h : QB w0 F r rk g w) {v : Value} (hv : OneUV w v r) : QB w0 F r rk (g.upd 6 v) w :=
  ⟨h.b, h.rows, h.row, fun u a _ => (by obtain rfl : _ = u := Option.some.inj a; exact hv), h.all, h.rk, h.o2, fun a => (by cases a)⟩
theorem QB.at10 (h : QB w0 F r rk g w) : QB w0 F r rk (g.upd 10 (.int .i64 rk)) w :=
  ⟨h.b, h.rows, h.row, h.one, h.all, fun _u a => (Option.some.inj a).symm, h.o2, h.o6⟩
theorem QB.at7 (h : QB w0 F r rk g w) (_h7 : g 7 = none) {v2 v6 v : Value} {vs : List Value} (h2 : g 2 = some v2) (h6 : g 6 = some v6) (p1 : Own w w0.heap.size 23 v2 vs) (hw : w.grownBy w' v2.ownBlock) (hv : GridVal w' v (F ++ [r])) : QB w0 F r rk (g.upd 7 v) w' := by
  refine ⟨h.b.grown hw h.b.size fun k e => (p1.block k e).1, fun u _ a => (by cases a), fun u a => ?_, fun u _ a => (by cases a), fun u a => (by obtain rfl : _ = u := Option.some.inj a; exact hv), h.rk, fun a => ?_, fun a => ?_⟩
  · obtain ⟨A, c, e, hr⟩ := h.row u a
    exact ⟨A, c, e, hr.other p1 (by decide) fun k hk hne => hw.block k hk hne⟩
  · have : g 2 = none := a
    rw [h2] at this; cases this
  · have : g 6 = none := a
    rw [h6] at this; cases this
end
set_option maxRecDepth 100000 in
set_option maxHeartbeats 3200000 in
theorem rquery21_c (p : Par) (hp : p.ok) (A : Option Addr) (l : List Ask) (c : Nat) (id : Int) (A2 : Option Addr) (x : List Int) (c2 : Nat) (w : World) (hA : Asks w A l) (hl : AskOk l) (_hid1 : I64 id) (hA2 : Cells w A2 (x.map (.int .i64))) (hx : x.length ≤ 1000000) (hxu : I64s x) :
    Calls Tryd.prog 34 #[pval p, .slice A l.length c, .int .i64 id, .slice A2 x.length c2] w fun e w' => e = .returned (.int .i64 (queryP p l id x)) ∧ Below w.heap.size w w' := by
  have hb0 := below_alloc w (.cells (pcells p).toArray 33)
  have hP := row1_new w (pcells p) 33
  have hA1 := hA.below hb0
  have hA21 := hA2.below hb0
  have hq := hp.Q
  have hlf := hl.few
  have HL := hid hl
  have HPO := hid hp
  clear hA hA2 hl hp
  have Q0 := hid (fun h => qP0 (p := p) (l := l) (id := id) (x := x) h)
  have Q1 := hid (fun h h1 => qP1 (p := p) (l := l) (id := id) (x := x) h h1)
  have Q2 := hid (fun h h1 h2 => qP2 (p := p) (l := l) (id := id) (x := x) h h1 h2)
  have Q3 := hid (fun h h1 h2 h3 => qP3 (p := p) (l := l) (id := id) (x := x) h h1 h2 h3)
  have Q4 := hid (fun h h1 h2 h3 => qP45 (p := p) (l := l) (id := id) (x := x) h h1 h2 h3)
  generalize queryP p l id x = R at *
  go_enter Tryd.func34, Tryd.ntmps34
  change Row1 (w.alloc (.cells #[.int .u64 p.P, .int .u64 p.Q, .int .u64 p.G, .int .u64 p.H, .int .i64 p.Nodes, .int .i64 p.N, .int .i64 p.T, .int .i64 p.K, .int .i64 p.D, .int .i64 p.R, .int .i64 p.M, .int .i64 p.X] 33)) _ _ _ at hP
  have HPC := hid (par_cells hP)
  obtain ⟨p0, p1, p2, p3, p4, p5, p6, p7, p8, p9, p10, p11⟩ := HPC.out
  go_wp2_with (fail)
  generalize w.alloc (.cells #[.int .u64 p.P, .int .u64 p.Q, .int .u64 p.G, .int .u64 p.H, .int .i64 p.Nodes, .int .i64 p.N, .int .i64 p.T, .int .i64 p.K, .int .i64 p.D, .int .i64 p.R, .int .i64 p.M, .int .i64 p.X] 33) = w1 at *
  refine (rquery_c p A2 x c2 w1 hA21 (by omega) hxu).mono ?_
  rintro e w2 ⟨rfl, hb2⟩
  have hbz := below_next hb0 hb0.size hb2
  have HB := hid (⟨hP.below hb2, hA1.below hb2, hA21.below hb2, hbz⟩ : _ ∧ _ ∧ _ ∧ _)
  have hqor := queryE_or p x
  generalize queryE p x = E at *
  clear p0 p1 p2 p3 p4 p5 p6 p7 p8 p9 p10 p11 HPC hP hA1 hA21 hb0 hb2 hbz
  by_cases hE4 : E = 4
  · obtain rfl : R = 4 := Q0.out (.inl hE4)
    subst hE4
    clear Q0 Q1 Q2 Q3 Q4
    go_wp2
    go_ret
    exact ⟨rfl, HB.out.2.2.2⟩
  have hE4' : (E == 4) = false := by simpa using hE4
  by_cases hi1 : id < 1
  · obtain rfl : R = 4 := Q0.out (.inr (.inl hi1))
    clear Q0 Q1 Q2 Q3 Q4 hE4
    go_wp2
    go_ret
    exact ⟨rfl, HB.out.2.2.2⟩
  by_cases hi2 : id > 1099511627776
  · obtain rfl : R = 4 := Q0.out (.inr (.inr hi2))
    clear Q0 Q1 Q2 Q3 Q4 hE4
    go_wp2
    go_ret
    exact ⟨rfl, HB.out.2.2.2⟩
  have HN0 := hid (show ¬ (E = 4 ∨ id < 1 ∨ id > 1099511627776) by omega)
  by_cases hE0 : E = 0
  case neg =>
    have hE0' : (E != 0) = true := by simpa using hE0
    obtain rfl : R = E := Q1.out HN0.out hE0
    clear Q0 Q1 Q2 Q3 Q4 hE4 hE0 hqor
    go_wp2
    go_ret
    exact ⟨rfl, HB.out.2.2.2⟩
  subst hE0
  clear hE4 hE4' hqor Q0 Q1
  go_wp2
  go_loop [10] (fun y => ∃ k : Nat, y = .int .i64 (k : Int) ∧ k ≤ l.length ∧ Hid (hasId (l.take k) id = false)) (fun y => l.length - (intOf y).toNat)
  case atStart => exact ⟨0, rfl, by omega, hid rfl⟩
  case round =>
  obtain ⟨k, rfl, hk, HI⟩ := hrel
  have hno := HI.out
  by_cases hlt : k < l.length
  · have hlt' : (k : Int) < (l.length : Int) := by omega
    obtain ⟨a, ha⟩ := get_of_lt hlt
    obtain ⟨b, off, A', c', rfl, ca, cx, hcs, hxl⟩ := HB.out.2.1.at_ ha
    by_cases he : a.id = id
    · have he' : (a.id == id) = true := by simpa using he
      obtain rfl : R = 6 := Q2.out HN0.out (by simp) (hasId_at ha he')
      clear Q2 Q3 Q4 ha hcs cx hno HI he
      go_wp2
      go_ret
      exact ⟨rfl, HB.out.2.2.2⟩
    · have he' : (a.id == id) = false := by simpa using he
      have HN := hid (hasId_take ha hno he')
      clear ha hcs cx hno HI he
      go_wp2
      go_round
      case rel => exact ⟨k + 1, by go_num, by omega, HN⟩
      case measure => simp [intOf]; omega
  obtain rfl : k = l.length := by omega
  rw [List.take_length] at hno
  have HNO := hid hno
  clear hno HI hk hlt
  cases ‹w2 = w2›
  by_cases h8 : 8 ≤ l.length
  · have h8' : (8 : Int) ≤ (l.length : Int) := by omega
    obtain rfl : R = 41 := Q3.out HN0.out (by simp) HNO.out h8
    clear Q2 Q3 Q4 h8
    go_wp2
    go_ret
    exact ⟨rfl, HB.out.2.2.2⟩
  have h8' : ¬ (8 : Int) ≤ (l.length : Int) := by omega
  have HR := hid (Q4.out HN0.out (by simp) HNO.out (by omega))
  have hrl : (rowsP p l [x]).length ≤ 42 := by unfold rowsP; simp; omega
  have hrw : wideL (rowsP p l [x]) ≤ 42 := Nat.le_trans (rowsP_wide p l [x]) (by decide)
  have HRU := hid (rowsP_u p l [x])
  have HFR := hid (show rowsP p l [] ++ [rowS p x] = rowsP p l [x] by unfold rowsP; simp)
  have hvl9 : (rowsP p l []).length ≤ 10 := by unfold rowsP; simp; omega
  have HV9 := hid (show ((rowsP p l []).map u64v).length = (rowsP p l []).length by simp)
  obtain ⟨RK, hRK⟩ : ∃ RK : Nat, rankV (rowsP p l [x]) p.Q = RK := ⟨_, rfl⟩
  have HRK := hid hRK
  rw [hRK] at HR
  have HLW := hid (⟨hrl, hrw, hvl9⟩ : _ ∧ _ ∧ _)
  clear Q2 Q3 Q4 hRK hrl hrw hvl9
  go_upto_region 13 with (fail)
  clear h8 h8' hi1 hi2
  refine Rgi.wp_region (l := [_, _, _, _, _, _, _, _, _, _, _, _, _]) (tail := [_]) (⟨QB w2 (rowsP p l []) (rowS p x) (RK : Int), [2, 5, 6, 7, 10]⟩) [some 43, some 44, some 45, some 46, some 47, some 48, some 49, some 50, some 51, some 52, some 53, some 54, some 55, some 56] 57 rfl (by kernel_rfl) (by kernel_rfl) rfl (QB.start _ _ _ _) ?_
  refine Rgi.op_is (pval p) [] rfl rfl (by kernel_rfl) ?_ ?_
  · intro g wx hb
    refine Rgi.from_nil fun T hT => ?_
    obtain ⟨p0, p1, p2, p3, p4, p5, p6, p7, p8, p9, p10, p11⟩ := par_cells (HB.out.1.below (QB.b hb))
    go_wp2
    exact hT _ _ rfl hb (by first | rfl | exact congrArg _ (by decide))
  refine' Rgi.op_is _ [] rfl rfl (by kernel_rfl) ?_ ?_
  rotate_left
  · intro g wx hb
    refine Rgi.from_nil fun T hT => ?_
    go_wp2
    refine hT _ _ rfl hb ?_
    simp only [Rgi.last, List.getElem?_toArray, List.getElem?_cons_succ, List.getElem?_cons_zero, Option.getD_some]
    rfl
  refine Rgi.op_sp [0, 1] rfl rfl (by kernel_rfl) ?_ ?_
  · intro g wx hb hg
    refine Rgi.from_is (some 43) rfl rfl ?_
    refine Rgi.from_is (some 44) rfl rfl ?_
    refine Rgi.from_nil fun T hT => ?_
    go_wp2_with (go_at_call 76; refine (rrows21_c p HPO.out A l c _ (HB.out.2.1.below (QB.b hb)) HL.out).mono ?_; rintro e w9 ⟨v, rfl, ho, hw9⟩)
    exact hT _ _ rfl (QB.at2 (QB.below hb hw9) (ho.from_ (QB.b hb).size))
  refine Rgi.op_is (pval p) [] rfl rfl (by kernel_rfl) ?_ ?_
  · intro g wx hb
    refine Rgi.from_nil fun T hT => ?_
    obtain ⟨p0, p1, p2, p3, p4, p5, p6, p7, p8, p9, p10, p11⟩ := par_cells (HB.out.1.below (QB.b hb))
    go_wp2
    exact hT _ _ rfl hb (by first | rfl | exact congrArg _ (by decide))
  refine' Rgi.op_is _ [] rfl rfl (by kernel_rfl) ?_ ?_
  rotate_left
  · intro g wx hb
    refine Rgi.from_nil fun T hT => ?_
    go_wp2
    refine hT _ _ rfl hb ?_
    simp only [Rgi.last, List.getElem?_toArray, List.getElem?_cons_succ, List.getElem?_cons_zero, Option.getD_some]
    rfl
  refine Rgi.op_sp [3, 4] rfl rfl (by kernel_rfl) ?_ ?_
  · intro g wx hb hg
    refine Rgi.from_is (some 46) rfl rfl ?_
    refine Rgi.from_is (some 47) rfl rfl ?_
    refine Rgi.from_nil fun T hT => ?_
    go_wp2_with (go_at_call 77; refine (rrow_c p HPO.out A2 x c2 _ (HB.out.2.2.1.below (QB.b hb)) (by omega) hxu).mono ?_; rintro e w9 ⟨v, rfl, ho, hw9⟩)
    obtain ⟨A9, c9, e9, _⟩ := ho.form
    rw [List.length_map] at e9
    exact hT _ _ rfl (QB.at5 (QB.below hb hw9) ⟨A9, c9, e9, ho.rowT⟩)
  refine Rgi.op_sp [5] rfl rfl (by kernel_rfl) ?_ ?_
  · intro g wx hb hg
    refine Rgi.from_sp (some 48) rfl rfl rfl fun v48 h48 => ?_
    refine Rgi.from_nil fun T hT => ?_
    obtain ⟨A9, c9, e9, hr9⟩ := QB.row hb _ h48
    subst e9
    go_wp2
    have hbn := below_alloc wx (.cells #[.slice A9 (rowS p x).length c9] 23)
    exact hT _ _ rfl (QB.at6 (QB.below hb hbn) ⟨_, _, _, rfl, row1_new wx [.slice A9 (rowS p x).length c9] _, hr9.below hbn⟩)
  refine Rgi.op_sp [2, 6] rfl rfl (by kernel_rfl) ?_ ?_
  · intro g wx hb hg
    refine Rgi.from_sp (some 45) rfl rfl rfl fun v45 h45 => ?_
    refine Rgi.from_sp (some 49) rfl rfl rfl fun v49 h49 => ?_
    refine Rgi.from_nil fun T hT => ?_
    obtain ⟨vs, q1, q2, q3⟩ := QB.rows hb _ h45 hg
    obtain ⟨g9, A9, c9, e9, hg9, hu9⟩ := QB.one hb _ h49 hg
    have h49' := h49
    subst e9
    have hvk : vs.length ≤ 10 := by rw [q2, HV9.out]; exact HLW.out.2.2
    have hcl9 := hg9.cells
    at_builtin
    refine wpList_moreG elt_rowsA wx rfl _ _ rfl w2.heap.size q1 rfl (news := [.slice A9 (rowS p x).length c9]) (c := 1) hcl9 rfl (fun u hu => by rw [List.mem_singleton.1 hu]; rfl) (by simp; omega) (by simp; omega) (QB.b hb).size ?_
    intro v' w' ho' hw'
    have hgv : GridVal w' v' (rowsP p l [] ++ [rowS p x]) := by
      have := OwnRows.push (by decide) q2 q3 q1 hu9 ho' (fun j hj hne => hw'.block j hj hne)
      exact OwnRows.grid (by rw [List.map_append]; exact this)
    go_wp2
    exact hT _ _ rfl (QB.at7 hb hg h45 h49' q1 hw' hgv)
  refine' Rgi.op_is _ [] rfl rfl (by kernel_rfl) ?_ ?_
  rotate_left
  · intro g wx hb
    refine Rgi.from_nil fun T hT => ?_
    go_wp2
    refine hT _ _ rfl hb ?_
    simp only [Rgi.last, List.getElem?_toArray, List.getElem?_cons_succ, List.getElem?_cons_zero, Option.getD_some]
    rfl
  refine Rgi.op_is (.int .u64 p.Q) [8] rfl rfl (by kernel_rfl) ?_ ?_
  · intro g wx hb
    refine Rgi.from_is (some 51) rfl rfl ?_
    refine Rgi.from_nil fun T hT => ?_
    have cQ := (HB.out.1.below (QB.b hb)).cell (k := 1) (u := .int .u64 p.Q) rfl
    go_wp2
    exact hT _ _ rfl hb (by first | rfl | exact congrArg _ (by decide))
  refine Rgi.op_sp [7, 9] rfl rfl (by kernel_rfl) ?_ ?_
  · intro g wx hb hg
    refine Rgi.from_sp (some 50) rfl rfl rfl fun v50 h50 => ?_
    refine Rgi.from_is (some 52) rfl rfl ?_
    refine Rgi.from_nil fun T hT => ?_
    obtain ⟨A1, c1, e1, g1⟩ := QB.all hb _ h50
    subst e1
    rw [HFR.out] at g1 ⊢
    go_wp2_with (go_at_call 10; refine (rank04_c A1 (rowsP p l [x]) c1 p.Q _ g1 HLW.out.1 HLW.out.2.1 HRU.out hq).mono ?_; rintro e w9 ⟨rfl, hw9⟩)
    rw [HRK.out]
    exact hT _ _ rfl (QB.at10 (QB.below hb hw9))
  refine' Rgi.op_is _ [] rfl rfl (by kernel_rfl) ?_ ?_
  rotate_left
  · intro g wx hb
    refine Rgi.from_nil fun T hT => ?_
    go_wp2
    refine hT _ _ rfl hb ?_
    simp only [Rgi.last, List.getElem?_toArray, List.getElem?_cons_succ, List.getElem?_cons_zero, Option.getD_some]
    rfl
  refine Rgi.op_is (.int .i64 p.R) [11] rfl rfl (by kernel_rfl) ?_ ?_
  · intro g wx hb
    refine Rgi.from_is (some 54) rfl rfl ?_
    refine Rgi.from_nil fun T hT => ?_
    have cR := (HB.out.1.below (QB.b hb)).cell (k := 9) (u := .int .i64 p.R) rfl
    go_wp2
    exact hT _ _ rfl hb (by first | rfl | exact congrArg _ (by decide))
  refine Rgi.walk_nil [0, 1, 2, 3, 4, 5, 6, 7, 8, 9, 10, 11, 12] (by kernel_rfl) ?_
  intro g wx hb
  refine Rgi.from_is (some 43) rfl rfl ?_
  refine Rgi.from_is (some 44) rfl rfl ?_
  refine Rgi.from_sp (some 45) rfl rfl rfl fun v45 h45 => ?_
  refine Rgi.from_is (some 46) rfl rfl ?_
  refine Rgi.from_is (some 47) rfl rfl ?_
  refine Rgi.from_sp (some 48) rfl rfl rfl fun v48 h48 => ?_
  refine Rgi.from_sp (some 49) rfl rfl rfl fun v49 h49 => ?_
  refine Rgi.from_sp (some 50) rfl rfl rfl fun v50 h50 => ?_
  refine Rgi.from_is (some 51) rfl rfl ?_
  refine Rgi.from_is (some 52) rfl rfl ?_
  refine Rgi.from_sp (some 53) rfl rfl rfl fun v53 h53 => ?_
  refine Rgi.from_is (some 54) rfl rfl ?_
  refine Rgi.from_is (some 55) rfl rfl ?_
  refine Rgi.from_nil ?_
  simp only [List.map, Act.put, List.setIfInBounds_toArray, List.set_cons_zero, List.set_cons_succ]
  have hb13 := QB.b hb
  have h53' := QB.rk hb _ h53
  subst h53'
  have HBE := hid (below_next HB.out.2.2.2 HB.out.2.2.2.size hb13)
  clear hb hb13 h53 h50 h49 h48 h45
  by_cases hgt : (RK : Int) > p.R
  · rw [if_pos hgt] at HR
    obtain rfl : R = 22 := HR.out
    clear HR
    go_wp2
    go_ret
    exact ⟨rfl, HBE.out⟩
  · rw [if_neg hgt] at HR
    obtain rfl : R = 0 := HR.out
    clear HR
    go_wp2
    go_ret
    exact ⟨rfl, HBE.out⟩
end Go.Proofs.YtlbhmoiicbhgkaaDoor
