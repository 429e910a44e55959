/-
  The document's determinants.
-/
import Derived.Test.YtlbhmoiicbhgkaaDoorAdmQ1
import Derived.Test.YtlbhmoiicbhgkaaDoorAdmQ2
import Derived.Test.YtlbhmoiicbhgkaaDoorAdmQ3
import Derived.Test.YtlbhmoiicbhgkaaDoorAdmQ4
import Derived.Test.YtlbhmoiicbhgkaaDoorAdmQ5
import Derived.Test.YtlbhmoiicbhgkaaDoorAdmQ6
import Derived.Test.YtlbhmoiicbhgkaaDoorAdmQ7
import Derived.Test.YtlbhmoiicbhgkaaDoorAdmQ8
import Derived.Test.YtlbhmoiicbhgkaaDoorAtA
import Derived.Test.YtlbhmoiicbhgkaaDoorAdM
namespace Go.Proofs.YtlbhmoiicbhgkaaDoor
open Go Go.RowKit Go.Maps Go.Shelf Go.Proofs Go.Lin Go.Psi

attribute [local go_sem] Oper.semAt_some

/-- what is known while two parts of a row are put behind one another. -/
structure TwoB (w0 : World) (L M : List Value) (g : Rgi.Ghost) (w : World) : Prop where
  b : Below w0.heap.size w0 w
  lit : ∀ v, g 0 = some v → g 4 = none → Own w w0.heap.size 3 v []
  one : ∀ v, g 4 = some v → g 9 = none → Own w w0.heap.size 3 v L
  part : ∀ v, g 8 = some v → ∃ B c, v = .slice B M.length c ∧ Cells w0 B M
  all : ∀ v, g 9 = some v → Own w w0.heap.size 3 v (L ++ M)
  ord : g 4 = none → g 9 = none
  ord0 : g 0 = none → g 4 = none
theorem TwoB.start (w0 : World) (L M : List Value) : TwoB w0 L M (fun _ => none) w0.drew :=
  ⟨⟨rfl, rfl, rfl, Nat.le_refl _, fun _ _ => rfl⟩, fun _ h => (by cases h), fun _ h => (by cases h), fun _ h => (by cases h), fun _ h => (by cases h), fun _ => rfl, fun _ => rfl⟩
theorem TwoB.new {w0 w : World} {L M : List Value} {g : Rgi.Ghost} (h : TwoB w0 L M g w) (h0 : g 0 = none) : TwoB w0 L M (g.upd 0 (.slice (some ⟨w.heap.size, 0, none⟩) 0 0)) (w.alloc (.cells #[] 3)) := by
  have hb := below_alloc w (.cells #[] 3)
  have h2 := h.ord0 h0
  refine ⟨below_next h.b h.b.size hb, fun v hv _ => ?_, fun v hv h8 => (h.one v hv h8).below hb, h.part, fun v hv => (h.all v hv).below hb, h.ord, fun h => (by cases h)⟩
  obtain rfl : _ = v := Option.some.inj hv
  exact own_zero (row1_new w [] 3) h.b.size
theorem TwoB.cut {w0 w : World} {L M : List Value} {g : Rgi.Ghost} (h : TwoB w0 L M g w) (_h8 : g 8 = none) {B : Option Addr} {c : Nat} (hc : Cells w0 B M) : TwoB w0 L M (g.upd 8 (.slice B M.length c)) w := by
  refine ⟨h.b, h.lit, h.one, fun v hv => ?_, h.all, h.ord, h.ord0⟩
  obtain rfl : _ = v := Option.some.inj hv
  exact ⟨_, _, rfl, hc⟩
theorem TwoB.put1 {w0 w w' : World} {L M : List Value} {g : Rgi.Ghost} (h : TwoB w0 L M g w) (hg : g 4 = none) {v v' : Value} (h0 : g 0 = some v) (hw : w.grownBy w' v.ownBlock) (hn : Own w' w0.heap.size 3 v' L) : TwoB w0 L M (g.upd 4 v') w' := by
  have ho := h.lit v h0 hg
  refine ⟨h.b.grown hw h.b.size fun k e => (ho.block k e).1, fun v _ h4 => (by cases h4), fun u hu _ => ?_, h.part, fun u hu => ?_, fun h4 => (by cases h4), fun h4 => ?_⟩
  · obtain rfl : _ = u := Option.some.inj hu
    exact hn
  · have : g 9 = some u := hu
    rw [h.ord hg] at this
    cases this
  · have : g 0 = none := h4
    rw [h0] at this
    cases this
theorem TwoB.put2 {w0 w w' : World} {L M : List Value} {g : Rgi.Ghost} (h : TwoB w0 L M g w) {v2 v' : Value} (hg4 : g 4 = some v2) (ho : Own w w0.heap.size 3 v2 L) (hw : w.grownBy w' v2.ownBlock) (hn : Own w' w0.heap.size 3 v' (L ++ M)) : TwoB w0 L M (g.upd 9 v') w' := by
  refine ⟨h.b.grown hw h.b.size fun k e => (ho.block k e).1, fun v _ h4 => ?_, fun u _ h8 => (by cases h8), h.part, fun u hu => ?_, fun h4 => ?_, h.ord0⟩
  · have : g 4 = none := h4
    rw [hg4] at this
    cases this
  · obtain rfl : _ = u := Option.some.inj hu
    exact hn
  · have : g 4 = none := h4
    rw [hg4] at this
    cases this
theorem cells_cut {w : World} {A : Option Addr} {xs : List Value} (h : Cells w A xs) (k : Nat) : Cells w A (xs.take k) := by
  rcases h with h | ⟨b, off, rfl, h⟩
  · subst h
    exact .inl (by simp)
  · refine .inr ⟨b, off, rfl, fun i u hu => h i u ?_⟩
    rw [List.getElem?_take] at hu
    split at hu
    · exact hu
    · cases hu
theorem cells_from {w : World} {b off : Nat} {xs : List Value} (h : Cells w (some ⟨b, off, none⟩) xs) (k : Nat) : Cells w (some ⟨b, off + k, none⟩) (xs.drop k) := by
  rcases h with h | ⟨b', off', e, h⟩
  · subst h
    exact .inl (by simp)
  · injection e with e
    injection e with e1 e2
    subst e1
    subst e2
    refine .inr ⟨b, off + k, rfl, fun i u hu => ?_⟩
    rw [List.getElem?_drop] at hu
    have := h (k + i) u hu
    rwa [← Nat.add_assoc] at this
/-- the numbers of these rows and places are there. -/
structure DetOk (a : List (List Int)) (R C : List Nat) : Prop where
  rows : ∀ i ∈ R, i < a.length
  len : R.length = C.length
  few : C.length ≤ 100
theorem DetOk.tail {a : List (List Int)} {i : Nat} {R C : List Nat} (h : DetOk a (i :: R) C) {k : Nat} (hk : k < C.length) : DetOk a R (C.take k ++ C.drop (k + 1)) := by
  have h2 := h.len
  have h3 := h.few
  simp only [List.length_cons] at h2
  exact ⟨fun j hj => h.rows j (by simp [hj]), by rw [List.length_append, List.length_take, List.length_drop]; omega, by rw [List.length_append, List.length_take, List.length_drop]; omega⟩
/-- a row of places where it lies, with its room. -/
structure Pl (w : World) (B : Option Addr) (c : Nat) (R : List Nat) : Prop where
  cells : Cells w B (intv R)
  lo : R.length ≤ c
  hi : c ≤ 9223372036854775807
theorem Pl.below {w w' : World} {B : Option Addr} {c : Nat} {R : List Nat} (h : Pl w B c R) (hb : Below w.heap.size w w') : Pl w' B c R := ⟨h.cells.below hb, h.lo, h.hi⟩
theorem pl_own {w : World} {base : Nat} {v : Value} {R : List Nat} (h : Own w base 3 v (intv R)) : ∃ B c, v = .slice B R.length c ∧ Pl w B c R := by
  obtain ⟨A, c, e, hc⟩ := h.form
  rw [intv_len] at e
  refine ⟨A, c, e, hc, ?_, ?_⟩
  · rcases h.2 with ⟨h1, h0⟩ | ⟨g', cap', cur, h1, _, _, hn, _⟩
    · rw [h1] at e
      injection e with _ h2 h3
      omega
    · rw [h1] at e
      injection e with _ _ h2
      rw [intv_len] at hn
      omega
  · rcases h.2 with ⟨h1, h0⟩ | ⟨g', cap', cur, h1, _, _, _, hm, _⟩
    · rw [h1] at e
      injection e with _ h2 h3
      omega
    · rw [h1] at e
      injection e with _ _ h2
      unfold maxLen at hm
      omega
theorem det_term {N : Nat} [NeZero N] {q : Int} (hqN : q = (N : Int)) (hok : okm q = true) {a : List (List Int)} {i j : Nat} {row : List Int} {d : Int} {z : Fin N} (hrow : a[i]? = some row) (hd : tf N d = z) :
    tf N (mMul (nth row j % q) d q) = vec N (a.getD i []) j * z := by
  rw [mMul_ok hok, hqN, tf_mod, tf_mul, tf_mod, hd, (getD_of hrow).1]
  rfl
set_option maxRecDepth 100000 in
set_option maxHeartbeats 3200000 in
theorem det_c {N : Nat} [NeZero N] (A : Option Addr) (a : List (List Int)) (ca : Nat) (q : Int) (hqN : q = (N : Int)) (hok : okm q = true) (hq2 : 2 ≤ q) (_hal : a.length ≤ 9223372036854775807) (hau : ∀ l ∈ a, U64s l) : ∀ (R C : List Nat) (B D : Option Addr) (cb cd : Nat) (w : World), Grid w A a → Pl w B cb R → Pl w D cd C → DetOk a R C →
    Calls Tryd.prog 49 #[.slice A a.length ca, .slice B R.length cb, .slice D C.length cd, .int .u64 q] w fun e w' => ∃ d : Int, e = .returned (.int .u64 d) ∧ Hid (0 ≤ d ∧ d < q ∧ tf N d = dt R (colsV N a C)) ∧ Below w.heap.size w w' := by
  have hqu : U64 q := ⟨by omega, by have := okm_le hok; omega⟩
  have hq0 : (q == 0) = false := by rw [beq_eq_false_iff_ne]; omega
  intro R
  induction R with
  | nil =>
    intro C B D cb cd w hA hB hD hok'
    obtain rfl : C = [] := List.eq_nil_of_length_eq_zero hok'.len.symm
    have h1 : ((([] : List Nat).length : Int) == 0) = true := rfl
    have ht : Int.tmod 1 q = 1 := by rw [Int.tmod_eq_emod_of_nonneg (by decide)]; exact Int.emod_eq_of_lt (by decide) (by omega)
    clear hA hB hD hok' hqN
    go_enter Tryd.func49, Tryd.ntmps49
    go_wp2
    go_ret
    exact ⟨_, rfl, hid ⟨by decide, by omega, tf_one⟩, Below.refl _ _⟩
  | cons i R ih =>
    intro C B D cb cd w hA hB hD hokC
    have h1 : ((R.length : Int) + 1 == 0) = false := by rw [beq_eq_false_iff_ne]; omega
    have HA := hid hA
    have HB := hid hB
    have HD := hid hD
    have HK := hid hokC
    have HIH := hid ih
    have HQ := hid (⟨hqN, hok, hau⟩ : _ ∧ _ ∧ _)
    have hcl := hokC.few
    have hcd := hD.lo
    have hcd2 := hD.hi
    have hcb := hB.lo
    have hcb2 := hB.hi
    simp only [List.length_cons] at hcb
    obtain ⟨row, hrow⟩ := get_of_lt (hokC.rows i (by simp))
    have hil : (i : Int) < (a.length : Int) := by have := hokC.rows i (by simp); omega
    have HROW := hid hrow
    clear hA hB hD hokC ih hau hok hrow hqN
    go_enter Tryd.func49, Tryd.ntmps49
    go_wp2
    go_loopw [9, 10] (fun s x wr => ∃ (k : Nat) (S : Int), s = .int .u64 S ∧ x = .int .i64 (k : Int) ∧ k ≤ C.length ∧ Hid (DetI N a i R C q k S ∧ Below w.heap.size w wr)) (fun _ x _ => C.length - (intOf x).toNat)
    case atStart => exact ⟨0, 0, rfl, rfl, by omega, hid ⟨DetI.start a i R C (by omega), Below.refl _ _⟩⟩
    case round =>
    obtain ⟨k, S, rfl, rfl, hk, HI⟩ := hrel
    by_cases hlt : k < C.length
    case neg =>
      obtain rfl : k = C.length := by omega
      have hlt' : ¬ (C.length : Int) < (C.length : Int) := by omega
      go_wp2
      go_ret
      exact ⟨_, rfl, hid HI.out.1.fin, HI.out.2⟩
    have hlt' : (k : Int) < (C.length : Int) := by omega
    obtain ⟨j, hj⟩ := get_of_lt hlt
    have HJ := hid hj
    have hD1 := HD.out.below HI.out.2
    obtain ⟨bd, od, hbd, cd0⟩ := hD1.cells.at_ (intv_at hj)
    subst hbd
    have HD1 := hid hD1
    have HCD := hid cd0
    have HBW := hid HI.out.2
    have hkc : (k : Int) ≤ (cd : Int) := by omega
    have hkc1 : (k : Int) + 1 ≤ (C.length : Int) := by omega
    have hkc2 : (k : Int) + 1 ≤ (cd : Int) := by omega
    have HTL := hid (HK.out.tail hlt)
    have hlA : (C.take k).length = k := by rw [List.length_take]; omega
    have hlB : (C.drop (k + 1)).length = C.length - (k + 1) := List.length_drop ..
    obtain ⟨L1, hL1⟩ : ∃ L1, C.take k = L1 := ⟨_, rfl⟩
    obtain ⟨M1, hM1⟩ : ∃ M1, C.drop (k + 1) = M1 := ⟨_, rfl⟩
    rw [hL1] at hlA
    rw [hM1] at hlB
    have HLA := hid (⟨hlA, hL1⟩ : _ ∧ _)
    have HLB := hid (⟨hlB, hM1⟩ : _ ∧ _)
    clear hj hD1 cd0 hlA hlB hL1 hM1
    go_upto_region 7 with (fail)
    refine Rgi.wp_region (l := [_, _, _, _, _, _, _, _, _, _]) (tail := [_]) (⟨TwoB wr (intv L1) (intv M1), [0, 4, 8, 9]⟩) [some 24, some 25, some 26, some 27, some 28, some 29, some 30, some 31, some 32, some 33, some 11] 66 rfl (by kernel_rfl) (by kernel_rfl) rfl (TwoB.start _ _ _) ?_
    refine Rgi.op_sp [] rfl rfl (by kernel_rfl) ?_ ?_
    · intro g wx hb hg
      refine Rgi.from_nil fun T hT => ?_
      go_wp2
      exact hT _ _ rfl (TwoB.new hb hg)
    refine' Rgi.op_is _ [] rfl rfl (by kernel_rfl) ?_ ?_
    rotate_left
    · intro g wx hb
      refine Rgi.from_nil fun T hT => ?_
      go_wp2
      refine hT _ _ rfl hb ?_
      simp only [Rgi.last, List.getElem?_toArray, List.getElem?_cons_succ, List.getElem?_cons_zero, Option.getD_some]
      rfl
    refine' Rgi.op_is _ [] rfl rfl (by kernel_rfl) ?_ ?_
    rotate_left
    · intro g wx hb
      refine Rgi.from_nil fun T hT => ?_
      go_wp2
      refine hT _ _ rfl hb ?_
      simp only [Rgi.last, List.getElem?_toArray, List.getElem?_cons_succ, List.getElem?_cons_zero, Option.getD_some]
      rfl
    refine Rgi.op_is (.slice (some ⟨bd, od, none⟩) k cd) [1, 2] rfl rfl (by kernel_rfl) ?_ ?_
    · intro g wx hb
      refine Rgi.from_is (some 25) rfl rfl ?_
      refine Rgi.from_is (some 26) rfl rfl ?_
      refine Rgi.from_nil fun T hT => ?_
      go_wp2
      exact hT _ _ rfl hb (by first | rfl | exact congrArg _ (by decide))
    refine Rgi.op_sp [0, 3] rfl rfl (by kernel_rfl) ?_ ?_
    · intro g wx hb hg
      refine Rgi.from_sp (some 24) rfl rfl rfl fun v24 h24 => ?_
      refine Rgi.from_is (some 27) rfl rfl ?_
      refine Rgi.from_nil fun T hT => ?_
      have ho := TwoB.lit hb _ h24 hg
      at_builtin
      refine wpList_moreG elt_int' _ rfl _ _ rfl wr.heap.size ho rfl (news := intv L1) (by have := cells_cut (HD1.out.cells.below (TwoB.b hb)) k; rwa [intv_take, HLA.out.2] at this) (by rw [intv_len, HLA.out.1]; rfl) (intv_ones _) (by simp [intv_len]; have := HLA.out.1; omega) (by simp [intv_len]; have := HLA.out.1; omega) (TwoB.b hb).size ?_
      intro v' w' ho' hw'
      rw [List.nil_append] at ho'
      go_wp2
      exact hT _ _ rfl (TwoB.put1 hb hg h24 hw' ho')
    refine' Rgi.op_is _ [] rfl rfl (by kernel_rfl) ?_ ?_
    rotate_left
    · intro g wx hb
      refine Rgi.from_nil fun T hT => ?_
      go_wp2
      refine hT _ _ rfl hb ?_
      simp only [Rgi.last, List.getElem?_toArray, List.getElem?_cons_succ, List.getElem?_cons_zero, Option.getD_some]
      rfl
    refine' Rgi.op_is _ [] rfl rfl (by kernel_rfl) ?_ ?_
    rotate_left
    · intro g wx hb
      refine Rgi.from_nil fun T hT => ?_
      go_wp2
      refine hT _ _ rfl hb ?_
      simp only [Rgi.last, List.getElem?_toArray, List.getElem?_cons_succ, List.getElem?_cons_zero, Option.getD_some]
      rfl
    refine Rgi.op_is (.int .i64 ((k : Int) + 1)) [6] rfl rfl (by kernel_rfl) ?_ ?_
    · intro g wx hb
      refine Rgi.from_is (some 30) rfl rfl ?_
      refine Rgi.from_nil fun T hT => ?_
      go_wp2
      exact hT _ _ rfl hb (by first | rfl | exact congrArg _ (by decide))
    refine Rgi.op_sp [5, 7] rfl rfl (by kernel_rfl) ?_ ?_
    · intro g wx hb hg
      refine Rgi.from_is (some 29) rfl rfl ?_
      refine Rgi.from_is (some 31) rfl rfl ?_
      refine Rgi.from_nil fun T hT => ?_
      by_cases hcc : cd = k + 1
      · have hM0 : M1 = [] := List.eq_nil_of_length_eq_zero (by have := HLB.out.1; omega)
        have hcut := TwoB.cut hb hg (B := some ⟨bd, od, none⟩) (c := 0) (.inl (by rw [hM0]; rfl))
        rw [intv_len, HLB.out.1] at hcut
        have HCUT := hid hcut
        clear hM0 hcut
        go_wp2
        exact hT _ _ rfl HCUT.out
      · have hcut := TwoB.cut hb hg (c := cd - (k + 1)) (by have := cells_from HD1.out.cells (k + 1); rwa [intv_drop, HLB.out.2] at this)
        rw [intv_len, HLB.out.1] at hcut
        have HCUT := hid hcut
        clear hcut
        go_wp2
        exact hT _ _ rfl HCUT.out
    refine Rgi.op_sp [4, 8] rfl rfl (by kernel_rfl) ?_ ?_
    · intro g wx hb hg
      refine Rgi.from_sp (some 28) rfl rfl rfl fun v28 h28 => ?_
      refine Rgi.from_sp (some 32) rfl rfl rfl fun v32 h32 => ?_
      refine Rgi.from_nil fun T hT => ?_
      have ho := TwoB.one hb _ h28 hg
      obtain ⟨B2, c2, e2, k2⟩ := TwoB.part hb _ h32
      subst e2
      at_builtin
      refine wpList_moreG elt_int' _ rfl _ _ rfl wr.heap.size ho rfl (k2.below (TwoB.b hb)) rfl (intv_ones _) (by simp [intv_len]; have := HLA.out.1; have := HLB.out.1; omega) (by simp [intv_len]; have := HLA.out.1; have := HLB.out.1; omega) (TwoB.b hb).size ?_
      intro v' w' ho' hw'
      go_wp2
      exact hT _ _ rfl (TwoB.put2 hb h28 ho hw' ho')
    refine Rgi.walk_nil [0, 1, 2, 3, 4, 5, 6, 7, 8, 9] (by kernel_rfl) ?_
    intro g wx hb
    refine Rgi.from_sp (some 24) rfl rfl rfl fun v24 h24 => ?_
    refine Rgi.from_is (some 25) rfl rfl ?_
    refine Rgi.from_is (some 26) rfl rfl ?_
    refine Rgi.from_is (some 27) rfl rfl ?_
    refine Rgi.from_sp (some 28) rfl rfl rfl fun v28 h28 => ?_
    refine Rgi.from_is (some 29) rfl rfl ?_
    refine Rgi.from_is (some 30) rfl rfl ?_
    refine Rgi.from_is (some 31) rfl rfl ?_
    refine Rgi.from_sp (some 32) rfl rfl rfl fun v32 h32 => ?_
    refine Rgi.from_sp (some 33) rfl rfl rfl fun v33 h33 => ?_
    refine Rgi.from_nil ?_
    simp only [List.map, Act.put, List.setIfInBounds_toArray, List.set_cons_zero, List.set_cons_succ]
    have hX6 : Own wx wr.heap.size 3 v33 (intv (C.take k ++ C.drop (k + 1))) := by rw [intv_app, HLA.out.2, HLB.out.2]; exact TwoB.all hb _ h33
    have hb6 : Below wr.heap.size wr wx := TwoB.b hb
    clear h24 h28 h32 h33 hb
    generalize wx = w6 at *
    generalize hXX : C.take k ++ C.drop (k + 1) = X6 at *
    obtain ⟨B6, c6, rfl, hP6⟩ := pl_own hX6
    have HP6 := hid hP6
    have hb06 := below_next HBW.out HBW.out.size hb6
    have HB06 := hid hb06
    have hA6 := HA.out.below hb06
    have hB6 := HB.out.below hb06
    obtain ⟨br, or_, rfl, ci⟩ := hB6.cells.at_ (intv_at (l := i :: R) (k := 0) rfl)
    rw [Nat.add_zero] at ci
    obtain ⟨ba, oa, Ar, cr, rfl, cg, cgs, cgl⟩ := hA6.at_ HROW.out
    have hd6 := HD.out.below hb06
    obtain ⟨bd', od', ed, cj⟩ := hd6.cells.at_ (intv_at HJ.out)
    simp only [Option.some.injEq, Addr.mk.injEq, and_true] at ed
    obtain ⟨rfl, rfl⟩ := ed
    have HC6 := hid (⟨ci, cg, cj, cgs, hB6⟩ : _ ∧ _ ∧ _ ∧ _ ∧ _)
    have HA6 := hid hA6
    have hcgl := cgl
    have hur := HQ.out.2.2 row (List.mem_of_getElem? HROW.out)
    have HUR := hid hur
    have hqp : 0 < q := by omega
    clear hX6 hb6 hP6 hb06 hA6 hB6 ci cg cj cgs hd6 hur cgl
    go_upto_region 8 with (fail)
    refine Rg.wp_region (l := [_, _, _, _, _, _, _, _, _, _, _, _, _, _, _, _, _, _, _, _]) (tail := [_]) (Rg.grows _ 21) [some 34, some 35, some 36, some 37, some 38, some 39, some 40, some 41, some 42, some 43, some 44, some 45, some 46, some 47, some 48, some 49, some 50, some 51, some 52, some 53, some 12] 66 (by kernel_rfl) (by kernel_rfl) (by kernel_rfl) rfl (Rg.grows_fair _ _) (Rg.keep_drew _) (trivial) ?_
    refine' Rg.op_is _ [] rfl rfl (by kernel_rfl) ?_ ?_
    rotate_left
    · intro wx hb
      refine Rg.from_nil fun T hT => ?_
      go_wp2
      refine hT _ _ rfl (by first | exact Rg.Keep.refl _ | exact below_of_dr hw2 | exact hw2 | exact (Below.refl _ _).alloc (Nat.le_refl _) _) ?_
      simp only [Rg.last, List.getElem?_toArray, List.getElem?_cons_succ, List.getElem?_cons_zero, Option.getD_some]
      rfl
    refine' Rg.op_is _ [] rfl rfl (by kernel_rfl) ?_ ?_
    rotate_left
    · intro wx hb
      refine Rg.from_nil fun T hT => ?_
      go_wp2
      refine hT _ _ rfl (by first | exact Rg.Keep.refl _ | exact below_of_dr hw2 | exact hw2 | exact (Below.refl _ _).alloc (Nat.le_refl _) _) ?_
      simp only [Rg.last, List.getElem?_toArray, List.getElem?_cons_succ, List.getElem?_cons_zero, Option.getD_some]
      rfl
    refine' Rg.op_is _ [1] rfl rfl (by kernel_rfl) ?_ ?_
    rotate_left
    · intro wx hb
      refine Rg.from_is (some 35) rfl rfl ?_
      refine Rg.from_nil fun T hT => ?_
      go_wp2
      refine hT _ _ rfl (by first | exact Rg.Keep.refl _ | exact below_of_dr hw2 | exact hw2 | exact (Below.refl _ _).alloc (Nat.le_refl _) _) ?_
      simp only [Rg.last, List.getElem?_toArray, List.getElem?_cons_succ, List.getElem?_cons_zero, Option.getD_some]
      rfl
    refine Rg.op_is (.int .i64 (i : Int)) [2] rfl rfl (by kernel_rfl) ?_ ?_
    · intro wx hb
      refine Rg.from_is (some 36) rfl rfl ?_
      refine Rg.from_nil fun T hT => ?_
      have cx := (hb.cell (lt_of_cell HC6.out.1)).trans HC6.out.1
      go_wp2
      exact hT _ _ rfl (by first | exact Rg.Keep.refl _ | exact below_of_dr hw2 | exact hw2 | exact (Below.refl _ _).alloc (Nat.le_refl _) _) (by first | rfl | exact congrArg _ (by decide))
    refine' Rg.op_is _ [0, 3] rfl rfl (by kernel_rfl) ?_ ?_
    rotate_left
    · intro wx hb
      refine Rg.from_is (some 34) rfl rfl ?_
      refine Rg.from_is (some 37) rfl rfl ?_
      refine Rg.from_nil fun T hT => ?_
      go_wp2
      refine hT _ _ rfl (by first | exact Rg.Keep.refl _ | exact below_of_dr hw2 | exact hw2 | exact (Below.refl _ _).alloc (Nat.le_refl _) _) ?_
      simp only [Rg.last, List.getElem?_toArray, List.getElem?_cons_succ, List.getElem?_cons_zero, Option.getD_some]
      rfl
    refine Rg.op_is (.slice Ar row.length cr) [4] rfl rfl (by kernel_rfl) ?_ ?_
    · intro wx hb
      refine Rg.from_is (some 38) rfl rfl ?_
      refine Rg.from_nil fun T hT => ?_
      have cx := (hb.cell (lt_of_cell HC6.out.2.1)).trans HC6.out.2.1
      go_wp2
      exact hT _ _ rfl (by first | exact Rg.Keep.refl _ | exact below_of_dr hw2 | exact hw2 | exact (Below.refl _ _).alloc (Nat.le_refl _) _) (by first | rfl | exact congrArg _ (by decide))
    refine' Rg.op_is _ [] rfl rfl (by kernel_rfl) ?_ ?_
    rotate_left
    · intro wx hb
      refine Rg.from_nil fun T hT => ?_
      go_wp2
      refine hT _ _ rfl (by first | exact Rg.Keep.refl _ | exact below_of_dr hw2 | exact hw2 | exact (Below.refl _ _).alloc (Nat.le_refl _) _) ?_
      simp only [Rg.last, List.getElem?_toArray, List.getElem?_cons_succ, List.getElem?_cons_zero, Option.getD_some]
      rfl
    refine' Rg.op_is _ [] rfl rfl (by kernel_rfl) ?_ ?_
    rotate_left
    · intro wx hb
      refine Rg.from_nil fun T hT => ?_
      go_wp2
      refine hT _ _ rfl (by first | exact Rg.Keep.refl _ | exact below_of_dr hw2 | exact hw2 | exact (Below.refl _ _).alloc (Nat.le_refl _) _) ?_
      simp only [Rg.last, List.getElem?_toArray, List.getElem?_cons_succ, List.getElem?_cons_zero, Option.getD_some]
      rfl
    refine' Rg.op_is _ [6, 7] rfl rfl (by kernel_rfl) ?_ ?_
    rotate_left
    · intro wx hb
      refine Rg.from_is (some 40) rfl rfl ?_
      refine Rg.from_is (some 41) rfl rfl ?_
      refine Rg.from_nil fun T hT => ?_
      go_wp2
      refine hT _ _ rfl (by first | exact Rg.Keep.refl _ | exact below_of_dr hw2 | exact hw2 | exact (Below.refl _ _).alloc (Nat.le_refl _) _) ?_
      simp only [Rg.last, List.getElem?_toArray, List.getElem?_cons_succ, List.getElem?_cons_zero, Option.getD_some]
      rfl
    refine Rg.op_is (.int .i64 (j : Int)) [8] rfl rfl (by kernel_rfl) ?_ ?_
    · intro wx hb
      refine Rg.from_is (some 42) rfl rfl ?_
      refine Rg.from_nil fun T hT => ?_
      have cx := (hb.cell (lt_of_cell HC6.out.2.2.1)).trans HC6.out.2.2.1
      go_wp2
      exact hT _ _ rfl (by first | exact Rg.Keep.refl _ | exact below_of_dr hw2 | exact hw2 | exact (Below.refl _ _).alloc (Nat.le_refl _) _) (by first | rfl | exact congrArg _ (by decide))
    refine' Rg.op_is _ [] rfl rfl (by kernel_rfl) ?_ ?_
    rotate_left
    · intro wx hb
      refine Rg.from_nil fun T hT => ?_
      go_wp2
      refine hT _ _ rfl (by first | exact Rg.Keep.refl _ | exact below_of_dr hw2 | exact hw2 | exact (Below.refl _ _).alloc (Nat.le_refl _) _) ?_
      simp only [Rg.last, List.getElem?_toArray, List.getElem?_cons_succ, List.getElem?_cons_zero, Option.getD_some]
      rfl
    refine Rg.op_is (.int .u64 (nth row j % q)) [5, 9, 10] rfl rfl (by kernel_rfl) ?_ ?_
    · intro wx hb
      refine Rg.from_is (some 39) rfl rfl ?_
      refine Rg.from_is (some 43) rfl rfl ?_
      refine Rg.from_is (some 44) rfl rfl ?_
      refine Rg.from_nil fun T hT => ?_
      go_wp2_with (go_at_call 50; refine (at04_c Ar row cr j q _ (HC6.out.2.2.2.1.below hb) hcgl HUR.out hqp).mono ?_; rintro e w9 ⟨rfl, rfl⟩)
      exact hT _ _ rfl (by first | exact Rg.Keep.refl _ | exact below_of_dr hw2 | exact hw2 | exact (Below.refl _ _).alloc (Nat.le_refl _) _) (by first | rfl | exact congrArg _ (by decide))
    refine' Rg.op_is _ [] rfl rfl (by kernel_rfl) ?_ ?_
    rotate_left
    · intro wx hb
      refine Rg.from_nil fun T hT => ?_
      go_wp2
      refine hT _ _ rfl (by first | exact Rg.Keep.refl _ | exact below_of_dr hw2 | exact hw2 | exact (Below.refl _ _).alloc (Nat.le_refl _) _) ?_
      simp only [Rg.last, List.getElem?_toArray, List.getElem?_cons_succ, List.getElem?_cons_zero, Option.getD_some]
      rfl
    refine' Rg.op_is _ [] rfl rfl (by kernel_rfl) ?_ ?_
    rotate_left
    · intro wx hb
      refine Rg.from_nil fun T hT => ?_
      go_wp2
      refine hT _ _ rfl (by first | exact Rg.Keep.refl _ | exact below_of_dr hw2 | exact hw2 | exact (Below.refl _ _).alloc (Nat.le_refl _) _) ?_
      simp only [Rg.last, List.getElem?_toArray, List.getElem?_cons_succ, List.getElem?_cons_zero, Option.getD_some]
      rfl
    refine Rg.op_of (fun w' v => ∃ B2 c2, v = .slice B2 R.length c2 ∧ Pl w' B2 c2 R) [13] rfl ?_ ?_ rfl (by kernel_rfl) ?_ ?_
    · exact fun w1 w2 v hk h => h.imp fun B2 h => h.imp fun c2 h => ⟨h.1, h.2.below hk⟩
    · exact fun w1 w2 v hk h => h.imp fun B2 h => h.imp fun c2 h => ⟨h.1, h.2.below hk⟩
    · intro wx hb
      refine Rg.from_is (some 47) rfl rfl ?_
      refine Rg.from_nil fun T hT => ?_
      have hP := HC6.out.2.2.2.2.below hb
      by_cases hcc : cb = 1
      · have hR0 : R = [] := List.eq_nil_of_length_eq_zero (by omega)
        have HPL := hid (show Pl wx (some ⟨br, or_, none⟩) 0 R from ⟨.inl (by rw [hR0]; rfl), by rw [hR0]; exact Nat.le_refl _, by decide⟩)
        clear hR0 hP
        go_wp2
        exact hT _ _ rfl (Rg.Keep.refl _) ⟨_, _, rfl, HPL.out⟩
      · have HPL := hid (show Pl wx (some ⟨br, or_ + 1, none⟩) (cb - 1) R from ⟨by have := cells_from hP.cells 1; rwa [intv_drop] at this, by omega, by omega⟩)
        clear hP
        go_wp2
        exact hT _ _ rfl (Rg.Keep.refl _) ⟨_, _, rfl, HPL.out⟩
    refine' Rg.op_is _ [] rfl rfl (by kernel_rfl) ?_ ?_
    rotate_left
    · intro wx hb
      refine Rg.from_nil fun T hT => ?_
      go_wp2
      refine hT _ _ rfl (by first | exact Rg.Keep.refl _ | exact below_of_dr hw2 | exact hw2 | exact (Below.refl _ _).alloc (Nat.le_refl _) _) ?_
      simp only [Rg.last, List.getElem?_toArray, List.getElem?_cons_succ, List.getElem?_cons_zero, Option.getD_some]
      rfl
    refine' Rg.op_is _ [] rfl rfl (by kernel_rfl) ?_ ?_
    rotate_left
    · intro wx hb
      refine Rg.from_nil fun T hT => ?_
      go_wp2
      refine hT _ _ rfl (by first | exact Rg.Keep.refl _ | exact below_of_dr hw2 | exact hw2 | exact (Below.refl _ _).alloc (Nat.le_refl _) _) ?_
      simp only [Rg.last, List.getElem?_toArray, List.getElem?_cons_succ, List.getElem?_cons_zero, Option.getD_some]
      rfl
    refine Rg.op_of (fun w' v => ∃ d : Int, v = .int .u64 d ∧ Hid (0 ≤ d ∧ d < q ∧ tf N d = dt R (colsV N a X6))) [12, 14, 15, 16] rfl ?_ ?_ rfl (by kernel_rfl) ?_ ?_
    · exact fun w1 w2 v hk h => h
    · exact fun w1 w2 v hk h => h
    · intro wx hb
      refine Rg.from_is (some 46) rfl rfl ?_
      refine Rg.from_of (some 48) rfl rfl fun v48 h48 => ?_
      refine Rg.from_is (some 49) rfl rfl ?_
      refine Rg.from_is (some 50) rfl rfl ?_
      refine Rg.from_nil fun T hT => ?_
      obtain ⟨B2, c2, rfl, hP2⟩ := h48
      have hcall := HIH.out X6 B2 (B6) c2 c6 wx (HA6.out.below hb) hP2 (HP6.out.below hb) HTL.out
      have HCALL := hid hcall
      clear hcall hP2
      go_wp2_with (go_at_call 49; refine HCALL.out.mono ?_; rintro e w9 ⟨d, rfl, hd, hb9⟩)
      exact hT _ _ rfl hb9 ⟨_, rfl, hd⟩
    refine' Rg.op_is _ [] rfl rfl (by kernel_rfl) ?_ ?_
    rotate_left
    · intro wx hb
      refine Rg.from_nil fun T hT => ?_
      go_wp2
      refine hT _ _ rfl (by first | exact Rg.Keep.refl _ | exact below_of_dr hw2 | exact hw2 | exact (Below.refl _ _).alloc (Nat.le_refl _) _) ?_
      simp only [Rg.last, List.getElem?_toArray, List.getElem?_cons_succ, List.getElem?_cons_zero, Option.getD_some]
      rfl
    refine Rg.op_of (fun w' v => ∃ x : Int, v = .int .u64 x ∧ Hid (U64 x ∧ tf N x = vec N (a.getD i []) j * dt R (colsV N a X6))) [11, 17, 18] rfl ?_ ?_ rfl (by kernel_rfl) ?_ ?_
    · exact fun w1 w2 v hk h => h
    · exact fun w1 w2 v hk h => h
    · intro wx hb
      refine Rg.from_is (some 45) rfl rfl ?_
      refine Rg.from_of (some 51) rfl rfl fun v51 h51 => ?_
      refine Rg.from_is (some 52) rfl rfl ?_
      refine Rg.from_nil fun T hT => ?_
      obtain ⟨d, rfl, hd⟩ := h51
      have hm := rmul_c (nth row j % q) d q (mod_u64 HQ.out.2.1) (by have := hd.out; have := okm_le HQ.out.2.1; exact ⟨by omega, by omega⟩) hqu wx
      have HM := hid hm
      clear hm
      go_wp2_with (go_at_call 51; refine HM.out.mono ?_; rintro e w9 ⟨rfl, hd9⟩)
      refine hT _ _ rfl (below_of_dr hd9) ⟨_, rfl, hid ⟨mMul_u64 _ _ _, ?_⟩⟩
      exact det_term HQ.out.1 HQ.out.2.1 HROW.out hd.out.2.2
    refine Rg.walk_nil [0, 1, 2, 3, 4, 5, 6, 7, 8, 9, 10, 11, 12, 13, 14, 15, 16, 17, 18, 19] (by kernel_rfl) ?_
    intro wx hb
    refine Rg.from_is (some 34) rfl rfl ?_
    refine Rg.from_is (some 35) rfl rfl ?_
    refine Rg.from_is (some 36) rfl rfl ?_
    refine Rg.from_is (some 37) rfl rfl ?_
    refine Rg.from_is (some 38) rfl rfl ?_
    refine Rg.from_is (some 39) rfl rfl ?_
    refine Rg.from_is (some 40) rfl rfl ?_
    refine Rg.from_is (some 41) rfl rfl ?_
    refine Rg.from_is (some 42) rfl rfl ?_
    refine Rg.from_is (some 43) rfl rfl ?_
    refine Rg.from_is (some 44) rfl rfl ?_
    refine Rg.from_is (some 45) rfl rfl ?_
    refine Rg.from_is (some 46) rfl rfl ?_
    refine Rg.from_is (some 47) rfl rfl ?_
    refine Rg.from_of (some 48) rfl rfl fun v48 h48 => ?_
    refine Rg.from_is (some 49) rfl rfl ?_
    refine Rg.from_is (some 50) rfl rfl ?_
    refine Rg.from_of (some 51) rfl rfl fun v51 h51 => ?_
    refine Rg.from_is (some 52) rfl rfl ?_
    refine Rg.from_of (some 53) rfl rfl fun v53 h53 => ?_
    refine Rg.from_nil ?_
    simp only [List.map, Act.put, List.setIfInBounds_toArray, List.set_cons_zero, List.set_cons_succ]
    obtain ⟨x, rfl, hx⟩ := h53
    have HXX := hid hXX
    have HW9 := hid (below_next HB06.out HB06.out.size hb)
    have ht2 : Int.tmod (k : Int) 2 = (k : Int) % 2 := Int.tmod_eq_emod_of_nonneg (by omega)
    have hST := HI.out.1.step HQ.out.1 HJ.out (by rw [HXX.out]; exact hx.out.2)
    have hSu : U64 S := ⟨HI.out.1.1, by have := HI.out.1.2.1; have := okm_le HQ.out.2.1; omega⟩
    have hxu := hx.out.1
    have HOK := hid HQ.out.2.1
    clear h48 h51 hx hb hXX
    by_cases hm : k % 2 = 0
    · have hm2 : ((k : Int) % 2 == 0) = true := by rw [beq_iff_eq]; omega
      rw [if_pos hm] at hST
      have HST := hid hST
      clear hm hST
      go_wp2_with (fail)
      refine (radd_c S x q hSu hxu hqu wx).mono ?_
      rintro e w9 ⟨rfl, hd9⟩
      rw [mAdd_ok HOK.out]
      have HN := hid (⟨HST.out, below_dr HW9.out hd9⟩ : _ ∧ _)
      clear hd9
      go_wp2
      go_roundw
      case rel => trace_state; exact ⟨k + 1, _, rfl, by go_num, by omega, HN⟩
      case measure => simp [intOf]; omega
    · have hm2 : ((k : Int) % 2 == 0) = false := by rw [beq_eq_false_iff_ne]; omega
      rw [if_neg hm] at hST
      have HST := hid hST
      clear hm hST
      go_wp2_with (fail)
      refine (rsub_c S x q hSu hxu hqu wx).mono ?_
      rintro e w9 ⟨rfl, hd9⟩
      rw [mSub_ok HOK.out]
      have HN := hid (⟨HST.out, below_dr HW9.out hd9⟩ : _ ∧ _)
      clear hd9
      go_wp2
      go_roundw
      case rel => trace_state; exact ⟨k + 1, _, rfl, by go_num, by omega, HN⟩
      case measure => simp [intOf]; omega
end Go.Proofs.YtlbhmoiicbhgkaaDoor
