/-
  How far a place, and another one, are from the others of a row: 1 divided by the one product, and the other product.
-/
import Derived.Test.YtnmadmcegdpecaaShareA
import Derived.Test.YtnmadmcegdpecaaRound
import Derived.Laws.EntriesVeiled
import Derived.RegionTactic
import Derived.ChangeAlike
namespace Go.Proofs.Ytnmadmcegdpecaa
open Go.RowKit Go.Shelf

attribute [local go_sem] Oper.semAt_some

theorem Oth.put {A : Option Addr} {l : List Int} {c : Nat} {i at_ q : Int} {g1 g2 g3 g4 m : Nat} {o : Obj} {w : World} (o' : Obj) (h : Oth A l c i at_ q g1 g2 g3 g4 w) (hl : w.heap[m]? = some o) (hc : o.isCells = false) : Oth A l c i at_ q g1 g2 g3 g4 (w.putObj m o') :=
  ⟨h.r1.put o' hl hc, h.r2.put o' hl hc, h.r3.put o' hl hc, h.r4.put o' hl hc, h.A.put o' hl hc⟩

/-- the products of those that have come. -/
def prU (q : Int) (pre : List (Int × Int)) : Int := pre.foldl (fun s p => mMul s p.1 q) (1 % q)
def prV (q : Int) (pre : List (Int × Int)) : Int := pre.foldl (fun s p => mMul s p.2 q) (1 % q)
theorem prU_snoc (q : Int) (pre : List (Int × Int)) (y : Int × Int) : prU q (pre ++ [y]) = mMul (prU q pre) y.1 q := by simp [prU]
theorem prV_snoc (q : Int) (pre : List (Int × Int)) (y : Int × Int) : prV q (pre ++ [y]) = mMul (prV q pre) y.2 q := by simp [prV]
theorem prU_u64 {q : Int} (h : okm q = true) (pre : List (Int × Int)) : U64 (prU q pre) := by
  unfold prU
  have key : ∀ (l : List (Int × Int)) (s : Int), U64 s → U64 (l.foldl (fun s p => mMul s p.1 q) s) := by
    intro l
    induction l with
    | nil => exact fun s h => h
    | cons z l ih => exact fun s _ => ih _ (mMul_u64 _ _ _)
  exact key _ _ (mod_u64 h)
theorem prV_u64 {q : Int} (h : okm q = true) (pre : List (Int × Int)) : U64 (prV q pre) := by
  unfold prV
  have key : ∀ (l : List (Int × Int)) (s : Int), U64 s → U64 (l.foldl (fun s p => mMul s p.2 q) s) := by
    intro l
    induction l with
    | nil => exact fun s h => h
    | cons z l ih => exact fun s _ => ih _ (mMul_u64 _ _ _)
  exact key _ _ (mod_u64 h)
theorem prU_oths (l : List Int) (i : Nat) (z at_ q : Int) : prU q (oths l i z at_ q) = mProd (but l i) z q := by
  unfold prU oths mProd
  rw [List.foldl_map]
theorem prV_oths (l : List Int) (i : Nat) (z at_ q : Int) : prV q (oths l i z at_ q) = mProd (but l i) at_ q := by
  unfold prV oths mProd
  rw [List.foldl_map]

/-- what lies in memory while the products are made. -/
structure Sw (A : Option Addr) (l : List Int) (c : Nat) (i at_ q : Int) (g1 g2 g3 g4 gq gu gv : Nat) (w0 : World) (pre : List (Int × Int)) (w : World) : Prop where
  F : Oth A l c i at_ q g1 g2 g3 g4 w
  Q : Row1 w gq 23 [.int .u64 q]
  U : Row1 w gu 23 [.int .u64 (prU q pre)]
  V : Row1 w gv 23 [.int .u64 (prV q pre)]
  b : Below w0.heap.size w0 w

set_option maxRecDepth 100000 in
set_option maxHeartbeats 4000000 in
theorem share_c (A : Option Addr) (l : List Int) (c i : Nat) (z at_ q : Int) (w : World) (hA : Cells w A (l.map (.int .u64))) (hl : l.length ≤ 1000000) (hi : l[i]? = some z) (hu : U64s l) (hat : U64 at_) (hq : U64 q) (hk : okm q = true) :
    Calls Try.prog 97 #[.slice A l.length c, .int .i64 i, .int .u64 at_, .int .u64 q] w fun e w' => e = .returned (.tuple #[.int .u64 (iVal (mProd (but l i) z q) q), .int .u64 (mProd (but l i) at_ q), .int .i64 (iErr (mProd (but l i) z q) q)]) ∧ Below w.heap.size w w' := by
  have h0 := okm_pos hk
  have h1 := okm_le hk
  refine (callsIn_wide (n := 10)).1 ?_
  refine callsIn_of_wp_marks Try.func97 rfl trivial ?_ rfl
  refine (wpIn_wide (n := 10)).2 ?_
  simp only [Try.ntmps97, List.size_toArray, List.length_cons, List.length_nil, Nat.reduceAdd, Nat.reduceSub, Array.replicate_succ, Array.replicate_zero, List.push_toArray, List.append_toArray, List.nil_append, List.cons_append]
  go_wp2
  go_region
  rotate_left
  all_goals
    have hQ : Row1 ((((w.alloc (.cells #[.int .u64 q] 23)).alloc (.cells #[.int .u64 (1 % q)] 23)).alloc (.cells #[.int .u64 (1 % q)] 23)).drew) w.heap.size 23 [.int .u64 q] := ((row1_new w [.int .u64 q] 23).alloc _).alloc _
    have h1r : Row1 ((((w.alloc (.cells #[.int .u64 q] 23)).alloc (.cells #[.int .u64 (1 % q)] 23)).alloc (.cells #[.int .u64 (1 % q)] 23)).drew) (w.heap.size + 1) 23 [.int .u64 (1 % q)] := (row1_in (w.alloc (.cells #[.int .u64 q] 23)) [.int .u64 (1 % q)] 23 (w.heap.size + 1) (by simp)).alloc _
    have h2r : Row1 ((((w.alloc (.cells #[.int .u64 q] 23)).alloc (.cells #[.int .u64 (1 % q)] 23)).alloc (.cells #[.int .u64 (1 % q)] 23)).drew) (w.heap.size + 1 + 1) 23 [.int .u64 (1 % q)] := row1_in ((w.alloc (.cells #[.int .u64 q] 23)).alloc (.cells #[.int .u64 (1 % q)] 23)) [.int .u64 (1 % q)] 23 (w.heap.size + 1 + 1) (by simp)
    have hb : Below w.heap.size w ((((w.alloc (.cells #[.int .u64 q] 23)).alloc (.cells #[.int .u64 (1 % q)] 23)).alloc (.cells #[.int .u64 (1 % q)] 23)).drew) := below_dr (((below_alloc w _).alloc (by simp) _).alloc (by simp; omega) _) ⟨1, rfl⟩
    have hlt2 := h2r.lt
    have hlt1 := h1r.lt
    have hgs : w.heap.size + 1 ≠ w.heap.size + 1 + 1 := by omega
    have hgs' : w.heap.size + 1 + 1 ≠ w.heap.size + 1 := by omega
    have hge1 : w.heap.size < w.heap.size + 1 := by omega
    have hge2 : w.heap.size < w.heap.size + 1 + 1 := by omega
    generalize (((w.alloc (.cells #[.int .u64 q] 23)).alloc (.cells #[.int .u64 (1 % q)] 23)).alloc (.cells #[.int .u64 (1 % q)] 23)).drew = w2 at *
  generalize w.heap.size + 1 + 1 = gu at *
  generalize w.heap.size + 1 = gv at *
  rotate_left
  generalize w.heap.size + 1 + 1 = gv at *
  generalize w.heap.size + 1 = gu at *
  rotate_left
  · have hU : Row1 w2 gu 23 [.int .u64 (1 % q)] := by assumption
    have hV : Row1 w2 gv 23 [.int .u64 (1 % q)] := by assumption
    have hne : gu ≠ gv := by assumption
    have hne' : gv ≠ gu := by assumption
    have hgu : w.heap.size < gu := by assumption
    have hgv : w.heap.size < gv := by assumption
    clear h1r h2r hlt1 hlt2 hgs hgs' hge1 hge2
    have HI := hid hi
    clear hi
    have hcQ0 := hQ.cell (k := 0) rfl
    go_wp2_with (fail)
    refine (others_c A l c i at_ q w2 (hA.keep fun p hp => hb.cell hp)).mono ?_
    rintro e w3 ⟨g1, g2, g3, g4, rfl, hF, hb3, hl1, hl2, hl3, hl4⟩
    have hlU := hU.lt
    have hlV := hV.lt
    have hlQ := hQ.lt
    have S : Sw A l c i at_ q g1 g2 g3 g4 w.heap.size gu gv w [] w3 := ⟨hF, hQ.below hb3, hU.below hb3, hV.below hb3, below_next hb hb.size hb3⟩
    clear hQ hU hV hF hb hb3 hcQ0
    go_wp2
    refine (wpIn_wide (n := 10)).1 ?_
    refine wpIn_rangeAll (n := 10) rfl (by decide) (gf := 120) (lb := #[.pointer (some ⟨g1, 0, none⟩), .pointer (some ⟨g2, 0, none⟩), .pointer (some ⟨g3, 0, none⟩), .pointer (some ⟨g4, 0, none⟩)]) rfl trivial (enters_of Try.func120 (by kernel_rfl) rfl) (encs := fun y : Int × Int => #[.int .u64 y.1, .int .u64 y.2]) (fun _ => rfl)
      (Sw A l c i at_ q g1 g2 g3 g4 w.heap.size gu gv w) (fun y _ => U64 y.1 ∧ U64 y.2) (fun xs => xs = oths l i z at_ q) (fun B1 B2 => Oth A l c i at_ q g1 g2 g3 g4 B1 → Oth A l c i at_ q g1 g2 g3 g4 B2)
      ?ib1 ?ip1 ?op1 (fun _ _ _ h1 h2 h3 => h2 (h1 h3)) (fun B1 l o o' _ h1 h2 h3 => h3.put o' h1 h2) S ?it1 ?a₁1 ?assign1 ?body1 ?done1
    case assign1 =>
      intro l y W K hK
      gi_wp2
      exact hK
    case ib1 => exact fun xs B1 B2 hs h hb => ⟨h.F.below hb, h.Q.below hb, h.U.below hb, h.V.below hb, below_next h.b h.b.size hb⟩
    case ip1 => exact fun xs B1 l o o' h hs h1 h2 => ⟨h.F.put o' h1 h2, h.Q.put o' h1 h2, h.U.put o' h1 h2, h.V.put o' h1 h2, below_put o' h.b (by have := S.b.size; omega)⟩
    case op1 => exact fun y B1 l o o' h hs h1 h2 => h
    case it1 =>
      intro l' J W hbW hJ hY h0
      exact callsIn_wide.2 ((others1_c A l c i z at_ q g1 g2 g3 g4 l' 8 W J hJ (fun pre y W' hs hj hy1 hy2 => hY pre y W' hs hj ⟨hy1, hy2⟩) (S.F.below hbW) HI.out hl hu hat hq h0).mono fun e w' h => ⟨h.1, _, rfl, h.2⟩)
    case body1 =>
      intro l' pre y W hsW hI hOk
      obtain ⟨y1, y2⟩ := y
      obtain ⟨hy1, hy2⟩ := hOk
      dsimp only at hy1 hy2
      have hcU := hI.U.cell (k := 0) rfl
      have hcV := hI.V.cell (k := 0) rfl
      have hcQ := hI.Q.cell (k := 0) rfl
      have huU := prU_u64 hk pre
      have huV := prV_u64 hk pre
      gi_wp2
      refine Rgb.round_region (by rintro ⟨a, w, h⟩; cases h.1) (L := [_, _, _, _, _, _, _, _]) (tail := [_, _]) (Rgb.grows _ 10) [some 28, some 29, some 30, some 31, some 32, some 33, some 34, some 35, none, none] 45 (by kernel_rfl) (by kernel_rfl) (by kernel_rfl) (by kernel_rfl) rfl (Rgb.grows_fair _ _) (Rgb.keep_drew _) (trivial) ?_
      refine Rgb.op_is (.int .u64 (prU q pre)) [] rfl rfl (by kernel_rfl) ?_ ?_
      · intro wx hb
        refine Rgb.from_nil fun T hT => ?_
        have g1 := (hb.cell (lt_of_cell hcU)).trans hcU
        go_wp2
        exact hT _ _ rfl (by first | exact Rgb.Keep.refl _ | exact below_of_dr hw2 | exact hw2 | exact (Below.refl _ _).alloc (Nat.le_refl _) _) (by first | rfl | exact congrArg _ (by decide))
      refine' Rgb.op_is _ [] rfl rfl (by kernel_rfl) ?_ ?_
      rotate_left
      · intro wx hb
        refine Rgb.from_nil fun T hT => ?_
        go_wp2
        refine hT _ _ rfl (by first | exact Rgb.Keep.refl _ | exact below_of_dr hw2 | exact hw2 | exact (Below.refl _ _).alloc (Nat.le_refl _) _) ?_
        simp only [Rgb.last, List.getElem?_toArray, List.getElem?_cons_succ, List.getElem?_cons_zero, Option.getD_some]
        rfl
      refine Rgb.op_is (.int .u64 q) [] rfl rfl (by kernel_rfl) ?_ ?_
      · intro wx hb
        refine Rgb.from_nil fun T hT => ?_
        have g1 := (hb.cell (lt_of_cell hcQ)).trans hcQ
        go_wp2
        exact hT _ _ rfl (by first | exact Rgb.Keep.refl _ | exact below_of_dr hw2 | exact hw2 | exact (Below.refl _ _).alloc (Nat.le_refl _) _) (by first | rfl | exact congrArg _ (by decide))
      refine Rgb.op_is (.int .u64 (mMul (prU q pre) y1 q)) [0, 1, 2] rfl rfl (by kernel_rfl) ?_ ?_
      · intro wx hb
        refine Rgb.from_is (some 28) rfl rfl ?_
        refine Rgb.from_is (some 29) rfl rfl ?_
        refine Rgb.from_is (some 30) rfl rfl ?_
        refine Rgb.from_nil fun T hT => ?_
        go_wp2_with (go_at_call 33; refine (mul_c _ _ _ huU hy1 hq _).mono ?_; rintro e w5 ⟨rfl, hw5⟩)
        exact hT _ _ rfl (below_of_dr hw5) rfl
      refine Rgb.op_is (.int .u64 (prV q pre)) [] rfl rfl (by kernel_rfl) ?_ ?_
      · intro wx hb
        refine Rgb.from_nil fun T hT => ?_
        have g1 := (hb.cell (lt_of_cell hcV)).trans hcV
        go_wp2
        exact hT _ _ rfl (by first | exact Rgb.Keep.refl _ | exact below_of_dr hw2 | exact hw2 | exact (Below.refl _ _).alloc (Nat.le_refl _) _) (by first | rfl | exact congrArg _ (by decide))
      refine' Rgb.op_is _ [] rfl rfl (by kernel_rfl) ?_ ?_
      rotate_left
      · intro wx hb
        refine Rgb.from_nil fun T hT => ?_
        go_wp2
        refine hT _ _ rfl (by first | exact Rgb.Keep.refl _ | exact below_of_dr hw2 | exact hw2 | exact (Below.refl _ _).alloc (Nat.le_refl _) _) ?_
        simp only [Rgb.last, List.getElem?_toArray, List.getElem?_cons_succ, List.getElem?_cons_zero, Option.getD_some]
        rfl
      refine Rgb.op_is (.int .u64 q) [] rfl rfl (by kernel_rfl) ?_ ?_
      · intro wx hb
        refine Rgb.from_nil fun T hT => ?_
        have g1 := (hb.cell (lt_of_cell hcQ)).trans hcQ
        go_wp2
        exact hT _ _ rfl (by first | exact Rgb.Keep.refl _ | exact below_of_dr hw2 | exact hw2 | exact (Below.refl _ _).alloc (Nat.le_refl _) _) (by first | rfl | exact congrArg _ (by decide))
      refine Rgb.op_is (.int .u64 (mMul (prV q pre) y2 q)) [4, 5, 6] rfl rfl (by kernel_rfl) ?_ ?_
      · intro wx hb
        refine Rgb.from_is (some 32) rfl rfl ?_
        refine Rgb.from_is (some 33) rfl rfl ?_
        refine Rgb.from_is (some 34) rfl rfl ?_
        refine Rgb.from_nil fun T hT => ?_
        go_wp2_with (go_at_call 33; refine (mul_c _ _ _ huV hy2 hq _).mono ?_; rintro e w5 ⟨rfl, hw5⟩)
        exact hT _ _ rfl (below_of_dr hw5) rfl
      refine Rgb.walk_nil [0, 1, 2, 3, 4, 5, 6, 7] (by kernel_rfl) ?_
      intro wx hb
      refine Rgb.from_is (some 28) rfl rfl ?_
      refine Rgb.from_is (some 29) rfl rfl ?_
      refine Rgb.from_is (some 30) rfl rfl ?_
      refine Rgb.from_is (some 31) rfl rfl ?_
      refine Rgb.from_is (some 32) rfl rfl ?_
      refine Rgb.from_is (some 33) rfl rfl ?_
      refine Rgb.from_is (some 34) rfl rfl ?_
      refine Rgb.from_is (some 35) rfl rfl ?_
      refine Rgb.from_nil ?_
      simp only [List.map, Act.put, List.setIfInBounds_toArray, List.set_cons_zero, List.set_cons_succ]
      have hU2 := hI.U.below hb
      have hV2 := hI.V.below hb
      have hcU2 := hU2.cell (k := 0) rfl
      have hfU2 := hU2.frozen 0
      have hV3 := hV2.far (p := ⟨gu, 0, none⟩) hne (.int .u64 (mMul (prU q pre) y1 q))
      have hcV3 := hV3.cell (k := 0) rfl
      have hfV3 := hV3.frozen 0
      have hb2 := below_next hI.b hI.b.size hb
      have hF2 := hI.F.below hb
      have hQ2 := hI.Q.below hb
      have hU3 := (hU2.set 0 (.int .u64 (mMul (prU q pre) y1 q))).far (p := ⟨gv, 0, none⟩) hne' (.int .u64 (mMul (prV q pre) y2 q))
      have hV4 := hV3.set 0 (.int .u64 (mMul (prV q pre) y2 q))
      clear hcU hcV hcQ huU huV hU2 hV2
      go_wp2
      have hb4 : Below w.heap.size w ((wx.setCell ⟨gu, 0, none⟩ (.int .u64 (mMul (prU q pre) y1 q))).setCell ⟨gv, 0, none⟩ (.int .u64 (mMul (prV q pre) y2 q))) := (hb2.setCell (p := ⟨gu, 0, none⟩) (Nat.le_of_lt hgu) _).setCell (p := ⟨gv, 0, none⟩) (Nat.le_of_lt hgv) _
      have hFk : ∀ B1, Oth A l c i at_ q g1 g2 g3 g4 B1 → Oth A l c i at_ q g1 g2 g3 g4 wx → Oth A l c i at_ q g1 g2 g3 g4 ((wx.setCell ⟨gu, 0, none⟩ (.int .u64 (mMul (prU q pre) y1 q))).setCell ⟨gv, 0, none⟩ (.int .u64 (mMul (prV q pre) y2 q))) := fun B1 _ h2 =>
        ⟨(h2.r1.far (by simp; omega) _).far (by simp; omega) _, (h2.r2.far (by simp; omega) _).far (by simp; omega) _, (h2.r3.far (by simp; omega) _).far (by simp; omega) _, (h2.r4.far (by simp; omega) _).far (by simp; omega) _, hA.keep fun p hp => hb4.cell hp⟩
      refine (show GoesOn _ _ _ _ _ _ _ from ⟨rfl, ?_, fun h => hFk _ h (h.below hb), ?_, ?_⟩)
      · exact ((KeepsOthers.mk hb.size fun k o hk _ => (hb.block k (Array.getElem?_eq_some_iff.1 hk).1).trans hk).trans (KeepsOthers.setCell _ _ _)).trans (KeepsOthers.setCell _ _ _)
      · exact Nat.le_trans hb.size (Nat.le_trans (KeepsOthers.setCell wx ⟨gu, 0, none⟩ (.int .u64 (mMul (prU q pre) y1 q))).size (KeepsOthers.setCell _ ⟨gv, 0, none⟩ (.int .u64 (mMul (prV q pre) y2 q))).size)
      · refine ⟨hFk _ hF2 hF2, (hQ2.far (by simp; omega) _).far (by simp; omega) _, ?_, ?_, hb4⟩
        · rw [prU_snoc]; exact hU3
        · rw [prV_snoc]; exact hV4
    case done1 =>
      intro D xs W hD hS hI hK
      subst hS
      have hcU := hI.U.cell (k := 0) rfl
      have hcV := hI.V.cell (k := 0) rfl
      have hcQ := hI.Q.cell (k := 0) rfl
      rw [prU_oths] at hcU
      rw [prV_oths] at hcV
      have hmU := mProd_u64 hk (but l i) z
      have hBW := hI.b
      clear hI
      obtain ⟨pu, hpu⟩ : ∃ p, mProd (but l i) z q = p := ⟨_, rfl⟩
      obtain ⟨pv, hpv⟩ : ∃ p, mProd (but l i) at_ q = p := ⟨_, rfl⟩
      have HP := hid (⟨hpu, hpv⟩ : _ ∧ _)
      rw [hpu] at hcU hmU
      rw [hpv] at hcV
      clear hpu hpv
      go_wp2_with (go_at_call 114; refine (inv_c _ _ hmU hq _).mono ?_; rintro e w5 ⟨rfl, hw5⟩; have hcV5 := (hw5.cell _).trans hcV)
      go_quiet (fail)
      go_wp2
      refine ⟨by simp, .inl ⟨_, _, rfl, run_takeDeferred ?_, ?_⟩⟩
      · obtain ⟨n5, rfl⟩ := hw5; exact hK
      · refine ⟨_, results_tmp3 (t := 8) (u := 9) (v := 10) rfl _ _ _, by rw [HP.out.1, HP.out.2]; rfl, ?_⟩
        refine below_put _ (below_dr (below_dr hBW hw5) ⟨_, rfl⟩) (Nat.le_trans S.b.size hD)
  · have hU : Row1 w2 gu 23 [.int .u64 (1 % q)] := by assumption
    have hV : Row1 w2 gv 23 [.int .u64 (1 % q)] := by assumption
    have hne : gu ≠ gv := by assumption
    have hne' : gv ≠ gu := by assumption
    have hgu : w.heap.size < gu := by assumption
    have hgv : w.heap.size < gv := by assumption
    clear h1r h2r hlt1 hlt2 hgs hgs' hge1 hge2
    have HI := hid hi
    clear hi
    have hcQ0 := hQ.cell (k := 0) rfl
    go_wp2_with (fail)
    refine (others_c A l c i at_ q w2 (hA.keep fun p hp => hb.cell hp)).mono ?_
    rintro e w3 ⟨g1, g2, g3, g4, rfl, hF, hb3, hl1, hl2, hl3, hl4⟩
    have hlU := hU.lt
    have hlV := hV.lt
    have hlQ := hQ.lt
    have S : Sw A l c i at_ q g1 g2 g3 g4 w.heap.size gu gv w [] w3 := ⟨hF, hQ.below hb3, hU.below hb3, hV.below hb3, below_next hb hb.size hb3⟩
    clear hQ hU hV hF hb hb3 hcQ0
    go_wp2
    refine (wpIn_wide (n := 10)).1 ?_
    refine wpIn_rangeAll (n := 10) rfl (by decide) (gf := 120) (lb := #[.pointer (some ⟨g1, 0, none⟩), .pointer (some ⟨g2, 0, none⟩), .pointer (some ⟨g3, 0, none⟩), .pointer (some ⟨g4, 0, none⟩)]) rfl trivial (enters_of Try.func120 (by kernel_rfl) rfl) (encs := fun y : Int × Int => #[.int .u64 y.1, .int .u64 y.2]) (fun _ => rfl)
      (Sw A l c i at_ q g1 g2 g3 g4 w.heap.size gu gv w) (fun y _ => U64 y.1 ∧ U64 y.2) (fun xs => xs = oths l i z at_ q) (fun B1 B2 => Oth A l c i at_ q g1 g2 g3 g4 B1 → Oth A l c i at_ q g1 g2 g3 g4 B2)
      ?ib2 ?ip2 ?op2 (fun _ _ _ h1 h2 h3 => h2 (h1 h3)) (fun B1 l o o' _ h1 h2 h3 => h3.put o' h1 h2) S ?it2 ?a₁2 ?assign2 ?body2 ?done2
    case assign2 =>
      intro l y W K hK
      gi_wp2
      exact hK
    case ib2 => exact fun xs B1 B2 hs h hb => ⟨h.F.below hb, h.Q.below hb, h.U.below hb, h.V.below hb, below_next h.b h.b.size hb⟩
    case ip2 => exact fun xs B1 l o o' h hs h1 h2 => ⟨h.F.put o' h1 h2, h.Q.put o' h1 h2, h.U.put o' h1 h2, h.V.put o' h1 h2, below_put o' h.b (by have := S.b.size; omega)⟩
    case op2 => exact fun y B1 l o o' h hs h1 h2 => h
    case it2 =>
      intro l' J W hbW hJ hY h0
      exact callsIn_wide.2 ((others1_c A l c i z at_ q g1 g2 g3 g4 l' 8 W J hJ (fun pre y W' hs hj hy1 hy2 => hY pre y W' hs hj ⟨hy1, hy2⟩) (S.F.below hbW) HI.out hl hu hat hq h0).mono fun e w' h => ⟨h.1, _, rfl, h.2⟩)
    case body2 =>
      intro l' pre y W hsW hI hOk
      obtain ⟨y1, y2⟩ := y
      obtain ⟨hy1, hy2⟩ := hOk
      dsimp only at hy1 hy2
      have hcU := hI.U.cell (k := 0) rfl
      have hcV := hI.V.cell (k := 0) rfl
      have hcQ := hI.Q.cell (k := 0) rfl
      have huU := prU_u64 hk pre
      have huV := prV_u64 hk pre
      gi_wp2
      refine Rgb.round_region (by rintro ⟨a, w, h⟩; cases h.1) (L := [_, _, _, _, _, _, _, _]) (tail := [_, _]) (Rgb.grows _ 10) [some 28, some 29, some 30, some 31, some 32, some 33, some 34, some 35, none, none] 45 (by kernel_rfl) (by kernel_rfl) (by kernel_rfl) (by kernel_rfl) rfl (Rgb.grows_fair _ _) (Rgb.keep_drew _) (trivial) ?_
      refine Rgb.op_is (.int .u64 (prU q pre)) [] rfl rfl (by kernel_rfl) ?_ ?_
      · intro wx hb
        refine Rgb.from_nil fun T hT => ?_
        have g1 := (hb.cell (lt_of_cell hcU)).trans hcU
        go_wp2
        exact hT _ _ rfl (by first | exact Rgb.Keep.refl _ | exact below_of_dr hw2 | exact hw2 | exact (Below.refl _ _).alloc (Nat.le_refl _) _) (by first | rfl | exact congrArg _ (by decide))
      refine' Rgb.op_is _ [] rfl rfl (by kernel_rfl) ?_ ?_
      rotate_left
      · intro wx hb
        refine Rgb.from_nil fun T hT => ?_
        go_wp2
        refine hT _ _ rfl (by first | exact Rgb.Keep.refl _ | exact below_of_dr hw2 | exact hw2 | exact (Below.refl _ _).alloc (Nat.le_refl _) _) ?_
        simp only [Rgb.last, List.getElem?_toArray, List.getElem?_cons_succ, List.getElem?_cons_zero, Option.getD_some]
        rfl
      refine Rgb.op_is (.int .u64 q) [] rfl rfl (by kernel_rfl) ?_ ?_
      · intro wx hb
        refine Rgb.from_nil fun T hT => ?_
        have g1 := (hb.cell (lt_of_cell hcQ)).trans hcQ
        go_wp2
        exact hT _ _ rfl (by first | exact Rgb.Keep.refl _ | exact below_of_dr hw2 | exact hw2 | exact (Below.refl _ _).alloc (Nat.le_refl _) _) (by first | rfl | exact congrArg _ (by decide))
      refine Rgb.op_is (.int .u64 (mMul (prU q pre) y1 q)) [0, 1, 2] rfl rfl (by kernel_rfl) ?_ ?_
      · intro wx hb
        refine Rgb.from_is (some 28) rfl rfl ?_
        refine Rgb.from_is (some 29) rfl rfl ?_
        refine Rgb.from_is (some 30) rfl rfl ?_
        refine Rgb.from_nil fun T hT => ?_
        go_wp2_with (go_at_call 33; refine (mul_c _ _ _ huU hy1 hq _).mono ?_; rintro e w5 ⟨rfl, hw5⟩)
        exact hT _ _ rfl (below_of_dr hw5) rfl
      refine Rgb.op_is (.int .u64 (prV q pre)) [] rfl rfl (by kernel_rfl) ?_ ?_
      · intro wx hb
        refine Rgb.from_nil fun T hT => ?_
        have g1 := (hb.cell (lt_of_cell hcV)).trans hcV
        go_wp2
        exact hT _ _ rfl (by first | exact Rgb.Keep.refl _ | exact below_of_dr hw2 | exact hw2 | exact (Below.refl _ _).alloc (Nat.le_refl _) _) (by first | rfl | exact congrArg _ (by decide))
      refine' Rgb.op_is _ [] rfl rfl (by kernel_rfl) ?_ ?_
      rotate_left
      · intro wx hb
        refine Rgb.from_nil fun T hT => ?_
        go_wp2
        refine hT _ _ rfl (by first | exact Rgb.Keep.refl _ | exact below_of_dr hw2 | exact hw2 | exact (Below.refl _ _).alloc (Nat.le_refl _) _) ?_
        simp only [Rgb.last, List.getElem?_toArray, List.getElem?_cons_succ, List.getElem?_cons_zero, Option.getD_some]
        rfl
      refine Rgb.op_is (.int .u64 q) [] rfl rfl (by kernel_rfl) ?_ ?_
      · intro wx hb
        refine Rgb.from_nil fun T hT => ?_
        have g1 := (hb.cell (lt_of_cell hcQ)).trans hcQ
        go_wp2
        exact hT _ _ rfl (by first | exact Rgb.Keep.refl _ | exact below_of_dr hw2 | exact hw2 | exact (Below.refl _ _).alloc (Nat.le_refl _) _) (by first | rfl | exact congrArg _ (by decide))
      refine Rgb.op_is (.int .u64 (mMul (prV q pre) y2 q)) [4, 5, 6] rfl rfl (by kernel_rfl) ?_ ?_
      · intro wx hb
        refine Rgb.from_is (some 32) rfl rfl ?_
        refine Rgb.from_is (some 33) rfl rfl ?_
        refine Rgb.from_is (some 34) rfl rfl ?_
        refine Rgb.from_nil fun T hT => ?_
        go_wp2_with (go_at_call 33; refine (mul_c _ _ _ huV hy2 hq _).mono ?_; rintro e w5 ⟨rfl, hw5⟩)
        exact hT _ _ rfl (below_of_dr hw5) rfl
      refine Rgb.walk_nil [0, 1, 2, 3, 4, 5, 6, 7] (by kernel_rfl) ?_
      intro wx hb
      refine Rgb.from_is (some 28) rfl rfl ?_
      refine Rgb.from_is (some 29) rfl rfl ?_
      refine Rgb.from_is (some 30) rfl rfl ?_
      refine Rgb.from_is (some 31) rfl rfl ?_
      refine Rgb.from_is (some 32) rfl rfl ?_
      refine Rgb.from_is (some 33) rfl rfl ?_
      refine Rgb.from_is (some 34) rfl rfl ?_
      refine Rgb.from_is (some 35) rfl rfl ?_
      refine Rgb.from_nil ?_
      simp only [List.map, Act.put, List.setIfInBounds_toArray, List.set_cons_zero, List.set_cons_succ]
      have hU2 := hI.U.below hb
      have hV2 := hI.V.below hb
      have hcU2 := hU2.cell (k := 0) rfl
      have hfU2 := hU2.frozen 0
      have hV3 := hV2.far (p := ⟨gu, 0, none⟩) hne (.int .u64 (mMul (prU q pre) y1 q))
      have hcV3 := hV3.cell (k := 0) rfl
      have hfV3 := hV3.frozen 0
      have hb2 := below_next hI.b hI.b.size hb
      have hF2 := hI.F.below hb
      have hQ2 := hI.Q.below hb
      have hU3 := (hU2.set 0 (.int .u64 (mMul (prU q pre) y1 q))).far (p := ⟨gv, 0, none⟩) hne' (.int .u64 (mMul (prV q pre) y2 q))
      have hV4 := hV3.set 0 (.int .u64 (mMul (prV q pre) y2 q))
      clear hcU hcV hcQ huU huV hU2 hV2
      go_wp2
      have hb4 : Below w.heap.size w ((wx.setCell ⟨gu, 0, none⟩ (.int .u64 (mMul (prU q pre) y1 q))).setCell ⟨gv, 0, none⟩ (.int .u64 (mMul (prV q pre) y2 q))) := (hb2.setCell (p := ⟨gu, 0, none⟩) (Nat.le_of_lt hgu) _).setCell (p := ⟨gv, 0, none⟩) (Nat.le_of_lt hgv) _
      have hFk : ∀ B1, Oth A l c i at_ q g1 g2 g3 g4 B1 → Oth A l c i at_ q g1 g2 g3 g4 wx → Oth A l c i at_ q g1 g2 g3 g4 ((wx.setCell ⟨gu, 0, none⟩ (.int .u64 (mMul (prU q pre) y1 q))).setCell ⟨gv, 0, none⟩ (.int .u64 (mMul (prV q pre) y2 q))) := fun B1 _ h2 =>
        ⟨(h2.r1.far (by simp; omega) _).far (by simp; omega) _, (h2.r2.far (by simp; omega) _).far (by simp; omega) _, (h2.r3.far (by simp; omega) _).far (by simp; omega) _, (h2.r4.far (by simp; omega) _).far (by simp; omega) _, hA.keep fun p hp => hb4.cell hp⟩
      refine (show GoesOn _ _ _ _ _ _ _ from ⟨rfl, ?_, fun h => hFk _ h (h.below hb), ?_, ?_⟩)
      · exact ((KeepsOthers.mk hb.size fun k o hk _ => (hb.block k (Array.getElem?_eq_some_iff.1 hk).1).trans hk).trans (KeepsOthers.setCell _ _ _)).trans (KeepsOthers.setCell _ _ _)
      · exact Nat.le_trans hb.size (Nat.le_trans (KeepsOthers.setCell wx ⟨gu, 0, none⟩ (.int .u64 (mMul (prU q pre) y1 q))).size (KeepsOthers.setCell _ ⟨gv, 0, none⟩ (.int .u64 (mMul (prV q pre) y2 q))).size)
      · refine ⟨hFk _ hF2 hF2, (hQ2.far (by simp; omega) _).far (by simp; omega) _, ?_, ?_, hb4⟩
        · rw [prU_snoc]; exact hU3
        · rw [prV_snoc]; exact hV4
    case done2 =>
      intro D xs W hD hS hI hK
      subst hS
      have hcU := hI.U.cell (k := 0) rfl
      have hcV := hI.V.cell (k := 0) rfl
      have hcQ := hI.Q.cell (k := 0) rfl
      rw [prU_oths] at hcU
      rw [prV_oths] at hcV
      have hmU := mProd_u64 hk (but l i) z
      have hBW := hI.b
      clear hI
      obtain ⟨pu, hpu⟩ : ∃ p, mProd (but l i) z q = p := ⟨_, rfl⟩
      obtain ⟨pv, hpv⟩ : ∃ p, mProd (but l i) at_ q = p := ⟨_, rfl⟩
      have HP := hid (⟨hpu, hpv⟩ : _ ∧ _)
      rw [hpu] at hcU hmU
      rw [hpv] at hcV
      clear hpu hpv
      go_wp2_with (go_at_call 114; refine (inv_c _ _ hmU hq _).mono ?_; rintro e w5 ⟨rfl, hw5⟩; have hcV5 := (hw5.cell _).trans hcV)
      go_quiet (fail)
      go_wp2
      refine ⟨by simp, .inl ⟨_, _, rfl, run_takeDeferred ?_, ?_⟩⟩
      · obtain ⟨n5, rfl⟩ := hw5; exact hK
      · refine ⟨_, results_tmp3 (t := 8) (u := 9) (v := 10) rfl _ _ _, by rw [HP.out.1, HP.out.2]; rfl, ?_⟩
        refine below_put _ (below_dr (below_dr hBW hw5) ⟨_, rfl⟩) (Nat.le_trans S.b.size hD)

end Go.Proofs.Ytnmadmcegdpecaa
