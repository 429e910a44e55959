/-
  PROVED HERE: BivarCross: of whatever polynomial of two, at whatever places, modulo whatever number, the value is the row's and the column's; with both turned about rows are columns.
-/
import Derived.Test.YtnmadmcegdpecaaWorksC
import Derived.Test.YtnmadmcegdpecaaBivE
import Derived.Test.YtnmadmcegdpecaaArgs
namespace Go.Proofs.Ytnmadmcegdpecaa
open Go.ChangeShapes Go.WideShapes Go.ChangeAt Go.RowKit

theorem largeF_le {f : List (List Int)} (h : largeF f = false) : f.length ≤ 20 ∧ wide f ≤ 20 := by
  simp only [largeF, Bool.or_eq_false_iff, decide_eq_false_iff_not] at h
  omega
theorem turned_words {f : List (List Int)} (h : Words f) : Words (turnedF f) := by
  intro l hl
  unfold turnedF at hl
  obtain ⟨j, _, rfl⟩ := List.mem_map.1 hl
  exact colJ_u64 h j
theorem turned_len (f : List (List Int)) : (turnedF f).length = wide f := by simp [turnedF]

set_option maxRecDepth 100000 in
set_option maxHeartbeats 4000000 in
theorem bivarCross_c (A : Option Addr) (f : List (List Int)) (c : Nat) (x y q : Int) (w : World) (hA : Grid w A f) (hl : f.length ≤ 9223372036854775807) (hu : Words f) (hx : U64 x) (hy : U64 y) (hq : U64 q) :
    Calls Try.prog 16 #[.slice A f.length c, .int .u64 x, .int .u64 y, .int .u64 q] w fun e w' => e = .returned (.bool true) ∧ Below w.heap.size w w' := by
  go_enter Try.func16, Try.ntmps16
  go_wp2_with (fail)
  refine (works_c w).mono ?_
  rintro e w1 ⟨rfl, hb1⟩
  go_wp2_with (fail)
  have hr0 := row1_new w1 [.slice A f.length c] 22
  simp only [List.toArray] at hr0
  have hb0 := below_next hb1 hb1.size (below_alloc w1 (.cells #[.slice A f.length c] 22))
  refine (large06_c w1.heap.size A f c _ hr0 (hA.below hb0) hl).mono ?_
  rintro e w2 ⟨rfl, hw2⟩
  have hb2 := below_dr hb0 hw2
  clear hr0 hb0 hw2 hb1
  cases hL : largeF f with
  | true =>
    clear hL
    go_wp2_with (fail)
    refine (works_c w2).mono ?_
    rintro e w3 ⟨rfl, hb3⟩
    go_wp2
    go_ret
    exact ⟨rfl, below_next hb2 hb2.size hb3⟩
  | false =>
    obtain ⟨hl20, hw20⟩ := largeF_le hL
    clear hL
    have hmr : (mRow f x q).length = wide f := by simp [mRow]
    have hmc : (mCol f y q).length = f.length := by simp [mCol]
    have hmru : U64s (mRow f x q) := by
      intro z hz
      obtain ⟨j, _, rfl⟩ := List.mem_map.1 hz
      exact mEval_u64 _ _ _
    have hmcu := mCol_u64 f y q
    have hcv := cross_val f x y q
    have hta := turned_at f x y q
    have htc := turned_col f x q
    have htw := turned_words hu
    have htl := turned_len f
    have HF := hid (⟨hmr, hmc, hcv, hta, htc, htl⟩ : _ ∧ _ ∧ _ ∧ _ ∧ _ ∧ _)
    have hme : mEval (mCol f y q) x q = mAt f x y q := rfl
    have HME := hid hme
    clear hmr hmc hcv hta htc htl hme
    go_wp2_with (fail)
    refine (at_c A f c x y q w2 (hA.below hb2) (by omega) hu hx hy hq).mono ?_
    rintro e w3 ⟨rfl, hb⟩
    replace hb2 := below_next hb2 hb2.size hb
    clear hb
    obtain ⟨v, hv⟩ : ∃ v, mAt f x y q = v := ⟨_, rfl⟩
    rw [hv]
    have HV := hid hv
    have hvv : (v != v) = false := by simp
    clear hv
    go_wp2_with (fail)
    refine (brow_c A f c x q w3 (hA.below hb2) (by omega) (by omega) hu hx hq).mono ?_
    rintro e w4 ⟨v4, rfl, ho, hb⟩
    obtain ⟨A4, k4, rfl, hc4⟩ := ho.form
    rw [List.length_map]
    replace hb2 := below_next hb2 hb2.size hb
    clear hb ho
    go_wp2_with (fail)
    refine (eval_c A4 (mRow f x q) k4 y q w4 hc4 (by rw [HF.out.1]; omega) hmru hy hq).mono ?_
    rintro e w5 ⟨rfl, hw⟩
    rw [HF.out.2.2.1, HV.out]
    replace hb2 := below_dr hb2 hw
    clear hw hc4
    go_wp2_with (fail)
    refine (col_c A f c y q w5 (hA.below hb2) (by omega) hu hy hq).mono ?_
    rintro e w6 ⟨v6, rfl, ho, hb⟩
    obtain ⟨A6, k6, rfl, hc6⟩ := ho.form
    rw [List.length_map]
    replace hb2 := below_next hb2 hb2.size hb
    clear hb ho
    go_wp2_with (fail)
    refine (eval_c A6 (mCol f y q) k6 x q w6 hc6 (by rw [HF.out.2.1]; omega) hmcu hx hq).mono ?_
    rintro e w7 ⟨rfl, hw⟩
    rw [HME.out, HV.out]
    replace hb2 := below_dr hb2 hw
    clear hw hc6
    go_wp2_with (fail)
    refine (rturned06_c A f c w7 (hA.below hb2) (by omega) (by omega)).mono ?_
    rintro e w8 ⟨v8, rfl, ho, hb⟩
    obtain ⟨A8, k8, rfl, hg8, _⟩ := OwnRows.grid (f := turnedF f) ho
    replace hb2 := below_next hb2 hb2.size hb
    clear hb ho
    go_wp2_with (fail)
    refine (at_c A8 (turnedF f) k8 y x q w8 hg8 (by rw [HF.out.2.2.2.2.2]; omega) htw hy hx hq).mono ?_
    rintro e w9 ⟨rfl, hb⟩
    rw [HF.out.2.2.2.1, HV.out]
    have hg9 := hg8.below hb
    replace hb2 := below_next hb2 hb2.size hb
    clear hb hg8
    go_wp2_with (fail)
    refine (col_c A8 (turnedF f) k8 x q w9 hg9 (by rw [HF.out.2.2.2.2.2]; omega) htw hx hq).mono ?_
    rintro e w10 ⟨v10, rfl, ho, hb⟩
    rw [HF.out.2.2.2.2.1] at ho
    obtain ⟨A10, k10, rfl, hc10⟩ := ho.form
    rw [List.length_map]
    replace hb2 := below_next hb2 hb2.size hb
    clear hb ho hg9
    go_wp2_with (fail)
    refine (brow_c A f c x q w10 (hA.below hb2) (by omega) (by omega) hu hx hq).mono ?_
    rintro e w11 ⟨v11, rfl, ho, hb⟩
    obtain ⟨A11, k11, rfl, hc11⟩ := ho.form
    rw [List.length_map]
    have hc12 := hc10.more hb
    replace hb2 := below_next hb2 hb2.size hb
    clear hb ho hc10
    go_wp2_with (fail)
    refine (nums_c A10 A11 (mRow f x q) (mRow f x q) k10 k11 w11 hc12 hc11 (by rw [HF.out.1]; omega) (by rw [HF.out.1]; omega)).mono ?_
    rintro e w12 ⟨rfl, hw⟩
    rw [decide_eq_true (rfl : mRow f x q = mRow f x q)]
    replace hb2 := below_dr hb2 hw
    clear hw hc12 hc11
    go_wp2
    go_ret
    exact ⟨rfl, hb2⟩

set_option maxRecDepth 100000 in
theorem bivarCross_lifted (os : Os) (started : os.Started) (H : Type) (enc : TypeId × Value → H) :
    ReturnsInHanded {} Try.checked os 16 .any (Rows.bivarCrossSpec.pre6 enc Try.prog Try.f16 Rows.bivarCrossRow.domain false) (Rows.bivarCrossSpec.post enc Try.prog Try.f16 false true false false) := by
  refine returnsInHanded_of_change (C := Try.checked) Try.own started (by kernel_rfl) Try.func16
    (ChangeSpec.witness6 (enc := enc) (C := Try.checked) false ⟨#[], #[.slice none 0 0, .int .u64 0, .int .u64 0, .int .u64 0], []⟩ 8 (by kernel_rfl) (by kernel_rfl) (by kernel_rfl) (by kernel_rfl)) ?_
  intro W base args ds gs before hval0 hW hcnd _
  have hval : ∀ (j : Nat) t v, Try.f16.params[j]? = some t → args[j]? = some v → Value.okWide Try.prog W .any base t v := hval0
  have hW' := hW
  obtain ⟨p, q, hA0, hV, rfl, hfz, hnd⟩ := hW
  have hA : DataW.TrodAll enc Try.prog W 0 (fun _ => true) true Try.f16.params.toList args.toList ds p := hA0
  rw [Try.params16] at hA hval
  obtain ⟨v0, v1, v2, v3, d0, d1, d2, d3, p0, p1, p2, p3, rfl, rfl, rfl, h0, h1, h2, h3⟩ := trodAll_four hA
  obtain ⟨rfl, rfl⟩ := trodVars_none hV
  obtain ⟨_, k0⟩ := one_of Try.underlying22 (hval 0 22 v0 rfl rfl) h0
  obtain ⟨A, f, c, rfl, hl, hw, vs, hc, hvl, hrow⟩ := rows_at Try.underlying22 Try.underlying26 Try.underlying23 (by kernel_rfl) (by kernel_rfl) k0
  obtain ⟨x, rfl, _, _, wx⟩ := open_int Try.underlying23 (hval 1 23 v1 rfl rfl) h1
  obtain ⟨y, rfl, _, _, wy⟩ := open_int Try.underlying23 (hval 2 23 v2 rfl rfl) h2
  obtain ⟨z, rfl, _, _, wz⟩ := open_int Try.underlying23 (hval 3 23 v3 rfl rfl) h3
  clear hA0 hval0
  refine (bivarCross_c A f c x y z W ⟨vs, hc, hvl, hrow⟩ hl (fun l hl z hz => u64_of (hw l hl z hz)) (u64_of wx) (u64_of wy) (u64_of wz)).mono fun e W' ⟨he, hb⟩ => ?_
  subst he
  exact ⟨_, rfl, post_true hW' hb Try.laidOut (by kernel_rfl) rfl rfl rfl rfl rfl Try.underlying4⟩

theorem bivarCross_holds : Rows.BivarCrossSaid :=
  OpenClaim.holds_of_wide 16 Try.f16 rfl rfl rfl rfl rfl rfl rfl ⟨rfl, rfl, rfl, rfl, rfl⟩ rfl rfl rfl rfl rfl (by kernel_rfl) Try.func16 (by kernel_rfl)
    (of_decide_eq_true (by kernel_rfl)) (by unfold Func.isWrapper; first | (rw [if_pos (by decide +kernel)]; kernel_rfl) | (rw [if_neg (by decide +kernel)]; exact ⟨rfl, rfl⟩))
    (fun os started H enc _ => bivarCross_lifted os started H enc)
#print axioms bivarCross_holds

end Go.Proofs.Ytnmadmcegdpecaa
