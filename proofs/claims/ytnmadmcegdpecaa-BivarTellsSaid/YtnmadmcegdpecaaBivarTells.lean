/-
  PROVED HERE: BivarTells: whatever polynomial of two, whatever places and whatever q may be, value, row and column are the document's.
-/
import Derived.Test.YtnmadmcegdpecaaBivG
import Derived.Test.YtnmadmcegdpecaaBivH
import Derived.Test.YtnmadmcegdpecaaBivB
import Derived.Test.YtnmadmcegdpecaaArgs
import Derived.Test.YtnmadmcegdpecaaCmp
namespace Go.Proofs.Ytnmadmcegdpecaa
open Go.ChangeShapes Go.WideShapes Go.ChangeAt Go.RowKit

theorem largeF_small {f : List (List Int)} (h : largeF f = false) : f.length ≤ 20 ∧ wide f ≤ 20 := by
  simp only [largeF, Bool.or_eq_false_iff, decide_eq_false_iff_not] at h
  omega

set_option maxRecDepth 100000 in
set_option maxHeartbeats 4000000 in
theorem bivarTells_c (A : Option Addr) (f : List (List Int)) (c : Nat) (x y q : Int) (w : World) (hA : Grid w A f) (hl : f.length ≤ 9223372036854775807) (hu : Words f) (hx : U64 x) (hy : U64 y) (hq : U64 q) :
    Calls Try.prog 3 #[.slice A f.length c, .int .u64 x, .int .u64 y, .int .u64 q] w fun e w' => e = .returned (.bool true) ∧ Below w.heap.size w w' := by
  go_enter Try.func3, Try.ntmps3
  go_wp2_with (fail)
  have hr0 := row1_new w [.slice A f.length c] 22
  simp only [List.toArray] at hr0
  have hb0 := below_alloc w (.cells #[.slice A f.length c] 22)
  refine (large06_c w.heap.size A f c _ hr0 (hA.below hb0) hl).mono ?_
  rintro e w2 ⟨rfl, hw2⟩
  have hb2 := below_dr hb0 hw2
  clear hr0 hb0 hw2
  cases hL : largeF f with
  | true =>
    clear hL
    go_wp2
    go_ret
    exact ⟨rfl, hb2⟩
  | false =>
    obtain ⟨hl20, hw20⟩ := largeF_small hL
    have hll : ∀ l ∈ f, l.length ≤ 1000000 := fun l hl => by have := le_wide hl; omega
    clear hL
    go_wp2_with (fail)
    refine (own06_c A f c w2 (hA.below hb2) (by omega) hll).mono ?_
    rintro e w3 ⟨v, rfl, hrows, hb3⟩
    obtain ⟨A1, c1, rfl, hg1, _⟩ := OwnRows.grid (f := f) hrows
    have hb4 := below_next hb2 hb2.size hb3
    clear hrows hb3 hb2
    go_wp2
    go_loopw [10, 11, 12, 13, 14] (fun i _ _ _ _ wr => ∃ k : Nat, i = .int .i64 k ∧ k ≤ 2 ∧ Below w3.heap.size w3 wr) (fun i _ _ _ _ _ => 2 - (intOf i).toNat)
    case atStart => exact ⟨0, rfl, by omega, Below.refl _ _⟩
    case round =>
      obtain ⟨k, rfl, hk, hbk⟩ := hrel
      have hAk := (hA.below hb4).below hbk
      have hgk := hg1.below hbk
      by_cases hlt : k < 2
      · go_wp2_with (fail)
        refine (brow_c A1 f c1 x q wr hgk (by omega) (by omega) hu hx hq).mono ?_
        rintro e w5 ⟨vr, rfl, hor, hb5⟩
        have hg5 := hgk.below hb5
        have hA5 := hAk.below hb5
        obtain ⟨Ar, cr, rfl, hcr⟩ := hor.form
        have hlr := hor.len_le
        have hwr := hor.writ
        rw [List.length_map] at hlr hwr ⊢
        go_wp2_with (fail)
        refine (col_c A1 f c1 y q w5 hg5 (by omega) hu hy hq).mono ?_
        rintro e w6 ⟨vc, rfl, hoc, hb6⟩
        have hg6 := hg5.below hb6
        have hA6 := hA5.below hb6
        obtain ⟨Ac, cc, rfl, hcc⟩ := hoc.form
        have hlc := hoc.len_le
        have hwc := (hoc.from_ hb5.size).writ
        rw [List.length_map] at hlc hwc ⊢
        have hwr6 := hwr.below hb6
        have hcr6 := hcr.keep fun p hp => hb6.cell hp
        have hb56 := below_next hb5 hb5.size hb6
        clear hor hoc hwr hcr hb5 hb6 hg5 hA5
        go_wp2_with (fail)
        refine (at_c A1 f c1 x y q w6 hg6 (by omega) hu hx hy hq).mono ?_
        rintro e w7 ⟨rfl, hb7⟩
        go_wp2_with (fail)
        refine (rat_c A f c x y q w7 (hA6.below hb7) (by omega) hu hx hy hq).mono ?_
        rintro e w8 ⟨rfl, hw8⟩
        have hb8 := below_dr hb7 hw8
        clear hb7 hw8
        go_wp2_with (fail)
        refine (rrow06_c A f c x q w8 (hA6.below hb8) (by omega) (by omega) hu hx hq).mono ?_
        rintro e w9 ⟨v9, rfl, ho9, hb9⟩
        obtain ⟨A9, c9, rfl, hc9⟩ := ho9.form
        rw [List.length_map]
        have hb69 := below_next hb8 hb8.size hb9
        clear ho9 hb9 hb8
        go_wp2_with (fail)
        refine (nums_c Ar A9 (mRow f x q) (mRow f x q) cr c9 w9 (hcr6.keep fun p hp => hb69.cell hp) hc9 hlr hlr).mono ?_
        rintro e w10 ⟨rfl, hw10⟩
        rw [decide_eq_true (rfl : mRow f x q = mRow f x q)]
        have hb10 := below_dr hb69 hw10
        clear hc9 hb69 hw10
        go_wp2_with (fail)
        refine (rcol06_c A f c y q w10 (hA6.below hb10) (by omega) (by omega) hu hy hq).mono ?_
        rintro e w11 ⟨v11, rfl, ho11, hb11⟩
        obtain ⟨A11, c11, rfl, hc11⟩ := ho11.form
        rw [List.length_map]
        have hb12 := below_next hb10 hb10.size hb11
        clear ho11 hb11 hb10
        go_wp2_with (fail)
        refine (nums_c Ac A11 (mCol f y q) (mCol f y q) cc c11 w11 (hcc.keep fun p hp => hb12.cell hp) hc11 hlc hlc).mono ?_
        rintro e w13 ⟨rfl, hw13⟩
        rw [decide_eq_true (rfl : mCol f y q = mCol f y q)]
        have hb13 := below_dr hb12 hw13
        have hwr13 := hwr6.below hb13
        have hwc13 := hwc.below hb13
        have hbw13 := below_next hb56 hb56.size hb13
        clear hb12 hw13 hc11 hcc hcr6 hb13 hwr6 hwc hb56 hA6 hg6
        generalize (mRow f x q).length = nr at *
        generalize (mCol f y q).length = nc at *
        go_wp2
        generalize wr = wo at *
        go_loopw [13] (fun i wz => ∃ j : Nat, i = .int .i64 j ∧ j ≤ nr ∧ Writ wz wo.heap.size 23 (.slice Ar nr cr) nr ∧ Writ wz wo.heap.size 23 (.slice Ac nc cc) nc ∧ Below wo.heap.size wo wz) (fun i _ => nr - (intOf i).toNat)
        case atStart => exact ⟨0, rfl, by omega, hwr13, hwc13, hbw13⟩
        case round =>
          obtain ⟨j, rfl, hj, hwa, hwb, hbo⟩ := hrel
          clear hwr13 hwc13 hbw13
          by_cases hltj : j < nr
          · obtain ⟨g, cap, u0, he, hg1', hg2, hg3, hg4, ar, hg5⟩ := hwa.at_ hltj
            simp only [Value.slice.injEq, true_and] at he
            obtain ⟨rfl, rfl⟩ := he
            have hwa3 := hwa.set g j (.int .u64 77)
            have hwb3 := hwb.set g j (.int .u64 77)
            have hbo3 := hbo.setCell (p := ⟨g, j, none⟩) hg1' (.int .u64 77)
            clear hwa hwb hbo hg5
            go_wp2
            go_roundw
            case rel => exact ⟨j + 1, by go_num, by omega, hwa3, hwb3, hbo3⟩
            case measure => simp [intOf]; omega
          · obtain rfl : j = nr := by omega
            go_wp2
            go_loopw [14] (fun i wz => ∃ j : Nat, i = .int .i64 j ∧ j ≤ nc ∧ Writ wz wo.heap.size 23 (.slice Ac nc cc) nc ∧ Below wo.heap.size wo wz) (fun i _ => nc - (intOf i).toNat)
            case atStart => exact ⟨0, rfl, by omega, hwb, hbo⟩
            case round =>
              obtain ⟨i, rfl, hi, hwb2, hbo2⟩ := hrel
              clear hwa hwb hbo
              by_cases hlti : i < nc
              · obtain ⟨g, cap, u0, he, hg1', hg2, hg3, hg4, ar, hg5⟩ := hwb2.at_ hlti
                simp only [Value.slice.injEq, true_and] at he
                obtain ⟨rfl, rfl⟩ := he
                have hwb3 := hwb2.set g i (.int .u64 77)
                have hbo3 := hbo2.setCell (p := ⟨g, i, none⟩) hg1' (.int .u64 77)
                clear hwb2 hbo2 hg5
                go_wp2
                go_roundw
                case rel => exact ⟨i + 1, by go_num, by omega, hwb3, hbo3⟩
                case measure => simp [intOf]; omega
              · obtain rfl : i = nc := by omega
                go_wp2
                go_roundw
                case rel => exact ⟨k + 1, by go_num, by omega, below_next hbk hbk.size hbo2⟩
                case measure => simp [intOf]; omega
      · obtain rfl : k = 2 := by omega
        go_wp2_with (fail)
        refine (polys_c A1 A f f c1 c wr hgk hAk (by omega) (by omega)).mono ?_
        rintro e w5 ⟨rfl, hw5⟩
        rw [decide_eq_true (rfl : f = f)]
        go_wp2
        go_ret
        exact ⟨rfl, below_dr (below_next hb4 hb4.size hbk) hw5⟩

set_option maxRecDepth 100000 in
theorem bivarTells_lifted (os : Os) (started : os.Started) (H : Type) (enc : TypeId × Value → H) :
    ReturnsInHanded {} Try.checked os 3 .any (Rows.bivarTellsSpec.pre6 enc Try.prog Try.f3 Rows.bivarTellsRow.domain false) (Rows.bivarTellsSpec.post enc Try.prog Try.f3 false true false false) := by
  refine returnsInHanded_of_change (C := Try.checked) Try.own started (by kernel_rfl) Try.func3
    (ChangeSpec.witness6 (enc := enc) (C := Try.checked) false ⟨#[], #[.slice none 0 0, .int .u64 0, .int .u64 0, .int .u64 0], []⟩ 8 (by kernel_rfl) (by kernel_rfl) (by kernel_rfl) (by kernel_rfl)) ?_
  intro W base args ds gs before hval0 hW hcnd _
  have hval : ∀ (j : Nat) t v, Try.f3.params[j]? = some t → args[j]? = some v → Value.okWide Try.prog W .any base t v := hval0
  have hW' := hW
  obtain ⟨p, q, hA0, hV, rfl, hfz, hnd⟩ := hW
  have hA : DataW.TrodAll enc Try.prog W 0 (fun _ => true) true Try.f3.params.toList args.toList ds p := hA0
  rw [Try.params3] at hA hval
  obtain ⟨v0, v1, v2, v3, d0, d1, d2, d3, p0, p1, p2, p3, rfl, rfl, rfl, h0, h1, h2, h3⟩ := trodAll_four hA
  obtain ⟨rfl, rfl⟩ := trodVars_none hV
  obtain ⟨_, k0⟩ := one_of Try.underlying22 (hval 0 22 v0 rfl rfl) h0
  obtain ⟨A, f, c, rfl, hl, hw, vs, hc, hvl, hrow⟩ := rows_at Try.underlying22 Try.underlying26 Try.underlying23 (by kernel_rfl) (by kernel_rfl) k0
  obtain ⟨x, rfl, _, _, wx⟩ := open_int Try.underlying23 (hval 1 23 v1 rfl rfl) h1
  obtain ⟨y, rfl, _, _, wy⟩ := open_int Try.underlying23 (hval 2 23 v2 rfl rfl) h2
  obtain ⟨z, rfl, _, _, wz⟩ := open_int Try.underlying23 (hval 3 23 v3 rfl rfl) h3
  clear hA0 hval0
  refine (bivarTells_c A f c x y z W ⟨vs, hc, hvl, hrow⟩ hl (fun l hl z hz => u64_of (hw l hl z hz)) (u64_of wx) (u64_of wy) (u64_of wz)).mono fun e W' ⟨he, hb⟩ => ?_
  subst he
  exact ⟨_, rfl, post_true hW' hb Try.laidOut (by kernel_rfl) rfl rfl rfl rfl rfl Try.underlying4⟩

theorem bivarTells_holds : Rows.BivarTellsSaid :=
  OpenClaim.holds_of_wide 3 Try.f3 rfl rfl rfl rfl rfl rfl rfl ⟨rfl, rfl, rfl, rfl, rfl⟩ rfl rfl rfl rfl rfl (by kernel_rfl) Try.func3 (by kernel_rfl)
    (of_decide_eq_true (by kernel_rfl)) (by unfold Func.isWrapper; first | (rw [if_pos (by decide +kernel)]; kernel_rfl) | (rw [if_neg (by decide +kernel)]; exact ⟨rfl, rfl⟩))
    (fun os started H enc _ => bivarTells_lifted os started H enc)
#print axioms bivarTells_holds

end Go.Proofs.Ytnmadmcegdpecaa
