/-
  PROVED HERE: PolyTells: whatever rows, place, factor and number may be, values, degrees, sums, multiples and products, and whether two are the same, are the document's.
-/
import Derived.Test.YtnmadmcegdpecaaAwake03
import Derived.Test.YtnmadmcegdpecaaPolD
import Derived.Test.YtnmadmcegdpecaaArgs
namespace Go.Proofs.Ytnmadmcegdpecaa
open Go.ChangeShapes Go.WideShapes Go.ChangeAt Go.RowKit

set_option maxRecDepth 100000 in
set_option maxHeartbeats 4000000 in
theorem polyTells_c (A B : Option Addr) (a b : List Int) (c d : Nat) (x k q : Int) (w : World) (hA : Cells w A (a.map (.int .u64))) (hB : Cells w B (b.map (.int .u64))) (hl : a.length ≤ 9223372036854775807) (hl' : b.length ≤ 9223372036854775807) (hu : U64s a) (hu' : U64s b) (hx : U64 x) (hk : U64 k) (hq : U64 q) :
    Calls Try.prog 13 #[.slice A a.length c, .slice B b.length d, .int .u64 x, .int .u64 k, .int .u64 q] w fun e w' => e = .returned (.bool true) ∧ Below w.heap.size w w' := by
  by_cases hsm : a.length ≤ 40 ∧ b.length ≤ 40
  · obtain ⟨hla, hlb⟩ := hsm
    go_enter Try.func13, Try.ntmps13
    go_wp2_with (first
      | (at_builtin; refine wpList_fresh elt_u64 (w.alloc _) rfl _ _ rfl rfl (hA.more (below_alloc _ _)) (by simp; rfl) (fun u hu => by simp only [List.mem_map] at hu; obtain ⟨z, _, rfl⟩ := hu; rfl) (by simp; omega) (by simp; omega) ?_; intro v2 w2 hr2 hb2; have hB2 := below_next (below_alloc w _) (below_alloc w _).size hb2; obtain ⟨A1, c1, rfl, hA1, _⟩ := hr2.form; rw [List.length_map])
      | (at_builtin; refine wpList_fresh elt_u64 (w2.alloc _) rfl _ _ rfl rfl ((hB.more hB2).more (below_alloc _ _)) (by simp; rfl) (fun u hu => by simp only [List.mem_map] at hu; obtain ⟨z, _, rfl⟩ := hu; rfl) (by simp; omega) (by simp; omega) ?_; intro v3 w3 hr3 hb3; have hB23 := below_next (below_alloc w2 _) (below_alloc w2 _).size hb3; have hB3 := below_next hB2 hB2.size hB23; obtain ⟨B1, d1, rfl, hB1, _⟩ := hr3.form; rw [List.length_map]))
    have hA3 := hA.more hB3
    have hBB3 := hB.more hB3
    have hA13 := hA1.more hB23
    clear hA hB hA1 hr2 hr3 hb2 hb3 hB2 hB23
    go_loopw [13] (fun i wr => ∃ n : Nat, i = .int .i64 n ∧ n ≤ 2 ∧ Below w3.heap.size w3 wr) (fun i _ => 2 - (intOf i).toNat)
    case atStart => exact ⟨0, rfl, by omega, Below.refl _ _⟩
    case round =>
      obtain ⟨n, rfl, hn, hbn⟩ := hrel
      have hAn := hA3.more hbn
      have hBn := hBB3.more hbn
      have hA1n := hA13.more hbn
      have hB1n := hB1.more hbn
      by_cases hlt : n < 2
      · go_wp2_with (fail)
        refine (psum_c A1 B1 a b c1 d1 q wr hA1n hB1n (by omega) (by omega) hu hu' hq).mono ?_
        rintro e w5 ⟨v5, rfl, ho5, hb5⟩
        obtain ⟨A5, k5, rfl, hc5⟩ := ho5.form
        have hw5 := ho5.writ
        have hl5 := ho5.len_le
        rw [List.length_map] at hw5 hl5 ⊢
        have hA5 := hAn.more hb5
        have hB5 := hBn.more hb5
        go_wp2_with (fail)
        refine (rsum_c A B a b c d q w5 hA5 hB5 (by omega) (by omega) hu hu' hq).mono ?_
        rintro e w6 ⟨v6, rfl, ho6, hb6⟩
        obtain ⟨A6, k6, rfl, hc6⟩ := ho6.form
        rw [List.length_map]
        go_wp2_with (fail)
        refine (told_c A5 A6 (pSum a b q) (pSum a b q) k5 k6 wr.heap.size w6 (hw5.below hb6) (hc5.more hb6) hc6 hl5 hl5).mono ?_
        rintro e w7 ⟨rfl, hb7⟩
        rw [decide_eq_true (rfl : pSum a b q = pSum a b q)]
        have hb8 := (below_next hb5 hb5.size hb6).trans hb7
        have hA7 := hAn.more hb8
        have hB7 := hBn.more hb8
        have hA17 := hA1n.more hb8
        have hB17 := hB1n.more hb8
        have hbn7 := below_next hbn hbn.size hb8
        clear hb5 hb6 hb7 hb8 ho5 ho6 hc5 hc6 hw5 hl5 hAn hBn hA1n hB1n hA5 hB5 hbn
        go_wp2_with (fail)
        refine (pscale_c A1 a c1 k q w7 hA17 (by omega) hu hk hq).mono ?_
        rintro e w5 ⟨v5, rfl, ho5, hb5⟩
        obtain ⟨A5, k5, rfl, hc5⟩ := ho5.form
        have hw5 := ho5.writ
        have hl5 := ho5.len_le
        rw [List.length_map] at hw5 hl5 ⊢
        have hA5 := hA7.more hb5
        go_wp2_with (fail)
        refine (rscale_c A a c k q w5 hA5 (by omega) hu hk hq).mono ?_
        rintro e w6 ⟨v6, rfl, ho6, hb6⟩
        obtain ⟨A6, k6, rfl, hc6⟩ := ho6.form
        rw [List.length_map]
        go_wp2_with (fail)
        refine (told_c A5 A6 (pScale a k q) (pScale a k q) k5 k6 w7.heap.size w6 (hw5.below hb6) (hc5.more hb6) hc6 hl5 hl5).mono ?_
        rintro e w8 ⟨rfl, hb7⟩
        rw [decide_eq_true (rfl : pScale a k q = pScale a k q)]
        have hb8 := (below_next hb5 hb5.size hb6).trans hb7
        have hA8 := hA7.more hb8
        have hB8 := hB7.more hb8
        have hA18 := hA17.more hb8
        have hB18 := hB17.more hb8
        have hbn8 := below_next hbn7 hbn7.size hb8
        clear hb5 hb6 hb7 hb8 ho5 ho6 hc5 hc6 hw5 hl5 hA7 hB7 hA17 hB17 hA5 hbn7
        go_wp2_with (fail)
        refine (ptimes_c A1 B1 a b c1 d1 q w8 hA18 hB18 (by omega) (by omega) hu hu' hq).mono ?_
        rintro e w5 ⟨v5, rfl, ho5, hb5⟩
        obtain ⟨A5, k5, rfl, hc5⟩ := ho5.form
        have hw5 := ho5.writ
        have hl5 := ho5.len_le
        rw [List.length_map] at hw5 hl5 ⊢
        have hA5 := hA8.more hb5
        have hB5 := hB8.more hb5
        go_wp2_with (fail)
        refine (rtimes_c A B a b c d q w5 hA5 hB5 (by omega) (by omega) hu hu' hq).mono ?_
        rintro e w6 ⟨v6, rfl, ho6, hb6⟩
        obtain ⟨A6, k6, rfl, hc6⟩ := ho6.form
        rw [List.length_map]
        go_wp2_with (fail)
        refine (told_c A5 A6 (pTimes a b q) (pTimes a b q) k5 k6 w8.heap.size w6 (hw5.below hb6) (hc5.more hb6) hc6 hl5 hl5).mono ?_
        rintro e w9 ⟨rfl, hb7⟩
        rw [decide_eq_true (rfl : pTimes a b q = pTimes a b q)]
        have hb8 := (below_next hb5 hb5.size hb6).trans hb7
        have hbn9 := below_next hbn8 hbn8.size hb8
        clear hb5 hb6 hb7 hb8 ho5 ho6 hc5 hc6 hw5 hl5 hA8 hB8 hA18 hB18 hA5 hB5 hbn8
        go_wp2
        go_roundw
        case rel => exact ⟨n + 1, by go_num, by omega, hbn9⟩
        case measure => simp [intOf]; omega
      · obtain rfl : n = 2 := by omega
        have hbw := below_next hB3 hB3.size hbn
        go_wp2_with (fail)
        refine (eval_c A1 a c1 x q wr hA1n (by omega) hu hx hq).mono ?_
        rintro e w5 ⟨rfl, hw5⟩
        have hb5 : Below wr.heap.size wr w5 := below_of_dr hw5
        go_wp2_with (fail)
        refine (reval_c A a c x q w5 (hAn.more hb5) (by omega) hu hx hq).mono ?_
        rintro e w6 ⟨rfl, hw6⟩
        have hb6 := below_dr hb5 hw6
        clear hw5 hw6 hb5
        go_wp2_with (fail)
        refine (pdeg_c A1 a c1 q w6 (hA1n.more hb6) (by omega) hu hq).mono ?_
        rintro e w' ⟨rfl, rfl⟩
        go_wp2_with (fail)
        refine (rdeg_c A a c q w6 (hAn.more hb6) (by omega) hu hq).mono ?_
        rintro e w' ⟨rfl, rfl⟩
        go_wp2_with (fail)
        refine (psame_c A1 B1 a b c1 d1 q w6 (hA1n.more hb6) (hB1n.more hb6) (by omega) (by omega) hu hu' hq).mono ?_
        rintro e w7 ⟨rfl, hb7'⟩
        have hb7 := below_next hb6 hb6.size hb7'
        clear hb7' hb6
        go_wp2_with (fail)
        refine (rsame_c A B a b c d q w7 (hAn.more hb7) (hBn.more hb7) (by omega) (by omega) hu hu' hq).mono ?_
        rintro e w' ⟨rfl, rfl⟩
        have hbb : (sameB a b q == sameB a b q) = true := by simp
        go_wp2_with (fail)
        refine (numbers_c A1 A a a c1 c w7 (hA1n.more hb7) (hAn.more hb7) (by omega) (by omega)).mono ?_
        rintro e w8 ⟨rfl, hw8⟩
        rw [decide_eq_true (rfl : a = a)]
        have hb8 := below_dr hb7 hw8
        clear hb7 hw8
        go_wp2_with (fail)
        refine (numbers_c B1 B b b d1 d w8 (hB1n.more hb8) (hBn.more hb8) (by omega) (by omega)).mono ?_
        rintro e w9 ⟨rfl, hw9⟩
        rw [decide_eq_true (rfl : b = b)]
        have hb9 := below_dr hb8 hw9
        have hbw9 := below_next hbw hbw.size hb9
        clear hb8 hw9 hb9
        go_wp2_with (fail)
        refine (awake03_c w9).mono ?_
        rintro e w10 ⟨rfl, hb10⟩
        go_wp2
        go_ret
        exact ⟨rfl, below_next hbw9 hbw9.size hb10⟩
  · have hor : ¬ a.length ≤ 40 ∨ (a.length ≤ 40 ∧ ¬ b.length ≤ 40) := by omega
    rcases hor with h1 | ⟨h1, h2⟩
    all_goals
      go_enter Try.func13, Try.ntmps13
      go_wp2_with (go_at_call 53; refine (awake03_c _).mono ?_; rintro e w2 ⟨rfl, hb2⟩)
      go_ret
      exact ⟨rfl, hb2⟩

set_option maxRecDepth 100000 in
theorem polyTells_lifted (os : Os) (started : os.Started) (H : Type) (enc : TypeId × Value → H) :
    ReturnsInHanded {} Try.checked os 13 .any (Rows.polyTellsSpec.pre6 enc Try.prog Try.f13 Rows.polyTellsRow.domain false) (Rows.polyTellsSpec.post enc Try.prog Try.f13 false true false false) := by
  refine returnsInHanded_of_change (C := Try.checked) Try.own started (by kernel_rfl) Try.func13
    (ChangeSpec.witness6 (enc := enc) (C := Try.checked) false ⟨#[], #[.slice none 0 0, .slice none 0 0, .int .u64 0, .int .u64 0, .int .u64 0], []⟩ 8 (by kernel_rfl) (by kernel_rfl) (by kernel_rfl) (by kernel_rfl)) ?_
  intro W base args ds gs before hval0 hW hcnd _
  have hval : ∀ (j : Nat) t v, Try.f13.params[j]? = some t → args[j]? = some v → Value.okWide Try.prog W .any base t v := hval0
  have hW' := hW
  obtain ⟨p, q, hA0, hV, rfl, hfz, hnd⟩ := hW
  have hA : DataW.TrodAll enc Try.prog W 0 (fun _ => true) true Try.f13.params.toList args.toList ds p := hA0
  rw [Try.params13] at hA hval
  obtain ⟨v0, v1, v2, v3, v4, d0, d1, d2, d3, d4, p0, p1, p2, p3, p4, rfl, rfl, rfl, h0, h1, h2, h3, h4⟩ := trodAll_five' hA
  obtain ⟨rfl, rfl⟩ := trodVars_none hV
  obtain ⟨_, k0⟩ := one_of Try.underlying26 (hval 0 26 v0 rfl rfl) h0
  obtain ⟨A, a, c, rfl, gA, gl, gu⟩ := words_at k0
  obtain ⟨_, k1⟩ := one_of Try.underlying26 (hval 1 26 v1 rfl rfl) h1
  obtain ⟨B, b, d, rfl, gB, gl', gu'⟩ := words_at k1
  obtain ⟨x, rfl, _, _, wx⟩ := open_int Try.underlying23 (hval 2 23 v2 rfl rfl) h2
  obtain ⟨y, rfl, _, _, wy⟩ := open_int Try.underlying23 (hval 3 23 v3 rfl rfl) h3
  obtain ⟨z, rfl, _, _, wz⟩ := open_int Try.underlying23 (hval 4 23 v4 rfl rfl) h4
  clear hA0 hval0
  refine (polyTells_c A B a b c d x y z W gA gB gl gl' gu gu' (u64_of wx) (u64_of wy) (u64_of wz)).mono fun e W' ⟨he, hb⟩ => ?_
  subst he
  exact ⟨_, rfl, post_true hW' hb Try.laidOut (by kernel_rfl) rfl rfl rfl rfl rfl Try.underlying4⟩

theorem polyTells_holds : Rows.PolyTellsSaid :=
  OpenClaim.holds_of_wide 13 Try.f13 rfl rfl rfl rfl rfl rfl rfl ⟨rfl, rfl, rfl, rfl, rfl⟩ rfl rfl rfl rfl rfl (by kernel_rfl) Try.func13 (by kernel_rfl)
    (of_decide_eq_true (by kernel_rfl)) (by unfold Func.isWrapper; first | (rw [if_pos (by decide +kernel)]; kernel_rfl) | (rw [if_neg (by decide +kernel)]; exact ⟨rfl, rfl⟩))
    (fun os started H enc _ => polyTells_lifted os started H enc)
#print axioms polyTells_holds

end Go.Proofs.Ytnmadmcegdpecaa
