/-
  PROVED HERE: PolyThrough: whatever places, values, place and number may be, the weights, and the polynomial through the points, are the document's, or it is refused.
-/
import Derived.Test.YtnmadmcegdpecaaAwake03
import Derived.Test.YtnmadmcegdpecaaRefM
import Derived.Test.YtnmadmcegdpecaaWeiM
import Derived.Test.YtnmadmcegdpecaaArgs
namespace Go.Proofs.Ytnmadmcegdpecaa
open Go.ChangeShapes Go.WideShapes Go.ChangeAt Go.RowKit

set_option maxRecDepth 100000 in
set_option maxHeartbeats 4000000 in
theorem polyThrough_c (A B : Option Addr) (a b : List Int) (c d : Nat) (x q : Int) (w : World) (hA : Cells w A (a.map (.int .u64))) (hB : Cells w B (b.map (.int .u64))) (hl : a.length ≤ 9223372036854775807) (hl' : b.length ≤ 9223372036854775807) (hu : U64s a) (hu' : U64s b) (hx : U64 x) (hq : U64 q) :
    Calls Try.prog 11 #[.slice A a.length c, .slice B b.length d, .int .u64 x, .int .u64 q] w fun e w' => e = .returned (.bool true) ∧ Below w.heap.size w w' := by
  by_cases hsm : a.length ≤ 14 ∧ b.length ≤ 40
  · obtain ⟨hla, hlb⟩ := hsm
    go_enter Try.func11, Try.ntmps11
    go_wp2_with (first
      | (at_builtin; refine wpList_fresh elt_u64 (w.alloc _) rfl _ _ rfl rfl (hA.more (below_alloc _ _)) (by simp; rfl) (fun u hu => by simp only [List.mem_map] at hu; obtain ⟨z, _, rfl⟩ := hu; rfl) (by simp; omega) (by simp; omega) ?_; intro v2 w2 hr2 hb2; have hB2 := below_next (below_alloc w _) (below_alloc w _).size hb2; obtain ⟨A1, c1, rfl, hA1, _⟩ := hr2.form; rw [List.length_map])
      | (at_builtin; refine wpList_fresh elt_u64 (w2.alloc _) rfl _ _ rfl rfl ((hB.more hB2).more (below_alloc _ _)) (by simp; rfl) (fun u hu => by simp only [List.mem_map] at hu; obtain ⟨z, _, rfl⟩ := hu; rfl) (by simp; omega) (by simp; omega) ?_; intro v3 w3 hr3 hb3; have hB23 := below_next (below_alloc w2 _) (below_alloc w2 _).size hb3; have hB3 := below_next hB2 hB2.size hB23; obtain ⟨B1, d1, rfl, hB1, _⟩ := hr3.form; rw [List.length_map]))
    have hA3 := hA.more hB3
    have hBB3 := hB.more hB3
    have hA13 := hA1.more hB23
    clear hA hB hA1 hr2 hr3 hb2 hb3 hB2 hB23
    go_loopw [11, 12, 13, 14, 15, 16, 17, 18, 19] (fun i _ _ _ _ _ _ _ _ wr => ∃ n : Nat, i = .int .i64 n ∧ n ≤ 2 ∧ Below w3.heap.size w3 wr) (fun i _ _ _ _ _ _ _ _ _ => 2 - (intOf i).toNat)
    case atStart => exact ⟨0, rfl, by omega, Below.refl _ _⟩
    case round =>
      obtain ⟨n, rfl, hn, hbn⟩ := hrel
      have hAn := hA3.more hbn
      have hBn := hBB3.more hbn
      have hA1n := hA13.more hbn
      have hB1n := hB1.more hbn
      by_cases hlt : n < 2
      · have hbe : (eAll a q != eAll a q) = false := by simp
        have hbt : (tErr a b q != tErr a b q) = false := by simp
        go_wp2_with (fail)
        refine (pweights_c A1 a c1 x q wr hA1n (by omega) hu hx hq).mono ?_
        rintro e w5 ⟨v5, rfl, ho5, hb5⟩
        obtain ⟨A5, k5, rfl, hc5⟩ := ho5.form
        have hw5 := ho5.writ
        have hl5 := ho5.len_le
        have hblk5 := fun g (hg : (Value.slice A5 0 0).ownBlock = some g) => (ho5.block g ((own_block0 _ _ _).trans hg)).2
        rw [List.length_map] at hw5 hl5 ⊢
        have hA5 := hAn.more hb5
        have hB5 := hBn.more hb5
        have hA15 := hA1n.more hb5
        have hB15 := hB1n.more hb5
        clear ho5 hAn hBn hA1n hB1n
        go_wp2_with (fail)
        refine (rweights_c A a c x q w5 hA5 (by omega) hu hx hq).mono ?_
        rintro e w6 ⟨v6, rfl, ho6, hb6⟩
        obtain ⟨A6, k6, rfl, hc6⟩ := ho6.form
        rw [List.length_map]
        have hb56 := below_next hb5 hb5.size hb6
        have hb6s := hb6.size
        have hw6 := hw5.below hb6
        have hc56 := hc5.more hb6
        have hA6' := hA5.more hb6
        have hB6' := hB5.more hb6
        have hA16 := hA15.more hb6
        have hB16 := hB15.more hb6
        clear ho6 hA5 hB5 hA15 hB15 hb5 hb6 hw5 hc5
        go_wp2_with (fail)
        refine (pthrough_c A1 B1 a b c1 d1 q w6 hA16 hB16 (by omega) (by omega) hu hu' hq).mono ?_
        rintro e w7 ⟨v7, rfl, ho7, hb7⟩
        obtain ⟨A7, k7, rfl, hc7⟩ := ho7.form
        have hl7 := ho7.len_le
        have hs56 := hb6s
        have hne7 : ∀ g, (Value.slice A7 ((tVal a b q).map (Value.int .u64)).length k7).ownBlock = some g → (Value.slice A5 0 0).ownBlock ≠ some g := fun g hg hg' => by
          have h1 := (ho7.block g hg).1
          have h2 := hblk5 g hg'
          omega
        have ho7w := ho7.from_ hb56.size
        rw [List.length_map] at hl7 ⊢
        have hb57 := below_next hb56 hb56.size hb7
        have hw67 := hw6.below hb7
        have hc57 := hc56.more hb7
        have hc67 := hc6.more hb7
        have hb7s := hb7.size
        have hA7' := hA6'.more hb7
        have hB7' := hB6'.more hb7
        clear ho7 hA6' hB6' hA16 hB16 hb7 hw6 hc56 hc6
        go_wp2_with (fail)
        refine (rthrough_c A B a b c d q w7 hA7' hB7' (by omega) (by omega) hu hu' hq).mono ?_
        rintro e w8 ⟨v8, rfl, ho8, hb8⟩
        obtain ⟨A8, k8, rfl, hc8⟩ := ho8.form
        rw [List.length_map]
        have hb58 := below_next hb57 hb57.size hb8
        have hw68 := hw67.below hb8
        have ho78 := ho7w.below hb8
        have hne8 : ∀ g, (Value.slice A8 ((tVal a b q).map (Value.int .u64)).length k8).ownBlock = some g → (Value.slice A5 0 0).ownBlock ≠ some g := fun g hg hg' => by
          have h1 := (ho8.block g hg).1
          have h2 := hblk5 g hg'
          omega
        have hc58 := hc57.more hb8
        have hc68 := hc67.more hb8
        clear hA7' hB7' hb57 hb8 hw67 hc57 hc67 hc7 hc8
        go_wp2_with (fail)
        refine (told2_c A5 A6 (wList a x q) (wList a x q) k5 k6 wr.heap.size w8 hw68 hc58 hc68 hl5 hl5).mono ?_
        rintro e w9 ⟨rfl, hb9, hk9⟩
        rw [decide_eq_true (rfl : wList a x q = wList a x q)]
        have hb59 := hb58.trans hb9
        have ho79 := ho78.keep fun g hg => hk9 g (hne7 g hg)
        have ho89 := ho8.keep fun g hg => hk9 g (hne8 g hg)
        have hw79 := ho79.writ
        have hc79 := own_cells ho79
        have hc89 := own_cells ho89
        rw [List.length_map] at hw79
        clear hb58 hw68 ho78 ho79 ho89 ho8 hk9 hne7 hne8 hblk5
        go_wp2_with (fail)
        refine (told_c A7 A8 (tVal a b q) (tVal a b q) k7 k8 wr.heap.size w9 hw79 hc79 hc89 hl7 hl7).mono ?_
        rintro e w10 ⟨rfl, hb10⟩
        rw [decide_eq_true (rfl : tVal a b q = tVal a b q)]
        have hbn10 := below_next hbn hbn.size (hb59.trans hb10)
        go_wp2
        go_roundw
        case rel => exact ⟨n + 1, by go_num, by omega, hbn10⟩
        case measure => simp [intOf]; omega
      · obtain rfl : n = 2 := by omega
        have hbw := below_next hB3 hB3.size hbn
        go_wp2_with (fail)
        refine (numbers_c A1 A a a c1 c wr hA1n hAn (by omega) (by omega)).mono ?_
        rintro e w8 ⟨rfl, hw8⟩
        rw [decide_eq_true (rfl : a = a)]
        have hb8 : Below wr.heap.size wr w8 := below_of_dr hw8
        clear hw8
        go_wp2_with (fail)
        refine (numbers_c B1 B b b d1 d w8 (hB1n.more hb8) (hBn.more hb8) (by omega) (by omega)).mono ?_
        rintro e w9 ⟨rfl, hw9⟩
        rw [decide_eq_true (rfl : b = b)]
        have hb9 := below_dr hb8 hw9
        have hbw9 := below_next hbw hbw.size hb9
        clear hb8 hw9 hb9
        go_wp2_with (fail)
        refine (awake03_c w9).mono ?_
        rintro e w10 ⟨rfl, hb10⟩
        go_wp2
        go_ret
        exact ⟨rfl, below_next hbw9 hbw9.size hb10⟩
  · have hor : ¬ a.length ≤ 14 ∨ (a.length ≤ 14 ∧ ¬ b.length ≤ 40) := by omega
    rcases hor with h1 | ⟨h1, h2⟩
    all_goals
      go_enter Try.func11, Try.ntmps11
      go_wp2_with (go_at_call 53; refine (awake03_c _).mono ?_; rintro e w2 ⟨rfl, hb2⟩)
      go_ret
      exact ⟨rfl, hb2⟩

set_option maxRecDepth 100000 in
theorem polyThrough_lifted (os : Os) (started : os.Started) (H : Type) (enc : TypeId × Value → H) :
    ReturnsInHanded {} Try.checked os 11 .any (Rows.polyThroughSpec.pre6 enc Try.prog Try.f11 Rows.polyThroughRow.domain false) (Rows.polyThroughSpec.post enc Try.prog Try.f11 false true false false) := by
  refine returnsInHanded_of_change (C := Try.checked) Try.own started (by kernel_rfl) Try.func11
    (ChangeSpec.witness6 (enc := enc) (C := Try.checked) false ⟨#[], #[.slice none 0 0, .slice none 0 0, .int .u64 0, .int .u64 0], []⟩ 8 (by kernel_rfl) (by kernel_rfl) (by kernel_rfl) (by kernel_rfl)) ?_
  intro W base args ds gs before hval0 hW hcnd _
  have hval : ∀ (j : Nat) t v, Try.f11.params[j]? = some t → args[j]? = some v → Value.okWide Try.prog W .any base t v := hval0
  have hW' := hW
  obtain ⟨p, q, hA0, hV, rfl, hfz, hnd⟩ := hW
  have hA : DataW.TrodAll enc Try.prog W 0 (fun _ => true) true Try.f11.params.toList args.toList ds p := hA0
  rw [Try.params11] at hA hval
  obtain ⟨v0, v1, v2, v3, d0, d1, d2, d3, p0, p1, p2, p3, rfl, rfl, rfl, h0, h1, h2, h3⟩ := trodAll_four hA
  obtain ⟨rfl, rfl⟩ := trodVars_none hV
  obtain ⟨_, k0⟩ := one_of Try.underlying26 (hval 0 26 v0 rfl rfl) h0
  obtain ⟨A, a, c, rfl, gA, gl, gu⟩ := words_at k0
  obtain ⟨_, k1⟩ := one_of Try.underlying26 (hval 1 26 v1 rfl rfl) h1
  obtain ⟨B, b, d, rfl, gB, gl', gu'⟩ := words_at k1
  obtain ⟨x, rfl, _, _, wx⟩ := open_int Try.underlying23 (hval 2 23 v2 rfl rfl) h2
  obtain ⟨y, rfl, _, _, wy⟩ := open_int Try.underlying23 (hval 3 23 v3 rfl rfl) h3
  clear hA0 hval0
  refine (polyThrough_c A B a b c d x y W gA gB gl gl' gu gu' (u64_of wx) (u64_of wy)).mono fun e W' ⟨he, hb⟩ => ?_
  subst he
  exact ⟨_, rfl, post_true hW' hb Try.laidOut (by kernel_rfl) rfl rfl rfl rfl rfl Try.underlying4⟩

theorem polyThrough_holds : Rows.PolyThroughSaid :=
  OpenClaim.holds_of_wide 11 Try.f11 rfl rfl rfl rfl rfl rfl rfl ⟨rfl, rfl, rfl, rfl, rfl⟩ rfl rfl rfl rfl rfl (by kernel_rfl) Try.func11 (by kernel_rfl)
    (of_decide_eq_true (by kernel_rfl)) (by unfold Func.isWrapper; first | (rw [if_pos (by decide +kernel)]; kernel_rfl) | (rw [if_neg (by decide +kernel)]; exact ⟨rfl, rfl⟩))
    (fun os started H enc _ => polyThrough_lifted os started H enc)
#print axioms polyThrough_holds

end Go.Proofs.Ytnmadmcegdpecaa
