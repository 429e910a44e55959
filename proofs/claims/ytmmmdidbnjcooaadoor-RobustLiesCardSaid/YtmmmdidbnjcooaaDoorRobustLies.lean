/-
  PROVED HERE: RobustLies' row, and its card: for any polynomial, t, places, lies, and any number.
-/
import Derived.Test.YtmmmdidbnjcooaaDoorRobJ
import Derived.Test.YtmmmdidbnjcooaaDoorArgB
import Derived.Test.YtmmmdidbnjcooaaDoorCard
namespace Go.Proofs.YtmmmdidbnjcooaaDoor
open Go Go.ChangeShapes Go.WideShapes Go.ChangeAt Go.RowKit

theorem u8_ofA {x : Int} (h : (Lit.int .u8 x).wf = true) : 0 ≤ x ∧ x < 256 := by
  simp [Lit.wf, IntKind.min, IntKind.max, IntKind.signed, IntKind.bits] at h
  omega
set_option maxRecDepth 100000 in
theorem robustLies_lifted (os : Os) (started : os.Started) (H : Type) (enc : TypeId × Value → H) :
    ReturnsInHanded {} Tryd.checked os 6 .any (fun w args => (Rows.robustLiesSpec.pre enc Tryd.prog Tryd.f6 [] false w args ∧ laidMetH Tryd.prog laidB w) ∧ sizedMet enc Tryd.prog Tryd.f6 (OpenSpec.ofChange Rows.robustLiesSpec) false w args)
      (Rows.robustLiesSpec.post enc Tryd.prog Tryd.f6 false true false false) := by
  haveI : DecidableEq Lit := fun a b => Classical.propDecidable (a = b)
  refine returnsInHanded_of_change_and (C := Tryd.checked) (X := fun w _ => laidMetH Tryd.prog laidB w) (fun _ _ _ hh h => h.of_heap hh) own_knob started (by kernel_rfl) Tryd.func6
    (ChangeSpec.witness_shaped (enc := enc) (C := Tryd.checked) (os := os) (X := fun w _ => laidMetH Tryd.prog laidB w) false (World.doorLaid Tryd.prog 400 os) #[.slice none 0 0, .int .u8 0, .int .u64 0, .int .i64 0, .slice none 0 0, .int .u64 0] 8 rfl (World.shaped_of_RefB (by kernel_rfl) (by kernel_rfl)) (by kernel_rfl) (by kernel_rfl) (by kernel_rfl) (door_met os _)) ?_
  intro W base args ds gs before hval0 hW hcnd hsz0 hL _
  have hval : ∀ (j : Nat) t v, Tryd.f6.params[j]? = some t → args[j]? = some v → Value.okWide Tryd.prog W .any base t v := hval0
  have hW' := hW
  obtain ⟨p, q, hA0, hV, rfl, hfz, hnd⟩ := hW
  have hA : DataW.TrodAll enc Tryd.prog W 0 (fun _ => true) true Tryd.f6.params.toList args.toList ds p := hA0
  rw [Tryd.params6] at hA hval
  obtain ⟨rfl, rfl⟩ := trodVars_none hV
  clear hA0 hval0
  obtain ⟨l⟩ := args
  obtain ⟨v0, l0, d0, e0, p0, q0, rfl, rfl, rfl, h0, hr0⟩ := trodAll_more hA
  obtain ⟨v1, l1, d1, e1, p1, q1, rfl, rfl, rfl, h1, hr1⟩ := trodAll_more hr0
  obtain ⟨v2, l2, d2, e2, p2, q2, rfl, rfl, rfl, h2, hr2⟩ := trodAll_more hr1
  obtain ⟨v3, l3, d3, e3, p3, q3, rfl, rfl, rfl, h3, hr3⟩ := trodAll_more hr2
  obtain ⟨v4, l4, d4, e4, p4, q4, rfl, rfl, rfl, h4, hr4⟩ := trodAll_more hr3
  obtain ⟨v5, l5, d5, e5, p5, q5, rfl, rfl, rfl, h5, hr5⟩ := trodAll_more hr4
  obtain ⟨rfl, rfl, rfl⟩ := trodAll_end hr5
  obtain ⟨_, k0⟩ := one_of Tryd.underlying25 (hval 0 25 v0 rfl rfl) h0
  obtain ⟨A0, x0, c0, rfl, a0, b0, f0⟩ := words_at k0
  obtain ⟨x1, rfl, _, _, w1⟩ := open_int Tryd.underlying5 (hval 1 5 v1 rfl rfl) h1
  obtain ⟨x2, rfl, _, _, w2⟩ := open_int Tryd.underlying24 (hval 2 24 v2 rfl rfl) h2
  obtain ⟨x3, rfl, _, _, w3⟩ := open_int Tryd.underlying3 (hval 3 3 v3 rfl rfl) h3
  obtain ⟨_, k4⟩ := one_of Tryd.underlying25 (hval 4 25 v4 rfl rfl) h4
  obtain ⟨A4, x4, c4, rfl, a4, b4, f4⟩ := words_at k4
  obtain ⟨x5, rfl, _, _, w5⟩ := open_int Tryd.underlying24 (hval 5 24 v5 rfl rfl) h5
  refine (robustLies_c A0 x0 c0 x1 x2 x3 A4 x4 c4 x5 W a0 b0 f0 (u8_ofA w1) (u64_of w2) (i64_of w3) a4 b4 f4 (u64_of w5) (tabs_of_laid hL)).mono fun e W' ⟨he, hb⟩ => ?_
  subst he
  exact ⟨_, rfl, post_true hW' hb Tryd.laidOut (by kernel_rfl) rfl rfl rfl rfl rfl Tryd.underlying4⟩

theorem robustLies_holds : Rows.RobustLiesSaid :=
  OpenClaim.holds_of_wide 6 Tryd.f6 rfl rfl rfl rfl rfl rfl rfl ⟨rfl, rfl, rfl, rfl, rfl⟩ rfl rfl rfl rfl rfl (by kernel_rfl) Tryd.func6 (by kernel_rfl)
    (of_decide_eq_true (by kernel_rfl)) (by unfold Func.isWrapper; first | (rw [if_pos (by decide +kernel)]; kernel_rfl) | (rw [if_neg (by decide +kernel)]; exact ⟨rfl, rfl⟩))
    (fun os started H enc _ => robustLies_lifted os started H enc)
theorem robustLies_card_holds : Rows.RobustLiesCardSaid :=
  Claim7.holds_tied_plain_at .later [] [.data, .data] true (true, "ccc148878320954120725c11e278998756540f3e43dac2ff522164c523e982ef") false
    robustLies_holds (fun _ h => by cases h) (by kernel_rfl) (fun _ h => by cases h) robustLies_row_tie rfl ⟨rfl, rfl⟩ (by kernel_rfl) rfl
    (fun f fn hf hfn => by
      obtain rfl : f = 6 := Option.some.inj ((show Tryd.prog.funcNamed "consistory/consistorylaw05.RobustLies" = some 6 by kernel_rfl).symm.trans hf) |>.symm
      obtain rfl : fn = Tryd.f6 := (Option.some.inj (Tryd.func6.symm.trans hfn)).symm
      refine ⟨by kernel_rfl, fun j t ht => ?_⟩
      have hall : Tryd.f6.params.all (fun t => Tryd.prog.wantsStandIn t == false) = true := by kernel_rfl
      have hm := Array.all_eq_true.1 hall
      obtain ⟨hj, rfl⟩ := Array.getElem?_eq_some_iff.1 ht
      exact eq_of_beq (hm j hj))
    (by kernel_rfl)
#print axioms robustLies_card_holds

end Go.Proofs.YtmmmdidbnjcooaaDoor
