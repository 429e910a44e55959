/-
  PROVED HERE: RobustWithout's row, and its card: for any points, t, any number, whichever is left out.
-/
import Derived.Test.YtmmmdidbnjcooaaDoorRobW
import Derived.Test.YtmmmdidbnjcooaaDoorArgB
import Derived.Test.YtmmmdidbnjcooaaDoorCard
namespace Go.Proofs.YtmmmdidbnjcooaaDoor
open Go Go.ChangeShapes Go.WideShapes Go.ChangeAt Go.RowKit

theorem u8_ofA {x : Int} (h : (Lit.int .u8 x).wf = true) : 0 ≤ x ∧ x < 256 := by
  simp [Lit.wf, IntKind.min, IntKind.max, IntKind.signed, IntKind.bits] at h
  omega
set_option maxRecDepth 100000 in
theorem robustWithout_lifted (os : Os) (started : os.Started) (H : Type) (enc : TypeId × Value → H) :
    ReturnsInHanded {} Tryd.checked os 8 .any (fun w args => (Rows.robustWithoutSpec.pre enc Tryd.prog Tryd.f8 [] false w args ∧ laidMetH Tryd.prog laidB w) ∧ sizedMet enc Tryd.prog Tryd.f8 (OpenSpec.ofChange Rows.robustWithoutSpec) false w args)
      (Rows.robustWithoutSpec.post enc Tryd.prog Tryd.f8 false true false false) := by
  haveI : DecidableEq Lit := fun a b => Classical.propDecidable (a = b)
  refine returnsInHanded_of_change_and (C := Tryd.checked) (X := fun w _ => laidMetH Tryd.prog laidB w) (fun _ _ _ hh h => h.of_heap hh) own_knob started (by kernel_rfl) Tryd.func8
    (ChangeSpec.witness_shaped (enc := enc) (C := Tryd.checked) (os := os) (X := fun w _ => laidMetH Tryd.prog laidB w) false (World.doorLaid Tryd.prog 400 os) #[.slice none 0 0, .slice none 0 0, .int .u8 0, .int .u64 0, .int .i64 0] 8 rfl (World.shaped_of_RefB (by kernel_rfl) (by kernel_rfl)) (by kernel_rfl) (by kernel_rfl) (by kernel_rfl) (door_met os _)) ?_
  intro W base args ds gs before hval0 hW hcnd hsz0 hL _
  have hval : ∀ (j : Nat) t v, Tryd.f8.params[j]? = some t → args[j]? = some v → Value.okWide Tryd.prog W .any base t v := hval0
  have hW' := hW
  obtain ⟨p, q, hA0, hV, rfl, hfz, hnd⟩ := hW
  have hA : DataW.TrodAll enc Tryd.prog W 0 (fun _ => true) true Tryd.f8.params.toList args.toList ds p := hA0
  rw [Tryd.params8] at hA hval
  obtain ⟨rfl, rfl⟩ := trodVars_none hV
  clear hA0 hval0
  obtain ⟨l⟩ := args
  obtain ⟨v0, l0, d0, e0, p0, q0, rfl, rfl, rfl, h0, hr0⟩ := trodAll_more hA
  obtain ⟨v1, l1, d1, e1, p1, q1, rfl, rfl, rfl, h1, hr1⟩ := trodAll_more hr0
  obtain ⟨v2, l2, d2, e2, p2, q2, rfl, rfl, rfl, h2, hr2⟩ := trodAll_more hr1
  obtain ⟨v3, l3, d3, e3, p3, q3, rfl, rfl, rfl, h3, hr3⟩ := trodAll_more hr2
  obtain ⟨v4, l4, d4, e4, p4, q4, rfl, rfl, rfl, h4, hr4⟩ := trodAll_more hr3
  obtain ⟨rfl, rfl, rfl⟩ := trodAll_end hr4
  obtain ⟨_, k0⟩ := one_of Tryd.underlying25 (hval 0 25 v0 rfl rfl) h0
  obtain ⟨A0, x0, c0, rfl, a0, b0, f0⟩ := words_at k0
  obtain ⟨_, k1⟩ := one_of Tryd.underlying25 (hval 1 25 v1 rfl rfl) h1
  obtain ⟨A1, x1, c1, rfl, a1, b1, f1⟩ := words_at k1
  obtain ⟨x2, rfl, _, _, w2⟩ := open_int Tryd.underlying5 (hval 2 5 v2 rfl rfl) h2
  obtain ⟨x3, rfl, _, _, w3⟩ := open_int Tryd.underlying24 (hval 3 24 v3 rfl rfl) h3
  obtain ⟨x4, rfl, _, _, w4⟩ := open_int Tryd.underlying3 (hval 4 3 v4 rfl rfl) h4
  refine (robustWithout_c A0 A1 x0 x1 c0 c1 x2 x3 x4 W a0 a1 b0 b1 f0 f1 (u8_ofA w2) (u64_of w3) (i64_of w4) (tabs_of_laid hL)).mono fun e W' ⟨he, hb⟩ => ?_
  subst he
  exact ⟨_, rfl, post_true hW' hb Tryd.laidOut (by kernel_rfl) rfl rfl rfl rfl rfl Tryd.underlying4⟩

theorem robustWithout_holds : Rows.RobustWithoutSaid :=
  OpenClaim.holds_of_wide 8 Tryd.f8 rfl rfl rfl rfl rfl rfl rfl ⟨rfl, rfl, rfl, rfl, rfl⟩ rfl rfl rfl rfl rfl (by kernel_rfl) Tryd.func8 (by kernel_rfl)
    (of_decide_eq_true (by kernel_rfl)) (by unfold Func.isWrapper; first | (rw [if_pos (by decide +kernel)]; kernel_rfl) | (rw [if_neg (by decide +kernel)]; exact ⟨rfl, rfl⟩))
    (fun os started H enc _ => robustWithout_lifted os started H enc)
theorem robustWithout_card_holds : Rows.RobustWithoutCardSaid :=
  Claim7.holds_tied_plain_at .later [] [.data, .data] true (true, "ccc148878320954120725c11e278998756540f3e43dac2ff522164c523e982ef") false
    robustWithout_holds (fun _ h => by cases h) (by kernel_rfl) (fun _ h => by cases h) robustWithout_row_tie rfl ⟨rfl, rfl⟩ (by kernel_rfl) rfl
    (fun f fn hf hfn => by
      obtain rfl : f = 8 := Option.some.inj ((show Tryd.prog.funcNamed "consistory/consistorylaw05.RobustWithout" = some 8 by kernel_rfl).symm.trans hf) |>.symm
      obtain rfl : fn = Tryd.f8 := (Option.some.inj (Tryd.func8.symm.trans hfn)).symm
      refine ⟨by kernel_rfl, fun j t ht => ?_⟩
      have hall : Tryd.f8.params.all (fun t => Tryd.prog.wantsStandIn t == false) = true := by kernel_rfl
      have hm := Array.all_eq_true.1 hall
      obtain ⟨hj, rfl⟩ := Array.getElem?_eq_some_iff.1 ht
      exact eq_of_beq (hm j hj))
    (by kernel_rfl)
#print axioms robustWithout_card_holds

end Go.Proofs.YtmmmdidbnjcooaaDoor
