/-
  PROVED HERE: ScoreNames' row, and its card.
-/
import Derived.Test.YtmmmdidbnjcooaaDoorScS
import Derived.Test.YtmmmdidbnjcooaaDoorCard
namespace Go.Proofs.YtmmmdidbnjcooaaDoor
open Go Go.ChangeShapes Go.WideShapes Go.ChangeAt Go.RowKit

set_option maxRecDepth 100000 in
theorem scoreNames_lifted (os : Os) (started : os.Started) (H : Type) (enc : TypeId × Value → H) :
    ReturnsInHanded {} Tryd.checked os 10 .any (fun w args => (Rows.scoreNamesSpec.pre enc Tryd.prog Tryd.f10 [] false w args ∧ laidMetH Tryd.prog laidB w) ∧ sizedMet enc Tryd.prog Tryd.f10 (OpenSpec.ofChange Rows.scoreNamesSpec) false w args)
      (Rows.scoreNamesSpec.post enc Tryd.prog Tryd.f10 false true false false) := by
  haveI : DecidableEq Lit := fun a b => Classical.propDecidable (a = b)
  refine returnsInHanded_of_change_and (C := Tryd.checked) (X := fun w _ => laidMetH Tryd.prog laidB w) (fun _ _ _ hh h => h.of_heap hh) own_knob started (by kernel_rfl) Tryd.func10
    (ChangeSpec.witness_shaped (enc := enc) (C := Tryd.checked) (os := os) (X := fun w _ => laidMetH Tryd.prog laidB w) false (World.doorLaid Tryd.prog 400 os) #[] 8 rfl (World.shaped_of_RefB (by kernel_rfl) (by kernel_rfl)) (by kernel_rfl) (by kernel_rfl) (by kernel_rfl) (door_met os _)) ?_
  intro W base args ds gs before hval0 hW hcnd hsz0 hL _
  have hval : ∀ (j : Nat) t v, Tryd.f10.params[j]? = some t → args[j]? = some v → Value.okWide Tryd.prog W .any base t v := hval0
  have hW' := hW
  obtain ⟨p, q, hA0, hV, rfl, hfz, hnd⟩ := hW
  have hA : DataW.TrodAll enc Tryd.prog W 0 (fun _ => true) true Tryd.f10.params.toList args.toList ds p := hA0
  rw [Tryd.params10] at hA hval
  obtain ⟨rfl, rfl⟩ := trodVars_none hV
  obtain ⟨l⟩ := args
  obtain ⟨rfl, rfl, rfl⟩ := trodAll_end hA
  clear hA0 hval0
  refine (scoreNames_c  W (tabs_of_laid hL)).mono fun e W' ⟨he, hb⟩ => ?_
  subst he
  exact ⟨_, rfl, post_true hW' hb Tryd.laidOut (by kernel_rfl) rfl rfl rfl rfl rfl Tryd.underlying4⟩

theorem scoreNames_holds : Rows.ScoreNamesSaid :=
  OpenClaim.holds_of_wide 10 Tryd.f10 rfl rfl rfl rfl rfl rfl rfl ⟨rfl, rfl, rfl, rfl, rfl⟩ rfl rfl rfl rfl rfl (by kernel_rfl) Tryd.func10 (by kernel_rfl)
    (of_decide_eq_true (by kernel_rfl)) (by unfold Func.isWrapper; first | (rw [if_pos (by decide +kernel)]; kernel_rfl) | (rw [if_neg (by decide +kernel)]; exact ⟨rfl, rfl⟩))
    (fun os started H enc _ => scoreNames_lifted os started H enc)
theorem scoreNames_card_holds : Rows.ScoreNamesCardSaid :=
  Claim7.holds_tied_plain_at .later [] [.data, .data] true (true, "ccc148878320954120725c11e278998756540f3e43dac2ff522164c523e982ef") false
    scoreNames_holds (fun _ h => by cases h) (by kernel_rfl) (fun _ h => by cases h) scoreNames_row_tie rfl ⟨rfl, rfl⟩ (by kernel_rfl) rfl
    (fun f fn hf hfn => by
      obtain rfl : f = 10 := Option.some.inj ((show Tryd.prog.funcNamed "consistory/consistorylaw22.ScoreNames" = some 10 by kernel_rfl).symm.trans hf) |>.symm
      obtain rfl : fn = Tryd.f10 := (Option.some.inj (Tryd.func10.symm.trans hfn)).symm
      refine ⟨by kernel_rfl, fun j t ht => ?_⟩
      have hall : Tryd.f10.params.all (fun t => Tryd.prog.wantsStandIn t == false) = true := by kernel_rfl
      have hm := Array.all_eq_true.1 hall
      obtain ⟨hj, rfl⟩ := Array.getElem?_eq_some_iff.1 ht
      exact eq_of_beq (hm j hj))
    (by kernel_rfl)
#print axioms scoreNames_card_holds

end Go.Proofs.YtmmmdidbnjcooaaDoor
