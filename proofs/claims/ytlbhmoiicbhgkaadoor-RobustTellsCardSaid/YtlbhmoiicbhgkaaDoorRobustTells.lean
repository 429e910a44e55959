/-
  PROVED HERE: RobustTells's row, and its card.
-/
import Derived.Test.YtlbhmoiicbhgkaaDoorRobQ1
import Derived.Test.YtlbhmoiicbhgkaaDoorRobQ2
import Derived.Test.YtlbhmoiicbhgkaaDoorRobQ3
import Derived.Test.YtlbhmoiicbhgkaaDoorRobQ4
import Derived.Test.YtlbhmoiicbhgkaaDoorRobQ5
import Derived.Test.YtlbhmoiicbhgkaaDoorRobQ6
import Derived.Test.YtlbhmoiicbhgkaaDoorRobQ7
import Derived.Test.YtlbhmoiicbhgkaaDoorRobQ8
import Derived.Test.YtlbhmoiicbhgkaaDoorRobQ9
import Derived.Test.YtlbhmoiicbhgkaaDoorRobQ10
import Derived.Test.YtlbhmoiicbhgkaaDoorRobQ11
import Derived.Test.YtlbhmoiicbhgkaaDoorRpE
import Derived.Test.YtlbhmoiicbhgkaaDoorPsN
import Derived.Test.YtlbhmoiicbhgkaaDoorSeat
namespace Go.Proofs.YtlbhmoiicbhgkaaDoor
open Go Go.ChangeShapes Go.WideShapes Go.ChangeAt Go.RowKit

set_option maxRecDepth 100000 in
theorem robustTells_lifted (os : Os) (started : os.Started) (H : Type) (enc : TypeId × Value → H) :
    ReturnsInHanded {} Tryd.checked os 6 .any (fun w args => (Rows.robustTellsSpec.pre enc Tryd.prog Tryd.f6 [] false w args ∧ laidMetH Tryd.prog laidB w) ∧ sizedMet enc Tryd.prog Tryd.f6 (OpenSpec.ofChange Rows.robustTellsSpec) false w args)
      (Rows.robustTellsSpec.post enc Tryd.prog Tryd.f6 false true false false) := by
  haveI : DecidableEq Lit := fun a b => Classical.propDecidable (a = b)
  refine returnsInHanded_of_change_and (C := Tryd.checked) (X := fun w _ => laidMetH Tryd.prog laidB w) (fun _ _ _ hh h => h.of_heap hh) own_knob started (by kernel_rfl) Tryd.func6
    (ChangeSpec.witness_shaped (enc := enc) (C := Tryd.checked) (os := os) (X := fun w _ => laidMetH Tryd.prog laidB w) false (World.doorLaid Tryd.prog 400 os) #[.slice none 0 0, .slice none 0 0, .int .i64 0, .int .u64 0] 8 rfl (World.shaped_of_RefB (by kernel_rfl) (by kernel_rfl)) (by kernel_rfl) (by kernel_rfl) (by kernel_rfl) (door_met os _)) ?_
  intro W base args ds gs before hval0 hW hcnd hsz0 hL _
  have hval : ∀ (j : Nat) t v, Tryd.f6.params[j]? = some t → args[j]? = some v → Value.okWide Tryd.prog W .any base t v := hval0
  have hW' := hW
  obtain ⟨p, q, hA0, hV, rfl, hfz, hnd⟩ := hW
  have hA : DataW.TrodAll enc Tryd.prog W 0 (fun _ => true) true Tryd.f6.params.toList args.toList ds p := hA0
  rw [Tryd.params6] at hA hval
  obtain ⟨rfl, rfl⟩ := trodVars_none hV
  clear hA0 hval0
  obtain ⟨l⟩ := args
  obtain ⟨v0, l0, d0, e0, p0, q0, rfl, rfl, rfl, h0, hr0⟩ := trodAll_more hA
  obtain ⟨v1, l1, d1, e1, p1, q1, rfl, rfl, rfl, h1, hr1⟩ := trodAll_more hr0
  obtain ⟨v2, l2, d2, e2, p2, q2, rfl, rfl, rfl, h2, hr2⟩ := trodAll_more hr1
  obtain ⟨v3, l3, d3, e3, p3, q3, rfl, rfl, rfl, h3, hr3⟩ := trodAll_more hr2
  obtain ⟨rfl, rfl, rfl⟩ := trodAll_end hr3
  obtain ⟨_, k0⟩ := one_of Tryd.underlying23 (hval 0 23 v0 rfl rfl) h0
  obtain ⟨A0, x0, c0, rfl, a0, b0, f0⟩ := words_at k0
  obtain ⟨_, k1⟩ := one_of Tryd.underlying23 (hval 1 23 v1 rfl rfl) h1
  obtain ⟨A1, x1, c1, rfl, a1, b1, f1⟩ := words_at k1
  obtain ⟨x2, rfl, _, _, w2⟩ := open_int Tryd.underlying3 (hval 2 3 v2 rfl rfl) h2
  obtain ⟨x3, rfl, _, _, w3⟩ := open_int Tryd.underlying24 (hval 3 24 v3 rfl rfl) h3
  refine (robustTells_c A0 A1 x0 x1 c0 c1 x2 x3 W a0 a1 b0 b1 f0 f1 (i64_of w2) (u64_of w3) (tabs_of_laid hL)).mono fun e W' ⟨he, hb⟩ => ?_
  subst he
  exact ⟨_, rfl, post_true hW' hb Tryd.laidOut (by kernel_rfl) rfl rfl rfl rfl rfl Tryd.underlying4⟩

set_option maxRecDepth 100000 in
theorem robustTells_closed : joinedFacts Tryd.pinned.checked.prog 6 Tryd.f6 Rows.robustTellsSpec Rows.robustTellsRow = true := by
  unfold joinedFacts
  rw [show Tryd.pinned.checked.prog.mayEnter = true from seat_mayEnter, show Tryd.pinned.checked.prog.liftsFinal = false from seat_lifts]
  kernel_rfl
theorem robustTells_holds : Rows.RobustTellsSaid :=
  OpenClaim.holds_of_wide 6 Tryd.f6 rfl rfl rfl rfl rfl rfl rfl ⟨rfl, rfl, rfl, rfl, rfl⟩ rfl rfl rfl rfl rfl (by kernel_rfl) Tryd.func6 robustTells_closed
    (of_decide_eq_true (by kernel_rfl)) (by unfold Func.isWrapper; first | (rw [if_pos (by decide +kernel)]; kernel_rfl) | (rw [if_neg (by decide +kernel)]; exact ⟨rfl, rfl⟩))
    (fun os started H enc _ => robustTells_lifted os started H enc)
theorem robustTells_card_holds : Rows.RobustTellsCardSaid :=
  Claim7.holds_tied_plain_at .later [] [.data, .data] true (true, "da6d4decbc9d0acaf6e32e2e04fae10cd6ebdb1f58acffaeddeac9726658d4f3") false
    robustTells_holds (fun _ h => by cases h) (by kernel_rfl) (fun _ h => by cases h) robustTells_row_tie rfl ⟨rfl, rfl⟩ seat_mainIs rfl
    (fun f fn hf hfn => by
      obtain rfl : f = 6 := Option.some.inj ((show Tryd.prog.funcNamed "consistory/consistorylaw05.RobustTells" = some 6 by kernel_rfl).symm.trans hf) |>.symm
      obtain rfl : fn = Tryd.f6 := (Option.some.inj (Tryd.func6.symm.trans hfn)).symm
      refine ⟨by kernel_rfl, fun j t ht => ?_⟩
      have hall : Tryd.f6.params.all (fun t => Tryd.prog.wantsStandIn t == false) = true := by kernel_rfl
      have hm := Array.all_eq_true.1 hall
      obtain ⟨hj, rfl⟩ := Array.getElem?_eq_some_iff.1 ht
      exact eq_of_beq (hm j hj))
    (by kernel_rfl)
#print axioms robustTells_card_holds

end Go.Proofs.YtlbhmoiicbhgkaaDoor
