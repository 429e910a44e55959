/-
  PROVED HERE: AdmitTells's row, and its card.
-/
import Derived.Test.YtlbhmoiicbhgkaaDoorAdmQ1
import Derived.Test.YtlbhmoiicbhgkaaDoorAdmQ2
import Derived.Test.YtlbhmoiicbhgkaaDoorAdmQ3
import Derived.Test.YtlbhmoiicbhgkaaDoorAdmQ4
import Derived.Test.YtlbhmoiicbhgkaaDoorAdmQ5
import Derived.Test.YtlbhmoiicbhgkaaDoorAdmQ6
import Derived.Test.YtlbhmoiicbhgkaaDoorAdmQ7
import Derived.Test.YtlbhmoiicbhgkaaDoorAdmQ8
import Derived.Test.YtlbhmoiicbhgkaaDoorAsF
import Derived.Test.YtlbhmoiicbhgkaaDoorSeat
namespace Go.Proofs.YtlbhmoiicbhgkaaDoor
open Go Go.ChangeShapes Go.WideShapes Go.ChangeAt Go.RowKit

set_option maxRecDepth 100000 in
theorem admitTells_lifted (os : Os) (started : os.Started) (H : Type) (enc : TypeId × Value → H) :
    ReturnsInHanded {} Tryd.checked os 7 .any (fun w args => (Rows.admitTellsSpec.pre enc Tryd.prog Tryd.f7 [] false w args ∧ laidMetH Tryd.prog laidB w) ∧ sizedMet enc Tryd.prog Tryd.f7 (OpenSpec.ofChange Rows.admitTellsSpec) false w args)
      (Rows.admitTellsSpec.post enc Tryd.prog Tryd.f7 false true false false) := by
  haveI : DecidableEq Lit := fun a b => Classical.propDecidable (a = b)
  refine returnsInHanded_of_change_and (C := Tryd.checked) (X := fun w _ => laidMetH Tryd.prog laidB w) (fun _ _ _ hh h => h.of_heap hh) own_knob started (by kernel_rfl) Tryd.func7
    (ChangeSpec.witness_shaped (enc := enc) (C := Tryd.checked) (os := os) (X := fun w _ => laidMetH Tryd.prog laidB w) false (World.doorLaid Tryd.prog 400 os) #[(pval ⟨0, 0, 0, 0, 0, 0, 0, 0, 0, 0, 0, 0⟩), .slice none 0 0, .slice none 0 0, .int .i64 0, .slice none 0 0] 8 rfl (World.shaped_of_RefB (by kernel_rfl) (by kernel_rfl)) (by kernel_rfl) (by kernel_rfl) (by kernel_rfl) (door_met os _)) ?_
  intro W base args ds gs before hval0 hW hcnd hsz0 hL _
  have hval : ∀ (j : Nat) t v, Tryd.f7.params[j]? = some t → args[j]? = some v → Value.okWide Tryd.prog W .any base t v := hval0
  have hW' := hW
  obtain ⟨p, q, hA0, hV, rfl, hfz, hnd⟩ := hW
  have hA : DataW.TrodAll enc Tryd.prog W 0 (fun _ => true) true Tryd.f7.params.toList args.toList ds p := hA0
  rw [Tryd.params7] at hA hval
  obtain ⟨rfl, rfl⟩ := trodVars_none hV
  clear hA0 hval0
  obtain ⟨l⟩ := args
  obtain ⟨v0, l0, d0, e0, p0, q0, rfl, rfl, rfl, h0, hr0⟩ := trodAll_more hA
  obtain ⟨v1, l1, d1, e1, p1, q1, rfl, rfl, rfl, h1, hr1⟩ := trodAll_more hr0
  obtain ⟨v2, l2, d2, e2, p2, q2, rfl, rfl, rfl, h2, hr2⟩ := trodAll_more hr1
  obtain ⟨v3, l3, d3, e3, p3, q3, rfl, rfl, rfl, h3, hr3⟩ := trodAll_more hr2
  obtain ⟨v4, l4, d4, e4, p4, q4, rfl, rfl, rfl, h4, hr4⟩ := trodAll_more hr3
  obtain ⟨rfl, rfl, rfl⟩ := trodAll_end hr4
  obtain ⟨x0, rfl, w0⟩ := par_at (hval 0 33 v0 rfl rfl) h0
  obtain ⟨_, k1⟩ := one_of Tryd.underlying34 (hval 1 34 v1 rfl rfl) h1
  obtain ⟨A1, x1, c1, rfl, a1, b1, f1, g1⟩ := asks_at k1
  obtain ⟨_, k2⟩ := one_of Tryd.underlying34 (hval 2 34 v2 rfl rfl) h2
  obtain ⟨A2, x2, c2, rfl, a2, b2, f2, g2⟩ := asks_at k2
  obtain ⟨x3, rfl, _, _, w3⟩ := open_int Tryd.underlying3 (hval 3 3 v3 rfl rfl) h3
  obtain ⟨_, k4⟩ := one_of Tryd.underlying39 (hval 4 39 v4 rfl rfl) h4
  obtain ⟨A4, x4, c4, rfl, a4, b4, f4⟩ := ints_at k4
  refine (admitTells_c x0 w0 A1 x1 c1 A2 x2 c2 x3 A4 x4 c4 W a1 b1 f1 g1 a2 b2 f2 g2 (i64_of w3) a4 b4 f4 (tabs_of_laid hL)).mono fun e W' ⟨he, hb⟩ => ?_
  subst he
  exact ⟨_, rfl, post_true hW' hb Tryd.laidOut (by kernel_rfl) rfl rfl rfl rfl rfl Tryd.underlying4⟩

set_option maxRecDepth 100000 in
theorem admitTells_closed : joinedFacts Tryd.pinned.checked.prog 7 Tryd.f7 Rows.admitTellsSpec Rows.admitTellsRow = true := by
  unfold joinedFacts
  rw [show Tryd.pinned.checked.prog.mayEnter = true from seat_mayEnter, show Tryd.pinned.checked.prog.liftsFinal = false from seat_lifts]
  kernel_rfl
theorem admitTells_holds : Rows.AdmitTellsSaid :=
  OpenClaim.holds_of_wide 7 Tryd.f7 rfl rfl rfl rfl rfl rfl rfl ⟨rfl, rfl, rfl, rfl, rfl⟩ rfl rfl rfl rfl rfl (by kernel_rfl) Tryd.func7 admitTells_closed
    (of_decide_eq_true (by kernel_rfl)) (by unfold Func.isWrapper; first | (rw [if_pos (by decide +kernel)]; kernel_rfl) | (rw [if_neg (by decide +kernel)]; exact ⟨rfl, rfl⟩))
    (fun os started H enc _ => admitTells_lifted os started H enc)
theorem admitTells_card_holds : Rows.AdmitTellsCardSaid :=
  Claim7.holds_tied_plain_at .later [] [.data, .data] true (true, "da6d4decbc9d0acaf6e32e2e04fae10cd6ebdb1f58acffaeddeac9726658d4f3") false
    admitTells_holds (fun _ h => by cases h) (by kernel_rfl) (fun _ h => by cases h) admitTells_row_tie rfl ⟨rfl, rfl⟩ seat_mainIs rfl
    (fun f fn hf hfn => by
      obtain rfl : f = 7 := Option.some.inj ((show Tryd.prog.funcNamed "consistory/consistorylaw21.AdmitTells" = some 7 by kernel_rfl).symm.trans hf) |>.symm
      obtain rfl : fn = Tryd.f7 := (Option.some.inj (Tryd.func7.symm.trans hfn)).symm
      refine ⟨by kernel_rfl, fun j t ht => ?_⟩
      have hall : Tryd.f7.params.all (fun t => Tryd.prog.wantsStandIn t == false) = true := by kernel_rfl
      have hm := Array.all_eq_true.1 hall
      obtain ⟨hj, rfl⟩ := Array.getElem?_eq_some_iff.1 ht
      exact eq_of_beq (hm j hj))
    (by kernel_rfl)
#print axioms admitTells_card_holds

end Go.Proofs.YtlbhmoiicbhgkaaDoor
