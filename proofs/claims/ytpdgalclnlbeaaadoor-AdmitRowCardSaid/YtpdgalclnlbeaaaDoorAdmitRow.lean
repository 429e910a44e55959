/-
  PROVED HERE: AdmitRow's row, and its card.
-/
import Derived.Test.YtpdgalclnlbeaaaDoorAdmQ1
import Derived.Test.YtpdgalclnlbeaaaDoorAdmQ2
import Derived.Test.YtpdgalclnlbeaaaDoorAdmQ3
import Derived.Test.YtpdgalclnlbeaaaDoorAdmQ4
import Derived.Test.YtpdgalclnlbeaaaDoorAdmQ5
import Derived.Test.YtpdgalclnlbeaaaDoorAdmQ6
import Derived.Test.YtpdgalclnlbeaaaDoorAdmQ7
import Derived.Test.YtpdgalclnlbeaaaDoorAdmQ8
import Derived.Test.YtpdgalclnlbeaaaDoorAsI
import Derived.Test.YtpdgalclnlbeaaaDoorPsN
import Derived.Test.YtpdgalclnlbeaaaDoorSeat
namespace Go.Proofs.YtpdgalclnlbeaaaDoor
open Go Go.ChangeShapes Go.WideShapes Go.ChangeAt Go.RowKit

set_option maxRecDepth 100000 in
theorem admitRow_lifted (os : Os) (started : os.Started) (H : Type) (enc : TypeId × Value → H) :
    ReturnsInHanded {} Tryd.checked os 3 .any (fun w args => (Rows.admitRowSpec.pre enc Tryd.prog Tryd.f3 [] false w args ∧ laidMetH Tryd.prog laidB w) ∧ sizedMet enc Tryd.prog Tryd.f3 (OpenSpec.ofChange Rows.admitRowSpec) false w args)
      (Rows.admitRowSpec.post enc Tryd.prog Tryd.f3 false true false false) := by
  haveI : DecidableEq Lit := fun a b => Classical.propDecidable (a = b)
  refine returnsInHanded_of_change_and (C := Tryd.checked) (X := fun w _ => laidMetH Tryd.prog laidB w) (fun _ _ _ hh h => h.of_heap hh) own_knob started (by kernel_rfl) Tryd.func3
    (ChangeSpec.witness_shaped (enc := enc) (C := Tryd.checked) (os := os) (X := fun w _ => laidMetH Tryd.prog laidB w) false (World.doorLaid Tryd.prog 400 os) #[(pval ⟨0, 0, 0, 0, 0, 0, 0, 0, 0, 0, 0, 0⟩), .slice none 0 0, .int .i64 0] 8 rfl (World.shaped_of_RefB (by kernel_rfl) (by kernel_rfl)) (by kernel_rfl) (by kernel_rfl) (by kernel_rfl) (door_met os _)) ?_
  intro W base args ds gs before hval0 hW hcnd hsz0 hL _
  have hval : ∀ (j : Nat) t v, Tryd.f3.params[j]? = some t → args[j]? = some v → Value.okWide Tryd.prog W .any base t v := hval0
  have hW' := hW
  obtain ⟨p, q, hA0, hV, rfl, hfz, hnd⟩ := hW
  have hA : DataW.TrodAll enc Tryd.prog W 0 (fun _ => true) true Tryd.f3.params.toList args.toList ds p := hA0
  rw [Tryd.params3] at hA hval
  obtain ⟨rfl, rfl⟩ := trodVars_none hV
  clear hA0 hval0
  obtain ⟨l⟩ := args
  obtain ⟨v0, l0, d0, e0, p0, q0, rfl, rfl, rfl, h0, hr0⟩ := trodAll_more hA
  obtain ⟨v1, l1, d1, e1, p1, q1, rfl, rfl, rfl, h1, hr1⟩ := trodAll_more hr0
  obtain ⟨v2, l2, d2, e2, p2, q2, rfl, rfl, rfl, h2, hr2⟩ := trodAll_more hr1
  obtain ⟨rfl, rfl, rfl⟩ := trodAll_end hr2
  obtain ⟨x0, rfl, w0⟩ := par_at (hval 0 24 v0 rfl rfl) h0
  obtain ⟨_, k1⟩ := one_of Tryd.underlying25 (hval 1 25 v1 rfl rfl) h1
  obtain ⟨A1, x1, c1, rfl, a1, b1, f1, g1⟩ := asks_at k1
  obtain ⟨x2, rfl, _, _, w2⟩ := open_int Tryd.underlying3 (hval 2 3 v2 rfl rfl) h2
  refine (admitRow_c x0 w0 A1 x1 c1 x2 W a1 b1 f1 g1 (i64_of w2) (tabs_of_laid hL) (fun _ h => prime_pr h)).mono fun e W' ⟨he, hb⟩ => ?_
  subst he
  exact ⟨_, rfl, post_true hW' hb Tryd.laidOut (by kernel_rfl) rfl rfl rfl rfl rfl Tryd.underlying4⟩

set_option maxRecDepth 100000 in
theorem admitRow_closed : joinedFacts Tryd.pinned.checked.prog 3 Tryd.f3 Rows.admitRowSpec Rows.admitRowRow = true := by
  unfold joinedFacts
  rw [show Tryd.pinned.checked.prog.mayEnter = true from seat_mayEnter, show Tryd.pinned.checked.prog.liftsFinal = false from seat_lifts]
  kernel_rfl
theorem admitRow_holds : Rows.AdmitRowSaid :=
  OpenClaim.holds_of_wide 3 Tryd.f3 rfl rfl rfl rfl rfl rfl rfl ⟨rfl, rfl, rfl, rfl, rfl⟩ rfl rfl rfl rfl rfl (by kernel_rfl) Tryd.func3 admitRow_closed
    (of_decide_eq_true (by kernel_rfl)) (by unfold Func.isWrapper; first | (rw [if_pos (by decide +kernel)]; kernel_rfl) | (rw [if_neg (by decide +kernel)]; exact ⟨rfl, rfl⟩))
    (fun os started H enc _ => admitRow_lifted os started H enc)
theorem admitRow_card_holds : Rows.AdmitRowCardSaid :=
  Claim7.holds_tied_plain_at .later [] [.data, .data] true (true, "1e865e27d4a8538ef68c097958d6303b7cc63439efa1f86c2ace13c4d93e00a5") false
    admitRow_holds (fun _ h => by cases h) (by kernel_rfl) (fun _ h => by cases h) admitRow_row_tie rfl ⟨rfl, rfl⟩ seat_mainIs rfl
    (fun f fn hf hfn => by
      obtain rfl : f = 3 := Option.some.inj ((show Tryd.prog.funcNamed "consistory/consistorylaw21.AdmitRow" = some 3 by kernel_rfl).symm.trans hf) |>.symm
      obtain rfl : fn = Tryd.f3 := (Option.some.inj (Tryd.func3.symm.trans hfn)).symm
      refine ⟨by kernel_rfl, fun j t ht => ?_⟩
      have hall : Tryd.f3.params.all (fun t => Tryd.prog.wantsStandIn t == false) = true := by kernel_rfl
      have hm := Array.all_eq_true.1 hall
      obtain ⟨hj, rfl⟩ := Array.getElem?_eq_some_iff.1 ht
      exact eq_of_beq (hm j hj))
    (by kernel_rfl)
#print axioms admitRow_card_holds

end Go.Proofs.YtpdgalclnlbeaaaDoor
