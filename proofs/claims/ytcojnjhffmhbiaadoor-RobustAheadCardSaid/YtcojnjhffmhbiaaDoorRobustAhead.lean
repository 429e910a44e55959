/-
  PROVED HERE: RobustAhead's row, and its card.
-/
import Derived.Test.YtcojnjhffmhbiaaDoorRobQ1
import Derived.Test.YtcojnjhffmhbiaaDoorRobQ2
import Derived.Test.YtcojnjhffmhbiaaDoorRobQ3
import Derived.Test.YtcojnjhffmhbiaaDoorRobQ4
import Derived.Test.YtcojnjhffmhbiaaDoorRobQ5
import Derived.Test.YtcojnjhffmhbiaaDoorRobQ6
import Derived.Test.YtcojnjhffmhbiaaDoorRobQ7
import Derived.Test.YtcojnjhffmhbiaaDoorRobQ8
import Derived.Test.YtcojnjhffmhbiaaDoorRobQ9
import Derived.Test.YtcojnjhffmhbiaaDoorRobQ10
import Derived.Test.YtcojnjhffmhbiaaDoorRobQ11
import Derived.Test.YtcojnjhffmhbiaaDoorRoZ
import Derived.Test.YtcojnjhffmhbiaaDoorPsN
import Derived.Test.YtcojnjhffmhbiaaDoorSeat
namespace Go.Proofs.YtcojnjhffmhbiaaDoor
open Go Go.ChangeShapes Go.WideShapes Go.ChangeAt Go.RowKit

theorem u8_ofA {x : Int} (h : (Lit.int .u8 x).wf = true) : 0 ≤ x ∧ x < 256 := by
  simp [Lit.wf, IntKind.min, IntKind.max, IntKind.signed, IntKind.bits] at h
  omega
set_option maxRecDepth 100000 in
theorem robustAhead_lifted (os : Os) (started : os.Started) (H : Type) (enc : TypeId × Value → H) :
    ReturnsInHanded {} Tryd.checked os 15 .any (fun w args => (Rows.robustAheadSpec.pre enc Tryd.prog Tryd.f15 [] false w args ∧ laidMetH Tryd.prog laidB w) ∧ sizedMet enc Tryd.prog Tryd.f15 (OpenSpec.ofChange Rows.robustAheadSpec) false w args)
      (Rows.robustAheadSpec.post enc Tryd.prog Tryd.f15 false true false false) := by
  haveI : DecidableEq Lit := fun a b => Classical.propDecidable (a = b)
  refine returnsInHanded_of_change_and (C := Tryd.checked) (X := fun w _ => laidMetH Tryd.prog laidB w) (fun _ _ _ hh h => h.of_heap hh) own_knob started (by kernel_rfl) Tryd.func15
    (ChangeSpec.witness_shaped (enc := enc) (C := Tryd.checked) (os := os) (X := fun w _ => laidMetH Tryd.prog laidB w) false (World.doorLaid Tryd.prog 400 os) #[.slice none 0 0, .slice none 0 0, .int .u8 0, .int .u64 0, .slice none 0 0, .slice none 0 0] 8 rfl (World.shaped_of_RefB (by kernel_rfl) (by kernel_rfl)) (by kernel_rfl) (by kernel_rfl) (by kernel_rfl) (door_met os _)) ?_
  intro W base args ds gs before hval0 hW hcnd hsz0 hL _
  have hval : ∀ (j : Nat) t v, Tryd.f15.params[j]? = some t → args[j]? = some v → Value.okWide Tryd.prog W .any base t v := hval0
  have hW' := hW
  obtain ⟨p, q, hA0, hV, rfl, hfz, hnd⟩ := hW
  have hA : DataW.TrodAll enc Tryd.prog W 0 (fun _ => true) true Tryd.f15.params.toList args.toList ds p := hA0
  rw [Tryd.params15] at hA hval
  obtain ⟨rfl, rfl⟩ := trodVars_none hV
  clear hA0 hval0
  obtain ⟨l⟩ := args
  obtain ⟨v0, l0, d0, e0, p0, q0, rfl, rfl, rfl, h0, hr0⟩ := trodAll_more hA
  obtain ⟨v1, l1, d1, e1, p1, q1, rfl, rfl, rfl, h1, hr1⟩ := trodAll_more hr0
  obtain ⟨v2, l2, d2, e2, p2, q2, rfl, rfl, rfl, h2, hr2⟩ := trodAll_more hr1
  obtain ⟨v3, l3, d3, e3, p3, q3, rfl, rfl, rfl, h3, hr3⟩ := trodAll_more hr2
  obtain ⟨v4, l4, d4, e4, p4, q4, rfl, rfl, rfl, h4, hr4⟩ := trodAll_more hr3
  obtain ⟨v5, l5, d5, e5, p5, q5, rfl, rfl, rfl, h5, hr5⟩ := trodAll_more hr4
  obtain ⟨rfl, rfl, rfl⟩ := trodAll_end hr5
  obtain ⟨_, k0⟩ := one_of Tryd.underlying23 (hval 0 23 v0 rfl rfl) h0
  obtain ⟨A0, x0, c0, rfl, a0, b0, f0⟩ := words_at k0
  obtain ⟨_, k1⟩ := one_of Tryd.underlying23 (hval 1 23 v1 rfl rfl) h1
  obtain ⟨A1, x1, c1, rfl, a1, b1, f1⟩ := words_at k1
  obtain ⟨x2, rfl, _, _, w2⟩ := open_int Tryd.underlying5 (hval 2 5 v2 rfl rfl) h2
  obtain ⟨x3, rfl, _, _, w3⟩ := open_int Tryd.underlying24 (hval 3 24 v3 rfl rfl) h3
  obtain ⟨_, k4⟩ := one_of Tryd.underlying23 (hval 4 23 v4 rfl rfl) h4
  obtain ⟨A4, x4, c4, rfl, a4, b4, f4⟩ := words_at k4
  obtain ⟨_, k5⟩ := one_of Tryd.underlying83 (hval 5 83 v5 rfl rfl) h5
  obtain ⟨A5, x5, c5, rfl, a5, b5, f5⟩ := nums_at Tryd.underlying83 Tryd.underlying5 (by kernel_rfl) k5
  refine (robustAhead_c A0 A1 x0 x1 c0 c1 x2 x3 A4 x4 c4 A5 x5 c5 W a0 a1 b0 b1 f0 f1 (u8_ofA w2) (u64_of w3) a4 b4 f4 a5 b5 (fun z hz => u8_ofA (f5 z hz)) (tabs_of_laid hL) (fun _ h => prime_pr h)).mono fun e W' ⟨he, hb⟩ => ?_
  subst he
  exact ⟨_, rfl, post_true hW' hb Tryd.laidOut (by kernel_rfl) rfl rfl rfl rfl rfl Tryd.underlying4⟩

set_option maxRecDepth 100000 in
theorem robustAhead_closed : joinedFacts Tryd.pinned.checked.prog 15 Tryd.f15 Rows.robustAheadSpec Rows.robustAheadRow = true := by
  unfold joinedFacts
  rw [show Tryd.pinned.checked.prog.mayEnter = true from seat_mayEnter, show Tryd.pinned.checked.prog.liftsFinal = false from seat_lifts]
  kernel_rfl
theorem robustAhead_holds : Rows.RobustAheadSaid :=
  OpenClaim.holds_of_wide 15 Tryd.f15 rfl rfl rfl rfl rfl rfl rfl ⟨rfl, rfl, rfl, rfl, rfl⟩ rfl rfl rfl rfl rfl (by kernel_rfl) Tryd.func15 robustAhead_closed
    (of_decide_eq_true (by kernel_rfl)) (by unfold Func.isWrapper; first | (rw [if_pos (by decide +kernel)]; kernel_rfl) | (rw [if_neg (by decide +kernel)]; exact ⟨rfl, rfl⟩))
    (fun os started H enc _ => robustAhead_lifted os started H enc)
theorem robustAhead_card_holds : Rows.RobustAheadCardSaid :=
  Claim7.holds_tied_plain_at .later [] [.data, .data] true (true, "f020eeb781593d56daa69a7cc06e1420dedbbf0f68a61d84e8d3556648cc65e3") false
    robustAhead_holds (fun _ h => by cases h) (by kernel_rfl) (fun _ h => by cases h) robustAhead_row_tie rfl ⟨rfl, rfl⟩ seat_mainIs rfl
    (fun f fn hf hfn => by
      obtain rfl : f = 15 := Option.some.inj ((show Tryd.prog.funcNamed "consistory/consistorylaw05.RobustAhead" = some 15 by kernel_rfl).symm.trans hf) |>.symm
      obtain rfl : fn = Tryd.f15 := (Option.some.inj (Tryd.func15.symm.trans hfn)).symm
      refine ⟨by kernel_rfl, fun j t ht => ?_⟩
      have hall : Tryd.f15.params.all (fun t => Tryd.prog.wantsStandIn t == false) = true := by kernel_rfl
      have hm := Array.all_eq_true.1 hall
      obtain ⟨hj, rfl⟩ := Array.getElem?_eq_some_iff.1 ht
      exact eq_of_beq (hm j hj))
    (by kernel_rfl)
#print axioms robustAhead_card_holds

end Go.Proofs.YtcojnjhffmhbiaaDoor
