/-
  PROVED HERE: RankWays's row, and its card.
-/
import Derived.Test.YtcojnjhffmhbiaaDoorRnkQ1
import Derived.Test.YtcojnjhffmhbiaaDoorRnkQ2
import Derived.Test.YtcojnjhffmhbiaaDoorRnkQ3
import Derived.Test.YtcojnjhffmhbiaaDoorRnkQ4
import Derived.Test.YtcojnjhffmhbiaaDoorRnkQ5
import Derived.Test.YtcojnjhffmhbiaaDoorRnkQ6
import Derived.Test.YtcojnjhffmhbiaaDoorRnkQ7
import Derived.Test.YtcojnjhffmhbiaaDoorRaW
import Derived.Test.YtcojnjhffmhbiaaDoorPsN
import Derived.Test.YtcojnjhffmhbiaaDoorSeat
namespace Go.Proofs.YtcojnjhffmhbiaaDoor
open Go Go.ChangeShapes Go.WideShapes Go.ChangeAt Go.RowKit

theorem i64_ofR {x : Int} (h : (Lit.int .i64 x).wf = true) : I64 x := by
  simp [Lit.wf, IntKind.min, IntKind.max, IntKind.signed, IntKind.bits] at h
  exact ⟨by omega, by omega⟩
set_option maxRecDepth 100000 in
theorem rankWays_lifted (os : Os) (started : os.Started) (H : Type) (enc : TypeId × Value → H) :
    ReturnsInHanded {} Tryd.checked os 5 .any (fun w args => (Rows.rankWaysSpec.pre enc Tryd.prog Tryd.f5 [] false w args ∧ laidMetH Tryd.prog laidB w) ∧ sizedMet enc Tryd.prog Tryd.f5 (OpenSpec.ofChange Rows.rankWaysSpec) false w args)
      (Rows.rankWaysSpec.post enc Tryd.prog Tryd.f5 false true false false) := by
  haveI : DecidableEq Lit := fun a b => Classical.propDecidable (a = b)
  refine returnsInHanded_of_change_and (C := Tryd.checked) (X := fun w _ => laidMetH Tryd.prog laidB w) (fun _ _ _ hh h => h.of_heap hh) own_knob started (by kernel_rfl) Tryd.func5
    (ChangeSpec.witness_shaped (enc := enc) (C := Tryd.checked) (os := os) (X := fun w _ => laidMetH Tryd.prog laidB w) false (World.doorLaid Tryd.prog 400 os) #[.slice none 0 0, .int .i64 0, .int .i64 0, .int .u64 0, .int .u64 0] 8 rfl (World.shaped_of_RefB (by kernel_rfl) (by kernel_rfl)) (by kernel_rfl) (by kernel_rfl) (by kernel_rfl) (door_met os _)) ?_
  intro W base args ds gs before hval0 hW hcnd hsz0 hL _
  have hval : ∀ (j : Nat) t v, Tryd.f5.params[j]? = some t → args[j]? = some v → Value.okWide Tryd.prog W .any base t v := hval0
  have hW' := hW
  obtain ⟨p, q, hA0, hV, rfl, hfz, hnd⟩ := hW
  have hA : DataW.TrodAll enc Tryd.prog W 0 (fun _ => true) true Tryd.f5.params.toList args.toList ds p := hA0
  rw [Tryd.params5] at hA hval
  obtain ⟨rfl, rfl⟩ := trodVars_none hV
  clear hA0 hval0
  obtain ⟨l⟩ := args
  obtain ⟨v0, l0, d0, e0, p0, q0, rfl, rfl, rfl, h0, hr0⟩ := trodAll_more hA
  obtain ⟨v1, l1, d1, e1, p1, q1, rfl, rfl, rfl, h1, hr1⟩ := trodAll_more hr0
  obtain ⟨v2, l2, d2, e2, p2, q2, rfl, rfl, rfl, h2, hr2⟩ := trodAll_more hr1
  obtain ⟨v3, l3, d3, e3, p3, q3, rfl, rfl, rfl, h3, hr3⟩ := trodAll_more hr2
  obtain ⟨v4, l4, d4, e4, p4, q4, rfl, rfl, rfl, h4, hr4⟩ := trodAll_more hr3
  obtain ⟨rfl, rfl, rfl⟩ := trodAll_end hr4
  obtain ⟨_, k0⟩ := one_ofR Tryd.underlying22 (hval 0 22 v0 rfl rfl) h0
  obtain ⟨A0, x0, c0, rfl, b0, w0, vs0, hc0, hvl0, hrow0⟩ := rows_at Tryd.underlying22 Tryd.underlying23 Tryd.underlying24 (by kernel_rfl) (by kernel_rfl) k0
  obtain ⟨x1, rfl, _, _, w1⟩ := open_int Tryd.underlying3 (hval 1 3 v1 rfl rfl) h1
  obtain ⟨x2, rfl, _, _, w2⟩ := open_int Tryd.underlying3 (hval 2 3 v2 rfl rfl) h2
  obtain ⟨x3, rfl, _, _, w3⟩ := open_int Tryd.underlying24 (hval 3 24 v3 rfl rfl) h3
  obtain ⟨x4, rfl, _, _, w4⟩ := open_int Tryd.underlying24 (hval 4 24 v4 rfl rfl) h4
  refine (rankWays_c A0 x0 c0 x1 x2 x3 x4 W ⟨vs0, hc0, hvl0, hrow0⟩ b0 (fun l hl z hz => u64_of (w0 l hl z hz)) (i64_ofR w1) (i64_ofR w2) (u64_of w3) (u64_of w4) (tabs_of_laid hL) (fun h => prime_pr h)).mono fun e W' ⟨he, hb⟩ => ?_
  subst he
  exact ⟨_, rfl, post_true hW' hb Tryd.laidOut (by kernel_rfl) rfl rfl rfl rfl rfl Tryd.underlying4⟩

set_option maxRecDepth 100000 in
theorem rankWays_closed : joinedFacts Tryd.pinned.checked.prog 5 Tryd.f5 Rows.rankWaysSpec Rows.rankWaysRow = true := by
  unfold joinedFacts
  rw [show Tryd.pinned.checked.prog.mayEnter = true from seat_mayEnter, show Tryd.pinned.checked.prog.liftsFinal = false from seat_lifts]
  kernel_rfl
theorem rankWays_holds : Rows.RankWaysSaid :=
  OpenClaim.holds_of_wide 5 Tryd.f5 rfl rfl rfl rfl rfl rfl rfl ⟨rfl, rfl, rfl, rfl, rfl⟩ rfl rfl rfl rfl rfl (by kernel_rfl) Tryd.func5 rankWays_closed
    (of_decide_eq_true (by kernel_rfl)) (by unfold Func.isWrapper; first | (rw [if_pos (by decide +kernel)]; kernel_rfl) | (rw [if_neg (by decide +kernel)]; exact ⟨rfl, rfl⟩))
    (fun os started H enc _ => rankWays_lifted os started H enc)
theorem rankWays_card_holds : Rows.RankWaysCardSaid :=
  Claim7.holds_tied_plain_at .later [] [.data, .data] true (true, "f020eeb781593d56daa69a7cc06e1420dedbbf0f68a61d84e8d3556648cc65e3") false
    rankWays_holds (fun _ h => by cases h) (by kernel_rfl) (fun _ h => by cases h) rankWays_row_tie rfl ⟨rfl, rfl⟩ seat_mainIs rfl
    (fun f fn hf hfn => by
      obtain rfl : f = 5 := Option.some.inj ((show Tryd.prog.funcNamed "consistory/consistorylaw04.RankWays" = some 5 by kernel_rfl).symm.trans hf) |>.symm
      obtain rfl : fn = Tryd.f5 := (Option.some.inj (Tryd.func5.symm.trans hfn)).symm
      refine ⟨by kernel_rfl, fun j t ht => ?_⟩
      have hall : Tryd.f5.params.all (fun t => Tryd.prog.wantsStandIn t == false) = true := by kernel_rfl
      have hm := Array.all_eq_true.1 hall
      obtain ⟨hj, rfl⟩ := Array.getElem?_eq_some_iff.1 ht
      exact eq_of_beq (hm j hj))
    (by kernel_rfl)
#print axioms rankWays_card_holds
end Go.Proofs.YtcojnjhffmhbiaaDoor
