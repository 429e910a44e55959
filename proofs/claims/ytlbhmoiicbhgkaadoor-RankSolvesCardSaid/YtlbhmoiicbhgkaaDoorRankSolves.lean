/-
  PROVED HERE: RankSolves's row, and its card.
-/
import Derived.Test.YtlbhmoiicbhgkaaDoorRnkQ1
import Derived.Test.YtlbhmoiicbhgkaaDoorRnkQ2
import Derived.Test.YtlbhmoiicbhgkaaDoorRnkQ3
import Derived.Test.YtlbhmoiicbhgkaaDoorRnkQ4
import Derived.Test.YtlbhmoiicbhgkaaDoorRnkQ5
import Derived.Test.YtlbhmoiicbhgkaaDoorRnkQ6
import Derived.Test.YtlbhmoiicbhgkaaDoorRnkQ7
import Derived.Test.YtlbhmoiicbhgkaaDoorRnkQ8
import Derived.Test.YtlbhmoiicbhgkaaDoorRkS
import Derived.Test.YtlbhmoiicbhgkaaDoorPsN
import Derived.Test.YtlbhmoiicbhgkaaDoorSeat
namespace Go.Proofs.YtlbhmoiicbhgkaaDoor
open Go Go.ChangeShapes Go.WideShapes Go.ChangeAt Go.RowKit

set_option maxRecDepth 100000 in
theorem rankSolves_lifted (os : Os) (started : os.Started) (H : Type) (enc : TypeId × Value → H) :
    ReturnsInHanded {} Tryd.checked os 4 .any (fun w args => (Rows.rankSolvesSpec.pre enc Tryd.prog Tryd.f4 [] false w args ∧ laidMetH Tryd.prog laidB w) ∧ sizedMet enc Tryd.prog Tryd.f4 (OpenSpec.ofChange Rows.rankSolvesSpec) false w args)
      (Rows.rankSolvesSpec.post enc Tryd.prog Tryd.f4 false true false false) := by
  haveI : DecidableEq Lit := fun a b => Classical.propDecidable (a = b)
  refine returnsInHanded_of_change_and (C := Tryd.checked) (X := fun w _ => laidMetH Tryd.prog laidB w) (fun _ _ _ hh h => h.of_heap hh) own_knob started (by kernel_rfl) Tryd.func4
    (ChangeSpec.witness_shaped (enc := enc) (C := Tryd.checked) (os := os) (X := fun w _ => laidMetH Tryd.prog laidB w) false (World.doorLaid Tryd.prog 400 os) #[.slice none 0 0, .slice none 0 0, .int .u64 0] 8 rfl (World.shaped_of_RefB (by kernel_rfl) (by kernel_rfl)) (by kernel_rfl) (by kernel_rfl) (by kernel_rfl) (door_met os _)) ?_
  intro W base args ds gs before hval0 hW hcnd hsz0 hL _
  have hval : ∀ (j : Nat) t v, Tryd.f4.params[j]? = some t → args[j]? = some v → Value.okWide Tryd.prog W .any base t v := hval0
  have hW' := hW
  obtain ⟨p, q, hA0, hV, rfl, hfz, hnd⟩ := hW
  have hA : DataW.TrodAll enc Tryd.prog W 0 (fun _ => true) true Tryd.f4.params.toList args.toList ds p := hA0
  rw [Tryd.params4] at hA hval
  obtain ⟨rfl, rfl⟩ := trodVars_none hV
  clear hA0 hval0
  obtain ⟨l⟩ := args
  obtain ⟨v0, l0, d0, e0, p0, q0, rfl, rfl, rfl, h0, hr0⟩ := trodAll_more hA
  obtain ⟨v1, l1, d1, e1, p1, q1, rfl, rfl, rfl, h1, hr1⟩ := trodAll_more hr0
  obtain ⟨v2, l2, d2, e2, p2, q2, rfl, rfl, rfl, h2, hr2⟩ := trodAll_more hr1
  obtain ⟨rfl, rfl, rfl⟩ := trodAll_end hr2
  obtain ⟨_, k0⟩ := one_ofR Tryd.underlying22 (hval 0 22 v0 rfl rfl) h0
  obtain ⟨A0, x0, c0, rfl, b0, w0, vs0, hc0, hvl0, hrow0⟩ := rows_at Tryd.underlying22 Tryd.underlying23 Tryd.underlying24 (by kernel_rfl) (by kernel_rfl) k0
  obtain ⟨_, k1⟩ := one_ofR Tryd.underlying23 (hval 1 23 v1 rfl rfl) h1
  obtain ⟨A1, x1, c1, rfl, a1, b1, w1⟩ := nums_at Tryd.underlying23 Tryd.underlying24 (by kernel_rfl) k1
  obtain ⟨x2, rfl, _, _, w2⟩ := open_int Tryd.underlying24 (hval 2 24 v2 rfl rfl) h2
  refine (rankSolves_c A0 x0 c0 A1 x1 c1 x2 W ⟨vs0, hc0, hvl0, hrow0⟩ b0 (fun l hl z hz => u64_of (w0 l hl z hz)) a1 b1 (fun z hz => u64_of (w1 z hz)) (u64_of w2) (tabs_of_laid hL)).mono fun e W' ⟨he, hb⟩ => ?_
  subst he
  exact ⟨_, rfl, post_true hW' hb Tryd.laidOut (by kernel_rfl) rfl rfl rfl rfl rfl Tryd.underlying4⟩

set_option maxRecDepth 100000 in
theorem rankSolves_closed : joinedFacts Tryd.pinned.checked.prog 4 Tryd.f4 Rows.rankSolvesSpec Rows.rankSolvesRow = true := by
  unfold joinedFacts
  rw [show Tryd.pinned.checked.prog.mayEnter = true from seat_mayEnter, show Tryd.pinned.checked.prog.liftsFinal = false from seat_lifts]
  kernel_rfl
theorem rankSolves_holds : Rows.RankSolvesSaid :=
  OpenClaim.holds_of_wide 4 Tryd.f4 rfl rfl rfl rfl rfl rfl rfl ⟨rfl, rfl, rfl, rfl, rfl⟩ rfl rfl rfl rfl rfl (by kernel_rfl) Tryd.func4 rankSolves_closed
    (of_decide_eq_true (by kernel_rfl)) (by unfold Func.isWrapper; first | (rw [if_pos (by decide +kernel)]; kernel_rfl) | (rw [if_neg (by decide +kernel)]; exact ⟨rfl, rfl⟩))
    (fun os started H enc _ => rankSolves_lifted os started H enc)
theorem rankSolves_card_holds : Rows.RankSolvesCardSaid :=
  Claim7.holds_tied_plain_at .later [] [.data, .data] true (true, "da6d4decbc9d0acaf6e32e2e04fae10cd6ebdb1f58acffaeddeac9726658d4f3") false
    rankSolves_holds (fun _ h => by cases h) (by kernel_rfl) (fun _ h => by cases h) rankSolves_row_tie rfl ⟨rfl, rfl⟩ seat_mainIs rfl
    (fun f fn hf hfn => by
      obtain rfl : f = 4 := Option.some.inj ((show Tryd.prog.funcNamed "consistory/consistorylaw04.RankSolves" = some 4 by kernel_rfl).symm.trans hf) |>.symm
      obtain rfl : fn = Tryd.f4 := (Option.some.inj (Tryd.func4.symm.trans hfn)).symm
      refine ⟨by kernel_rfl, fun j t ht => ?_⟩
      have hall : Tryd.f4.params.all (fun t => Tryd.prog.wantsStandIn t == false) = true := by kernel_rfl
      have hm := Array.all_eq_true.1 hall
      obtain ⟨hj, rfl⟩ := Array.getElem?_eq_some_iff.1 ht
      exact eq_of_beq (hm j hj))
    (by kernel_rfl)
#print axioms rankSolves_card_holds
end Go.Proofs.YtlbhmoiicbhgkaaDoor
