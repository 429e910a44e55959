/-
  Operations in a round of a range over a function: what is shown of them at large holds there. (No program in sight.)
-/
import Derived.Test.YtgdfphcggjclkaaDoorRegionB
import Derived.Test.YtgdfphcggjclkaaDoorRangeT
import Derived.OrdersIn
namespace Go.Rgb
open Go.RowKit

section
variable {P : Program} {l m : Nat} {ops : Array Oper} {Q : Exit → Act → World → Prop}

theorem calls_in_round {f : FuncId} {args : Array Value} {w : World} {R : Ending → World → Prop} (h : Calls P f args w R) : CallsIn (Fence.wide.inRound l) m P f args w R := CallsIn.inRound l (callsIn_wide.2 h)

theorem oper_in_round {o : Oper} {a : Act} {w : World} {K : Act → World → Prop} (hd : ∀ c, o.op ≠ .defer c) (h : o.wp P a w K Q) : o.wpIn (Fence.wide.inRound l) m P a w K Q := by
  refine ⟨fun _ _ => trivial, ?_⟩
  unfold Oper.wp at h
  rw [show (Fence.wide.inRound l).round = some l from rfl, Oper.semAt_some l a.eval o hd]
  generalize (execOp a.eval o).run P w = r at h ⊢
  cases r with
  | halt x w' => cases x <;> first | exact h | exact h.elim
  | ok n w' =>
    cases n
    case value v => exact h
    case skip => exact h
    case defer d => exact h
    case row row args =>
      refine ⟨(fun hh => by cases hh), fun c cs _ => ?_⟩
      obtain ⟨v, w'', hR, hs⟩ := h c cs
      exact ⟨v, w'', hR, stepsIn_wide.2 hs⟩
    case enter fn args => exact ⟨(fun hh => by cases hh), calls_in_round h⟩
    all_goals exact h.elim

/-- no deferred call among them. -/
def calm (l : List Oper) : Bool := l.all fun o => match o.op with | .defer _ => false | _ => true
theorem calm_spec {l : List Oper} (h : calm l = true) {o : Oper} (ho : o ∈ l) : ∀ c, o.op ≠ .defer c := by
  intro c hc
  have := List.all_eq_true.1 h o ho
  rw [hc] at this
  cases this

theorem list_in_round (hQ : ¬ LetsOut Q) : ∀ (L : List Oper) (a : Act) (w : World), calm L = true → wpList P ops Q L a w → wpListIn (Fence.wide.inRound l) m P ops Q L a w
  | [], _, _, _, h => h
  | o :: L, a, w, hc, h => by
    have hcl : calm L = true := by simp only [calm, List.all_cons, Bool.and_eq_true] at hc; exact hc.2
    have hd := calm_spec hc (List.mem_cons_self ..)
    unfold wpList at h
    unfold wpListIn
    by_cases hw : Region.wanted o (yielded ops a.tmps) = true
    · rw [if_pos hw] at h ⊢
      rcases h with h | ⟨_, h⟩
      · exact Oper.wpIn_mono (fun a w h => list_in_round hQ L a w hcl h) (oper_in_round hd h)
      · exact absurd h hQ
    · rw [if_neg hw] at h ⊢
      exact ⟨fun _ _ => trivial, list_in_round hQ L _ _ hcl h⟩

theorem any_in_round (hQ : ¬ LetsOut Q) {md : Region.Mode} (hc : calm ops.toList = true) : ∀ (fuel : Nat) (listed : Array Bool) (a : Act) (w : World), wpAny P md ops Q fuel listed a w → wpAnyIn (Fence.wide.inRound l) m P md ops Q fuel listed a w
  | 0, _, _, _, h => h
  | fuel + 1, listed, a, w, h => by
    refine ⟨h.1, fun i hi => ?_⟩
    have h1 := h.2 i hi
    unfold wpOp at h1
    unfold wpOpIn
    cases ho : ops[i]? with
    | none =>
      rw [ho] at h1
      exact any_in_round hQ hc fuel _ a w h1
    | some o =>
      rw [ho] at h1
      simp only at h1 ⊢
      have hd := calm_spec hc (Array.mem_toList_iff.2 (Array.mem_of_getElem? ho))
      by_cases hw : Region.wanted o (yielded ops a.tmps) = true
      · rw [if_pos hw] at h1 ⊢
        rcases h1 with h1 | ⟨_, h1⟩
        · exact Oper.wpIn_mono (fun a w h => any_in_round hQ hc fuel _ a w h) (oper_in_round hd h1)
        · exact absurd h1 hQ
      · rw [if_neg hw] at h1 ⊢
        exact ⟨fun _ _ => trivial, any_in_round hQ hc fuel _ _ w h1⟩

/-- **THE LAW OF DRAWN REGIONS**, in a round. -/
theorem round_region {id : Nat} {Q' : Exit → Act → World → Prop} (hQ : ¬ LetsOut Q') {L tail : List Oper} {a : Act} {w : World} (Y : Way) (ds : List (Option Tmp)) (size : Nat) (hm : P.follows .mixedOrders = true) (hcalm : calm (L ++ tail) = true) (hs : sane (L ++ tail).toArray ds size L.length = true) (hc : closes (L ++ tail).toArray L.length = true) (hz : a.tmps.size = size)
    (HY : Y.Fair) (hB : Y.B w.drew) (hB1 : Y.B1 w.drew) (h : walk P Y ds a (fun a w => wpList P #[] Q' (tail.map fun o => { o with guard := none }) a w) L []) : (Code.region id (L ++ tail).toArray true).wpIn (Fence.wide.inRound l) m P Q' a w :=
  wpIn_region_any hm (any_in_round hQ hcalm _ _ _ _ (any_region Y ds size hs hc hz HY hB hB1 h))
/-- a region that does not draw, in a round. -/
theorem round_list {id : Nat} {Q' : Exit → Act → World → Prop} (hQ : ¬ LetsOut Q') {L : List Oper} {a : Act} {w : World} (hcalm : calm L = true) (h : wpList P L.toArray Q' L a w) : (Code.region id L.toArray false).wpIn (Fence.wide.inRound l) m P Q' a w :=
  wpIn_region_lit (list_in_round hQ L a w hcalm h)
end

end Go.Rgb
