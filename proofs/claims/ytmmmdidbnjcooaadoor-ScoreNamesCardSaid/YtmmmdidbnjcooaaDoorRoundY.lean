/-
  Drawn regions that hold a yield, in a round. (No program in sight.)
-/
import Derived.Test.YtmmmdidbnjcooaaDoorRoundT
import Derived.Test.YtmmmdidbnjcooaaDoorYield
namespace Go.Rgb

section
variable {P : Program} {l m : Nat} {ops : Array Oper} {Q : Exit → Act → World → Prop}

theorem operIn_in_round {o : Oper} {a : Act} {w : World} {K K' : Act → World → Prop} (hK : ∀ a w, K a w → K' a w) (hd : ∀ c, o.op ≠ .defer c) (h : o.wpIn Fence.wide m P a w K Q) : o.wpIn (Fence.wide.inRound l) m P a w K' Q := by
  refine Oper.wpIn_mono hK ⟨fun _ _ => trivial, ?_⟩
  have h2 := h.2
  rw [show Fence.wide.round = none from rfl, Oper.semAt_none] at h2
  rw [show (Fence.wide.inRound l).round = some l from rfl, Oper.semAt_some l a.eval o hd]
  generalize (execOp a.eval o).run P w = r at h2 ⊢
  cases r with
  | halt x w' => cases x <;> exact h2
  | ok n w' => cases n <;> exact h2
theorem listIn_in_round : ∀ (L : List Oper) (a : Act) (w : World), calm L = true → wpListIn Fence.wide m P ops Q L a w → wpListIn (Fence.wide.inRound l) m P ops Q L a w
  | [], _, _, _, h => h
  | o :: L, a, w, hc, h => by
    have hcl : calm L = true := by simp only [calm, List.all_cons, Bool.and_eq_true] at hc; exact hc.2
    have hd := calm_spec hc (List.mem_cons_self ..)
    unfold wpListIn at h ⊢
    by_cases hw : Region.wanted o (yielded ops a.tmps) = true
    · rw [if_pos hw] at h ⊢
      exact operIn_in_round (fun a w h => listIn_in_round L a w hcl h) hd h
    · rw [if_neg hw] at h ⊢
      exact ⟨h.1, listIn_in_round L _ _ hcl h.2⟩
theorem anyIn_in_round {md : Region.Mode} (hc : calm ops.toList = true) : ∀ (fuel : Nat) (listed : Array Bool) (a : Act) (w : World), wpAnyIn Fence.wide m P md ops Q fuel listed a w → wpAnyIn (Fence.wide.inRound l) m P md ops Q fuel listed a w
  | 0, _, _, _, h => h
  | fuel + 1, listed, a, w, h => by
    refine ⟨h.1, fun i hi => ?_⟩
    have h1 := h.2 i hi
    unfold wpOpIn at h1 ⊢
    cases ho : ops[i]? with
    | none =>
      rw [ho] at h1
      exact anyIn_in_round hc fuel _ a w h1
    | some o =>
      rw [ho] at h1
      simp only at h1 ⊢
      have hd := calm_spec hc (Array.mem_toList_iff.2 (Array.mem_of_getElem? ho))
      by_cases hw : Region.wanted o (yielded ops a.tmps) = true
      · rw [if_pos hw] at h1 ⊢
        exact operIn_in_round (fun a w h => anyIn_in_round hc fuel _ a w h) hd h1
      · rw [if_neg hw] at h1 ⊢
        exact ⟨h1.1, anyIn_in_round hc fuel _ _ w h1.2⟩
/-- the law of drawn regions that hold a yield, in a round: the tail is walked as outside of it. -/
theorem round_regionY {id : Nat} {Q' : Exit → Act → World → Prop} {L tail : List Oper} {ops : Array Oper} {a : Act} {w : World} (Y : Way) (ds : List (Option Tmp)) (size : Nat) (ho : ops = (L ++ tail).toArray) (hm : P.follows .mixedOrders = true) (hcalm : calm (L ++ tail) = true) (hs : sane ops ds size L.length = true) (hc : closesY ops L.length = true) (hz : a.tmps.size = size)
    (HY : Y.Fair) (hB : Y.B w.drew) (hB1 : Y.B1 w.drew) (h : ∀ Q : Act → World → Prop, (∀ a w, wpListIn Fence.wide m P ops Q' tail a w → Q a w) → walk P Y ds a Q L []) : (Code.region id ops true).wpIn (Fence.wide.inRound l) m P Q' a w := by
  subst ho
  exact wpIn_region_any hm (anyIn_in_round (by simpa using hcalm) _ _ _ _ (any_regionY Y ds size hs hc hz HY hB hB1 (h _ fun _ _ h => h)))
end
end Go.Rgb
