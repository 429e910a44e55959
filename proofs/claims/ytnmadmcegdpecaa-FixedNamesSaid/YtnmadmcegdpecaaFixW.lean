/-
  Are two models the same: the program's, the reference's.
-/
import Derived.Test.YtnmadmcegdpecaaFixV
namespace Go.Proofs.Ytnmadmcegdpecaa
open Go.RowKit

/-- the same models? -/
def sameB (W : List (List Int)) (b : List Int) (V : List (List Int)) (c : List Int) : Bool := decide (W = V) && decide (b = c)

/-- the first k rows are the same. -/
def SameRows (W V : List (List Int)) (k : Nat) : Prop := ∀ j, j < k → W[j]? = V[j]?
theorem SameRows.zero (W V : List (List Int)) : SameRows W V 0 := fun _ h => absurd h (by omega)
theorem SameRows.step {W V : List (List Int)} {k : Nat} {l m : List Int} (h : SameRows W V k) (h1 : W[k]? = some l) (h2 : V[k]? = some m) (he : l = m) : SameRows W V (k + 1) := by
  intro j hj
  rcases Nat.lt_or_ge j k with h3 | h3
  · exact h j h3
  · obtain rfl : j = k := by omega
    rw [h1, h2, he]
theorem SameRows.all {W V : List (List Int)} (h : SameRows W V W.length) (hl : W.length = V.length) : W = V := by
  apply List.ext_getElem?
  intro j
  rcases Nat.lt_or_ge j W.length with h1 | h1
  · exact h j h1
  · rw [List.getElem?_eq_none h1, List.getElem?_eq_none (by omega)]
theorem sameRows_no {W V : List (List Int)} {k : Nat} {l m : List Int} (h1 : W[k]? = some l) (h2 : V[k]? = some m) (he : l ≠ m) : W ≠ V := by
  rintro rfl
  rw [h1] at h2
  exact he (Option.some.inj h2)

theorem ints_b (A B : Option Addr) (la lb : List Int) (ca cb : Nat) (r : Bool) (hr : decide (la = lb) = r) (w : World) (hA : Cells w A (la.map (.int .i64))) (hB : Cells w B (lb.map (.int .i64))) (hl : la.length ≤ 9223372036854775807) (hl' : lb.length ≤ 9223372036854775807) :
    Calls Try.prog 41 #[.slice A la.length ca, .slice B lb.length cb] w fun e w' => e = .returned (.bool r) ∧ Dr w w' := by
  subst hr
  exact ints_c A B la lb ca cb w hA hB hl hl'

set_option maxRecDepth 100000 in
set_option maxHeartbeats 1000000 in
theorem rsame_c (A B A2 B2 : Option Addr) (W V : List (List Int)) (b b2 : List Int) (c d c2 d2 : Nat) (w : World) (hA : GridI w A W) (hB : Cells w B (b.map (.int .i64))) (hA2 : GridI w A2 V) (hB2 : Cells w B2 (b2.map (.int .i64)))
    (l1 : W.length ≤ 9223372036854775807) (l2 : b.length ≤ 9223372036854775807) (l3 : V.length ≤ 9223372036854775807) (l4 : b2.length ≤ 9223372036854775807) :
    Calls Try.prog 52 #[mval A W.length c B b.length d, mval A2 V.length c2 B2 b2.length d2] w fun e w' => e = .returned (.bool (sameB W b V b2)) ∧ Below w.heap.size w w' := by
  go_enter Try.func52, Try.ntmps52
  have hb2 := (below_alloc w (.cells #[.slice A W.length c, .slice B b.length d] 44)).alloc (by simp) (.cells #[.slice A2 V.length c2, .slice B2 b2.length d2] 44)
  have hM : Row1 ((w.alloc (.cells #[.slice A W.length c, .slice B b.length d] 44)).alloc (.cells #[.slice A2 V.length c2, .slice B2 b2.length d2] 44)) w.heap.size 44 [.slice A W.length c, .slice B b.length d] := (row1_new w [.slice A W.length c, .slice B b.length d] 44).alloc _
  have hO : Row1 ((w.alloc (.cells #[.slice A W.length c, .slice B b.length d] 44)).alloc (.cells #[.slice A2 V.length c2, .slice B2 b2.length d2] 44)) (w.heap.size + 1) 44 [.slice A2 V.length c2, .slice B2 b2.length d2] := by
    have := row1_new (w.alloc (.cells #[.slice A W.length c, .slice B b.length d] 44)) [.slice A2 V.length c2, .slice B2 b2.length d2] 44
    simpa using this
  cases hL : ((W.length : Int) != (V.length : Int)) with
  | true =>
    have HF := hid (show sameB W b V b2 = false by
      have : W ≠ V := by rintro rfl; simp at hL
      simp [sameB, this])
    go_wp2
    go_ret
    exact ⟨ret_bool HF.out.symm, hb2⟩
  | false =>
    have hWV : W.length = V.length := by simp at hL; omega
    have HL := hid hWV
    clear hWV
    go_wp2
    have hA1 := hA.below hb2
    have hA3 := hA2.below hb2
    have hB1 := hB.below hb2
    have hB3 := hB2.below hb2
    generalize (w.alloc (.cells #[.slice A W.length c, .slice B b.length d] 44)).alloc (.cells #[.slice A2 V.length c2, .slice B2 b2.length d2] 44) = w1 at *
    have cW := hM.cell (k := 0) rfl
    have cB := hM.cell (k := 1) rfl
    have cV := hO.cell (k := 0) rfl
    have cB2 := hO.cell (k := 1) rfl
    clear hA hA2 hB hB2 hL
    go_loopw [5] (fun i wr => ∃ k : Nat, i = .int .i64 k ∧ k ≤ W.length ∧ SameRows W V k ∧ Dr w1 wr) (fun i _ => W.length - (intOf i).toNat)
    case atStart => exact ⟨0, rfl, by omega, SameRows.zero W V, Dr.refl _⟩
    case round =>
      obtain ⟨k, rfl, hk, hall, hw⟩ := hrel
      have HA := hid hall
      clear hall
      have cW1 := (hw.cell _).trans cW
      have cV1 := (hw.cell _).trans cV
      by_cases hlt : k < W.length
      · obtain ⟨l, hrow⟩ := get_of_lt hlt
        have hltv : k < V.length := by rw [← HL.out]; exact hlt
        obtain ⟨m, hrow2⟩ := get_of_lt hltv
        obtain ⟨o1, off1, A', c', rfl, hc0, hcs, hln⟩ := hA1.at_ hrow
        obtain ⟨o2, off2, A2', c2', rfl, hc2, hcs2, hln2⟩ := hA3.at_ hrow2
        have hc1 := (hw.cell _).trans hc0
        have hc3 := (hw.cell _).trans hc2
        cases he : decide (l = m) with
        | true =>
          have HN := hid (HA.out.step hrow hrow2 (of_decide_eq_true he))
          clear hrow hrow2
          go_wp2
          go_quiet ((go_at_call 41; exact quiet_dr (ints_b A' A2' l m c' c2' _ he _ ((hcs.dr hw).drewN _) ((hcs2.dr hw).drewN _) hln hln2)))
          go_wp2
          go_roundw
          case rel => exact ⟨k + 1, by go_num, by omega, HN.out, hw.more _⟩
          case measure => simp [intOf]; omega
        | false =>
          have HF := hid (show sameB W b V b2 = false by
            have := sameRows_no hrow hrow2 (of_decide_eq_false he)
            simp [sameB, this])
          clear hrow hrow2
          go_wp2
          go_quiet ((go_at_call 41; exact quiet_dr (ints_b A' A2' l m c' c2' _ he _ ((hcs.dr hw).drewN _) ((hcs2.dr hw).drewN _) hln hln2)))
          go_wp2
          go_ret
          exact ⟨ret_bool HF.out.symm, below_dr hb2 (hw.more _)⟩
      · obtain rfl : k = W.length := by omega
        have HS := hid (show sameB W b V b2 = decide (b = b2) by
          have := HA.out.all HL.out
          simp [sameB, this])
        have cB1 := (hw.cell _).trans cB
        have cB3 := (hw.cell _).trans cB2
        go_wp2_with (go_at_call 41; refine (ints_c B B2 b b2 d d2 _ (hB1.dr hw) (hB3.dr hw) l2 l4).mono ?_; rintro e w8 ⟨rfl, hw8⟩)
        go_ret
        exact ⟨ret_bool HS.out.symm, below_dr hb2 (hw.trans hw8)⟩

set_option maxHeartbeats 400000 in
theorem eq_c (A B : Option Addr) (la lb : List Int) (ca cb : Nat) (w : World) (hA : Cells w A (la.map (.int .i64))) (hB : Cells w B (lb.map (.int .i64))) (hl : la.length ≤ 9223372036854775807) (hl' : lb.length ≤ 9223372036854775807) :
    Calls Try.prog 95 #[.slice A la.length ca, .slice B lb.length cb] w fun e w' => e = .returned (.bool (decide (la = lb))) ∧ Dr w w' := by
  by_cases hlen : la.length = lb.length
  · have hb : (((la.length : Nat) : Int) != ((lb.length : Nat) : Int)) = false := by simp [hlen]
    have HL := hid hlen
    clear hlen
    go_enter Try.func95, Try.ntmps95
    go_wp2
    go_loopw [5, 13] (fun _ i wr => ∃ k : Nat, i = .int .i64 k ∧ k ≤ la.length ∧ SameUpto la lb k ∧ Dr w wr) (fun _ i _ => la.length - (intOf i).toNat)
    case atStart => exact ⟨0, rfl, by omega, fun i hi => absurd hi (by omega), Dr.refl w⟩
    case round =>
      obtain ⟨k, rfl, hk, hsame, hw⟩ := hrel
      by_cases hlt : k < la.length
      · obtain ⟨x, hx⟩ := get_of_lt hlt
        obtain ⟨y, hy⟩ := get_of_lt (l := lb) (show k < lb.length by have := HL.out; omega)
        obtain ⟨b, off, rfl, hc⟩ := (hA.dr hw).at_map hx
        obtain ⟨b', off', rfl, hc'⟩ := (hB.dr hw).at_map hy
        have hlt' : k < lb.length := by have := HL.out; omega
        by_cases hxy : x = y
        · subst hxy
          have hn : (x != x) = false := by simp
          have hs := hsame.step hx hy
          go_wp2
          go_quiet (fail)
          go_wp2
          go_roundw
          case rel => exact ⟨k + 1, by go_num, by omega, hs, hw.more _⟩
          case measure => simp [intOf]; omega
        · have hn : (x != y) = true := by simpa using hxy
          have hfin : decide (la = lb) = false := by
            simp only [decide_eq_false_iff_not]
            rintro rfl
            rw [hx] at hy
            exact hxy (Option.some.inj hy)
          have HF := hid hfin
          clear hfin hxy
          go_wp2
          go_quiet (fail)
          go_wp2
          go_ret
          exact ⟨ret_bool HF.out.symm, hw.more _⟩
      · have hfin : decide (la = lb) = true := by
          obtain rfl : k = la.length := by omega
          simp only [decide_eq_true_eq]
          exact hsame.all HL.out
        have HF := hid hfin
        clear hfin
        go_wp2
        go_ret
        exact ⟨ret_bool HF.out.symm, hw⟩
  · have hb : (((la.length : Nat) : Int) != ((lb.length : Nat) : Int)) = true := by simp; omega
    have hfin : decide (la = lb) = false := by
      simp only [decide_eq_false_iff_not]
      rintro rfl
      exact hlen rfl
    have HF := hid hfin
    clear hfin hlen
    go_enter Try.func95, Try.ntmps95
    go_wp2
    go_ret
    exact ⟨ret_bool HF.out.symm, Dr.refl w⟩

set_option maxHeartbeats 1000000 in
theorem eqf_c (A A2 : Option Addr) (W V : List (List Int)) (c c2 : Nat) (w : World) (hA1 : GridI w A W) (hA3 : GridI w A2 V) (l1 : W.length ≤ 9223372036854775807) (l3 : V.length ≤ 9223372036854775807) :
    Calls Try.prog 94 #[.slice A W.length c, .slice A2 V.length c2, .func (.func 95) #[] #[]] w fun e w' => e = .returned (.bool (decide (W = V))) ∧ Dr w w' := by
  go_enter Try.func94, Try.ntmps94
  cases hL : ((W.length : Int) != (V.length : Int)) with
  | true =>
    have HF := hid (show decide (W = V) = false by
      have : W ≠ V := by rintro rfl; simp at hL
      simp [this])
    go_wp2
    go_ret
    exact ⟨ret_bool HF.out.symm, Dr.refl _⟩
  | false =>
    have hWV : W.length = V.length := by simp at hL; omega
    have HL := hid hWV
    clear hWV
    go_wp2
    clear hL
    go_loopw [7, 8, 9, 17] (fun _ _ _ i wr => ∃ k : Nat, i = .int .i64 k ∧ k ≤ W.length ∧ SameRows W V k ∧ Dr w wr) (fun _ _ _ i _ => W.length - (intOf i).toNat)
    case atStart => exact ⟨0, rfl, by omega, SameRows.zero W V, Dr.refl _⟩
    case round =>
      obtain ⟨k, rfl, hk, hall, hw⟩ := hrel
      have HA := hid hall
      clear hall
      by_cases hlt : k < W.length
      · obtain ⟨l, hrow⟩ := get_of_lt hlt
        have hltv : k < V.length := by rw [← HL.out]; exact hlt
        obtain ⟨m, hrow2⟩ := get_of_lt hltv
        obtain ⟨o1, off1, A', c', rfl, hc0, hcs, hln⟩ := hA1.at_ hrow
        obtain ⟨o2, off2, A2', c2', rfl, hc2, hcs2, hln2⟩ := hA3.at_ hrow2
        have hc1 := (hw.cell _).trans hc0
        have hc3 := (hw.cell _).trans hc2
        have hcall := eq_c A' A2' l m c' c2' _ (hcs.dr hw) (hcs2.dr hw) hln hln2
        have HC := hid hcall
        clear hcall
        cases he : decide (l = m) with
        | true =>
          have HN := hid (HA.out.step hrow hrow2 (of_decide_eq_true he))
          clear hrow hrow2
          go_wp2_with (go_at_call 95; refine HC.out.mono ?_; rintro e w8 ⟨rfl, hw8⟩; rw [he])
          go_roundw
          case rel => exact ⟨k + 1, by go_num, by omega, HN.out, hw.trans hw8⟩
          case measure => simp [intOf]; omega
        | false =>
          have HF := hid (show decide (W = V) = false by
            have := sameRows_no hrow hrow2 (of_decide_eq_false he)
            simp [this])
          clear hrow hrow2
          go_wp2_with (go_at_call 95; refine HC.out.mono ?_; rintro e w8 ⟨rfl, hw8⟩; rw [he])
          go_ret
          exact ⟨ret_bool HF.out.symm, hw.trans hw8⟩
      · obtain rfl : k = W.length := by omega
        have HS := hid (show decide (W = V) = true by
          have := HA.out.all HL.out
          simp [this])
        go_wp2
        go_ret
        exact ⟨ret_bool HS.out.symm, hw⟩

set_option maxRecDepth 100000 in
set_option maxHeartbeats 1000000 in
theorem fsame_c (A B A2 B2 : Option Addr) (W V : List (List Int)) (b b2 : List Int) (c d c2 d2 : Nat) (w : World) (hA : GridI w A W) (hB : Cells w B (b.map (.int .i64))) (hA2 : GridI w A2 V) (hB2 : Cells w B2 (b2.map (.int .i64)))
    (l1 : W.length ≤ 9223372036854775807) (l2 : b.length ≤ 9223372036854775807) (l3 : V.length ≤ 9223372036854775807) (l4 : b2.length ≤ 9223372036854775807) :
    Calls Try.prog 45 #[mval A W.length c B b.length d, mval A2 V.length c2 B2 b2.length d2] w fun e w' => e = .returned (.bool (sameB W b V b2)) ∧ Below w.heap.size w w' := by
  go_enter Try.func45, Try.ntmps45
  have hb2 := (below_alloc w (.cells #[.slice A W.length c, .slice B b.length d] 44)).alloc (by simp) (.cells #[.slice A2 V.length c2, .slice B2 b2.length d2] 44)
  have hM : Row1 ((w.alloc (.cells #[.slice A W.length c, .slice B b.length d] 44)).alloc (.cells #[.slice A2 V.length c2, .slice B2 b2.length d2] 44)) w.heap.size 44 [.slice A W.length c, .slice B b.length d] := (row1_new w [.slice A W.length c, .slice B b.length d] 44).alloc _
  have hO : Row1 ((w.alloc (.cells #[.slice A W.length c, .slice B b.length d] 44)).alloc (.cells #[.slice A2 V.length c2, .slice B2 b2.length d2] 44)) (w.heap.size + 1) 44 [.slice A2 V.length c2, .slice B2 b2.length d2] := by
    have := row1_new (w.alloc (.cells #[.slice A W.length c, .slice B b.length d] 44)) [.slice A2 V.length c2, .slice B2 b2.length d2] 44
    simpa using this
  have hA1 := hA.below hb2
  have hA3 := hA2.below hb2
  have hB1 := hB.below hb2
  have hB3 := hB2.below hb2
  clear hA hA2 hB hB2
  go_wp2_with (fail)
  generalize (w.alloc (.cells #[.slice A W.length c, .slice B b.length d] 44)).alloc (.cells #[.slice A2 V.length c2, .slice B2 b2.length d2] 44) = w1 at *
  have hcall := eqf_c A A2 W V c c2 w1 hA1 hA3 l1 l3
  refine hcall.mono ?_
  rintro e w2 ⟨rfl, hw⟩
  have cB := (hM.dr hw).cell (k := 1) rfl
  have cB2 := (hO.dr hw).cell (k := 1) rfl
  cases he : decide (W = V) with
  | false =>
    have HF := hid (show sameB W b V b2 = false by simp [sameB, he])
    go_wp2
    go_ret
    exact ⟨ret_bool HF.out.symm, below_dr hb2 hw⟩
  | true =>
    have HS := hid (show sameB W b V b2 = decide (b = b2) by simp [sameB, he])
    clear he
    go_wp2_with (go_at_call 95; refine (eq_c B B2 b b2 d d2 _ (hB1.dr hw) (hB3.dr hw) l2 l4).mono ?_; rintro e w8 ⟨rfl, hw8⟩)
    go_ret
    exact ⟨ret_bool HS.out.symm, below_dr hb2 (hw.trans hw8)⟩

end Go.Proofs.Ytnmadmcegdpecaa
