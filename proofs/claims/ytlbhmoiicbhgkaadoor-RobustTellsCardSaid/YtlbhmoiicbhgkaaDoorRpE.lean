/-
  RobustTells: what the program does.
-/
import Derived.Test.YtlbhmoiicbhgkaaDoorRobQ1
import Derived.Test.YtlbhmoiicbhgkaaDoorRobQ2
import Derived.Test.YtlbhmoiicbhgkaaDoorRobQ3
import Derived.Test.YtlbhmoiicbhgkaaDoorRobQ4
import Derived.Test.YtlbhmoiicbhgkaaDoorRobQ5
import Derived.Test.YtlbhmoiicbhgkaaDoorRobQ6
import Derived.Test.YtlbhmoiicbhgkaaDoorRobQ7
import Derived.Test.YtlbhmoiicbhgkaaDoorRobQ8
import Derived.Test.YtlbhmoiicbhgkaaDoorRobQ9
import Derived.Test.YtlbhmoiicbhgkaaDoorRobQ10
import Derived.Test.YtlbhmoiicbhgkaaDoorRobQ11
import Derived.Test.YtlbhmoiicbhgkaaDoorRpD
namespace Go.Proofs.YtlbhmoiicbhgkaaDoor
open Go Go.RowKit Go.Maps Go.Shelf Go.Proofs

attribute [local go_sem] Oper.semAt_some

set_option maxRecDepth 100000 in
set_option maxHeartbeats 3200000 in
theorem robustTells_c (A B : Option Addr) (xs ys : List Int) (ca cb : Nat) (t q : Int) (w : World) (hA : Cells w A (xs.map (.int .u64))) (hB : Cells w B (ys.map (.int .u64))) (hl : xs.length ≤ 9223372036854775807) (hl' : ys.length ≤ 9223372036854775807)
    (hu : U64s xs) (hu' : U64s ys) (ht : I64 t) (hq : U64 q) (hTab : Tabs w) :
    Calls Tryd.prog 6 #[.slice A xs.length ca, .slice B ys.length cb, .int .i64 t, .int .u64 q] w fun e w' => e = .returned (.bool true) ∧ Below w.heap.size w w' := by
  have HA := hid hA
  have HB := hid hB
  have HT := hid hTab
  have HU := hid hu
  have HU' := hid hu'
  clear hA hB hTab hu hu'
  go_enter Tryd.func6, Tryd.ntmps6
  by_cases hc0 : (xs.length : Int) > 40
  · go_wp2_with (fail)
    refine (awake05_c w HT.out).mono ?_
    rintro e w2 ⟨rfl, hb2⟩
    go_wp2
    go_ret
    exact ⟨rfl, hb2⟩
  · by_cases hc4 : (ys.length : Int) > 40
    · go_wp2_with (fail)
      refine (awake05_c w HT.out).mono ?_
      rintro e w2 ⟨rfl, hb2⟩
      go_wp2
      go_ret
      exact ⟨rfl, hb2⟩
    · have hb0 := below_alloc w (.cells #[] 24)
      have ho0 := (row1_new w [] 24).own (Nat.le_refl _) (by decide)
      simp only [List.toArray, List.length_nil] at hb0 ho0
      have hb00 := below_alloc
      go_wp2_with (first
        | (at_builtin; refine wpList_more elt_u64 (w.alloc (.cells #[] 24)) (by rfl) _ _ rfl w.heap.size ho0 rfl (HA.out.below hb0) (by rw [List.length_map]; rfl) (u64_ones _) (by simp; omega) (by simp; omega) hb0.size ?_; intro v1 w1 ho1 hb1; replace hb1 := hb0.trans hb1; clear hb0 ho0; have hb12 := below_alloc w1 (.cells #[] 24); have hb2 := below_next hb1 hb1.size hb12; have ho2 := own_zero (row1_new w1 [] 24) (Nat.le_refl _))
        | (at_builtin; refine wpList_more elt_u64 (w1.alloc (.cells #[] 24)) (by rfl) _ _ rfl w1.heap.size ho2 rfl (HB.out.below hb2) (by rw [List.length_map]; rfl) (u64_ones _) (by simp; omega) (by simp; omega) hb12.size ?_; intro v2 w2 ho3 hb3; replace hb3 := hb12.trans hb3; clear ho2 hb12 hb2))
      clear hb00
      rw [List.nil_append] at ho1 ho3
      obtain ⟨A1, c1, e1, hX⟩ := ho1.form
      obtain ⟨A2, c2, e2, hY⟩ := ho3.form
      rw [List.length_map] at e1 e2
      subst e1
      subst e2
      have HX := hid (hX.below hb3)
      have HY := hid hY
      have HBW := hid (below_next hb1 hb1.size hb3)
      clear ho1 ho3 hX hY hb1 hb3
      go_loopw [11] (fun x wr => ∃ n : Nat, x = .int .i64 (n : Int) ∧ n ≤ 2 ∧ Hid (Below w2.heap.size w2 wr)) (fun x _ => 2 - (intOf x).toNat)
      case atStart => exact ⟨0, rfl, by omega, hid (Below.refl _ _)⟩
      case round =>
        obtain ⟨n, rfl, hn, HI⟩ := hrel
        generalize wr = w3 at *
        have HW3 := hid (below_next HBW.out HBW.out.size HI.out)
        by_cases hlt : n < 2
        · have hlt' : (n : Int) < 2 := by omega
          have h1 := dec_c A1 A2 xs ys c1 c2 t q w3 (HX.out.below HI.out) (HY.out.below HI.out) (by omega) (by omega) HU.out HU'.out ht hq (HT.out.below HW3.out)
          have h2 : ∀ w4, Below w3.heap.size w3 w4 → Calls Tryd.prog 25 #[.slice A xs.length ca, .slice B ys.length cb, .int .i64 t, .int .u64 q] w4 (DecR (decR xs ys t q) w4) := fun w4 hb =>
            decode05_c A B xs ys ca cb t q w4 (HA.out.below (below_next HW3.out HW3.out.size hb)) (HB.out.below (below_next HW3.out HW3.out.size hb)) (by omega) (by omega) HU.out HU'.out ht hq
          generalize decR xs ys t q = R at h1 h2
          obtain ⟨C, W, er⟩ := R
          have H1 := hid h1
          have H2 := hid h2
          clear h1 h2
          have hne : (er != er) = false := by simp
          go_wp2_with (fail)
          refine H1.out.mono ?_
          rintro e w4 ⟨v3, v4, rfl, oC, oW, hb4⟩
          dsimp only at oC oW ⊢
          obtain ⟨A3, c3, e3, hC⟩ := oC.form
          obtain ⟨A4, c4, e4, hW⟩ := oW.form
          have hCl := oC.len_le
          have hWl := oW.len_le
          rw [List.length_map] at e3 e4 hCl hWl
          subst e3
          subst e4
          go_wp2_with (fail)
          refine (H2.out w4 hb4).mono ?_
          rintro e w5 ⟨v5, v6, rfl, oD, oV, hb5⟩
          dsimp only at oD oV ⊢
          obtain ⟨A5, c5, e5, hD⟩ := oD.form
          obtain ⟨A6, c6, e6, hV⟩ := oV.form
          rw [List.length_map] at e5 e6
          subst e5
          subst e6
          have HC5 := hid (⟨hC.below hb5, hD⟩ : _ ∧ _)
          have HW5 := hid (⟨hW.below hb5, hV⟩ : _ ∧ _)
          have wC : Writ w5 w3.heap.size 24 (.slice A3 C.length c3) C.length := ⟨_, oC.below hb5, by rw [List.length_map]⟩
          have wW : Writ w5 w3.heap.size 3 (.slice A4 W.length c4) W.length := ⟨_, oW.below hb5, by simp [natv]⟩
          have HWR := hid (⟨wC, wW, below_next hb4 hb4.size hb5⟩ : _ ∧ _ ∧ _)
          clear H1 H2 oC oW oD oV hC hW hD hV hb4 hb5 wC wW
          go_wp2_with (fail)
          refine (numbersR_c A3 A5 C C c3 c5 w5 HC5.out.1 HC5.out.2 hCl hCl).mono ?_
          rintro e w6 ⟨rfl, hd6⟩
          rw [show decide (C = C) = true by simp]
          have hp := ints5_c A4 A6 (W.map fun (i : Nat) => (i : Int)) (W.map fun (i : Nat) => (i : Int)) c4 c6 w6 (by have := HW5.out.1.dr hd6; rwa [natv_eq] at this) (by have := HW5.out.2.dr hd6; rwa [natv_eq] at this) (by rw [List.length_map]; exact hWl) (by rw [List.length_map]; exact hWl)
          rw [List.length_map, show decide ((W.map fun (i : Nat) => (i : Int)) = (W.map fun (i : Nat) => (i : Int))) = true by simp] at hp
          have HP := hid hp
          have HD6 := hid hd6
          clear hp hd6
          go_wp2_with (fail)
          refine HP.out.mono ?_
          rintro e w7 ⟨rfl, hd7⟩
          obtain ⟨wC, wW, hb⟩ := HWR.out
          have HS := hid (⟨(wC.below (below_of_dr HD6.out)).below (below_of_dr hd7), (wW.below (below_of_dr HD6.out)).below (below_of_dr hd7), below_dr (below_dr hb HD6.out) hd7⟩ : Writ w7 w3.heap.size 24 (.slice A3 C.length c3) C.length ∧ Writ w7 w3.heap.size 3 (.slice A4 W.length c4) W.length ∧ Below w3.heap.size w3 w7)
          clear wC wW hb hd7 HD6 HP HWR HC5 HW5
          go_wp2
          go_loopw [18] (fun x wr => ∃ j : Nat, x = .int .i64 (j : Int) ∧ j ≤ C.length ∧ Hid (Writ wr w3.heap.size 24 (.slice A3 C.length c3) C.length ∧ Writ wr w3.heap.size 3 (.slice A4 W.length c4) W.length ∧ Below w3.heap.size w3 wr)) (fun x _ => C.length - (intOf x).toNat)
          case atStart => exact ⟨0, rfl, by omega, HS⟩
          case round =>
            obtain ⟨j, rfl, hj, HJ⟩ := hrel
            clear HS
            by_cases hltj : j < C.length
            · have hltj' : (j : Int) < (C.length : Int) := by omega
              obtain ⟨wC, wW, hbo⟩ := HJ.out
              obtain ⟨g1, cap, u0, he, hg1', hg2, hg3, hg4, ar, hg5⟩ := wC.at_ hltj
              simp only [Value.slice.injEq, true_and] at he
              obtain ⟨rfl, rfl⟩ := he
              have HN := hid (show Writ (wr.setCell ⟨g1, j, none⟩ (.int .u64 77)) w3.heap.size 24 (.slice (some ⟨g1, 0, none⟩) C.length c3) C.length ∧ Writ (wr.setCell ⟨g1, j, none⟩ (.int .u64 77)) w3.heap.size 3 (.slice A4 W.length c4) W.length ∧ Below w3.heap.size w3 (wr.setCell ⟨g1, j, none⟩ (.int .u64 77)) from
                ⟨wC.set g1 j _, wW.set g1 j _, hbo.setCell (p := ⟨g1, j, none⟩) hg1' _⟩)
              clear wC wW hbo hg5 HJ
              go_wp2
              go_roundw
              case rel => exact ⟨j + 1, by go_num, by omega, HN⟩
              case measure => simp [intOf]; omega
            · obtain rfl : j = C.length := by omega
              have hltj' : ¬ (C.length : Int) < (C.length : Int) := by omega
              go_wp2
              generalize wr = w8 at *
              go_loopw [19] (fun x wr => ∃ j : Nat, x = .int .i64 (j : Int) ∧ j ≤ W.length ∧ Hid (Writ wr w3.heap.size 3 (.slice A4 W.length c4) W.length ∧ Below w3.heap.size w3 wr)) (fun x _ => W.length - (intOf x).toNat)
              case atStart => exact ⟨0, rfl, by omega, hid HJ.out.2⟩
              case round =>
                obtain ⟨j, rfl, hj2, HJ2⟩ := hrel
                clear HJ
                by_cases hltk : j < W.length
                · have hltk' : (j : Int) < (W.length : Int) := by omega
                  obtain ⟨wW, hbo⟩ := HJ2.out
                  obtain ⟨g1, cap, u0, he, hg1', hg2, hg3, hg4, ar, hg5⟩ := wW.at_ hltk
                  simp only [Value.slice.injEq, true_and] at he
                  obtain ⟨rfl, rfl⟩ := he
                  have HN := hid (show Writ (wr.setCell ⟨g1, j, none⟩ (.int .i64 (-7))) w3.heap.size 3 (.slice (some ⟨g1, 0, none⟩) W.length c4) W.length ∧ Below w3.heap.size w3 (wr.setCell ⟨g1, j, none⟩ (.int .i64 (-7))) from
                    ⟨wW.set g1 j _, hbo.setCell (p := ⟨g1, j, none⟩) hg1' _⟩)
                  clear wW hbo hg5 HJ2
                  go_wp2
                  go_roundw
                  case rel => exact ⟨j + 1, by go_num, by omega, HN⟩
                  case measure => simp [intOf]; omega
                · obtain rfl : j = W.length := by omega
                  have hltk' : ¬ (W.length : Int) < (W.length : Int) := by omega
                  have HN := hid (below_next HI.out HI.out.size HJ2.out.2)
                  clear HJ2
                  go_wp2
                  go_roundw
                  case rel => exact ⟨n + 1, by go_num, by omega, HN⟩
                  case measure => simp [intOf]; omega
        · obtain rfl : n = 2 := by omega
          have hlt' : ¬ ((2 : Nat) : Int) < 2 := by omega
          go_wp2_with (fail)
          refine (numbersR_c A1 A xs xs c1 ca w3 (HX.out.below HI.out) (HA.out.below HW3.out) hl hl).mono ?_
          rintro e w4 ⟨rfl, hd4⟩
          rw [show decide (xs = xs) = true by simp]
          have HD4 := hid hd4
          clear hd4
          go_wp2_with (fail)
          refine (numbersR_c A2 B ys ys c2 cb w4 ((HY.out.below HI.out).dr HD4.out) ((HB.out.below HW3.out).dr HD4.out) hl' hl').mono ?_
          rintro e w5 ⟨rfl, hd5⟩
          rw [show decide (ys = ys) = true by simp]
          have HB5 := hid (below_dr (below_dr HW3.out HD4.out) hd5)
          clear hd5
          go_wp2_with (fail)
          refine (awake05_c w5 (HT.out.below HB5.out)).mono ?_
          rintro e w6 ⟨rfl, hb6⟩
          go_wp2
          go_ret
          exact ⟨rfl, below_next HB5.out HB5.out.size hb6⟩
end Go.Proofs.YtlbhmoiicbhgkaaDoor
