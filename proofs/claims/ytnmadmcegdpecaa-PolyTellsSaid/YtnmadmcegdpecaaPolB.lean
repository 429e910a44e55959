/-
  Sums of polynomials; are two the same: the program's and the reference's.
-/
import Derived.Test.YtnmadmcegdpecaaPolA
namespace Go.Proofs.Ytnmadmcegdpecaa
open Go.RowKit

attribute [local go_sem] Oper.semAt_some

/-- a sum. -/
def sumL (a b : List Int) (q : Int) : List Int := (List.range (max a.length b.length)).map fun i => mAdd (cAt a i q) (cAt b i q) q
def pSum (a b : List Int) (q : Int) : List Int := if okm q then sumL a b q else []
theorem sumL_len (a b : List Int) (q : Int) : (sumL a b q).length = max a.length b.length := by simp [sumL]
theorem sumL_at (a b : List Int) (q : Int) {i : Nat} (h : i < max a.length b.length) : (sumL a b q)[i]? = some (mAdd (cAt a i q) (cAt b i q) q) := by
  unfold sumL; rw [List.getElem?_map, List.getElem?_range h]; rfl

set_option maxHeartbeats 1000000 in
theorem psum_c (A B : Option Addr) (a b : List Int) (c d : Nat) (q : Int) (w : World) (hA : Cells w A (a.map (.int .u64))) (hB : Cells w B (b.map (.int .u64))) (hl : a.length ≤ 1000000) (hl' : b.length ≤ 1000000) (hu : U64s a) (hu' : U64s b) (hq : U64 q) :
    Calls Try.prog 61 #[.slice A a.length c, .slice B b.length d, .int .u64 q] w (NewNums (pSum a b q) w) := by
  by_cases h : okm q = true
  · have hps : Hid (pSum a b q = sumL a b q) := hid (by unfold pSum; rw [if_pos h])
    have hlen := sumL_len a b q
    obtain ⟨n, hn⟩ : ∃ n, max a.length b.length = n := ⟨_, rfl⟩
    have hat : ∀ i, i < n → (sumL a b q)[i]? = some (mAdd (cAt a i q) (cAt b i q) q) := fun i hi => sumL_at a b q (by omega)
    have hni : max (a.length : Int) (b.length : Int) = (n : Int) := by omega
    have hnl : n ≤ 1000000 := by omega
    rw [hn] at hlen
    have HS := hid (⟨hlen, hat, hni⟩ : _ ∧ _ ∧ _)
    generalize sumL a b q = s at *
    clear hat hn hni
    go_enter Try.func61, Try.ntmps61
    go_wp2_with (go_at_call 101; refine (pmay_c _ hq _).mono ?_; rintro e w' ⟨rfl, rfl⟩; rw [h])
    refine (over_c A a.length c q w).mono ?_
    rintro e w1 ⟨g1, g2, rfl, r1, r2, hb1, _, _⟩
    go_wp2_with (fail)
    refine (over_c B b.length d q w1).mono ?_
    rintro e w2 ⟨g3, g4, rfl, r3, r4, hb2, _, _⟩
    have R1 := r1.below hb2
    have R2 := r2.below hb2
    have hb3 := below_next hb1 hb1.size hb2
    have hA2 := hA.keep fun p hp => hb3.cell hp
    have hB2 := hB.keep fun p hp => hb3.cell hp
    clear r1 r2 hb1 hb2
    go_wp2_with (at_make; refine wpList_make_row elt_u64 _ rfl _ _ rfl .i64 .i64 _ _ n rfl rfl HS.out.2.2 HS.out.2.2 (by omega) (by omega) ?_; intro w3 hr3 hs3 hb4)
    go_loopw [10, 28] (fun _ i wr => ∃ j : Nat, i = .int .i64 j ∧ j ≤ n ∧ Row1 wr w2.heap.size 23 (filled s n j) ∧ Below w2.heap.size w2 wr) (fun _ i _ => n - (intOf i).toNat)
    case atStart => exact ⟨0, rfl, by omega, by rw [filled_zero]; exact hr3, hb4⟩
    case round =>
      obtain ⟨j, rfl, hj, hr, hb⟩ := hrel
      by_cases hlt : j < n
      · have hz2 := HS.out.2.1 j hlt
        have R1' := R1.below hb
        have R2' := R2.below hb
        have R3' := r3.below hb
        have R4' := r4.below hb
        have hA3 := hA2.keep fun p hp => hb.cell hp
        have hB3 := hB2.keep fun p hp => hb.cell hp
        go_wp2_with (fail)
        refine (over1_c A a c j g1 g2 q wr R1' R2' hA3 (by omega) (by omega) hu h).mono ?_
        rintro e w5 ⟨rfl, hw5⟩
        go_wp2_with (fail)
        refine (over1_c B b d j g3 g4 q w5 (R3'.dr hw5) (R4'.dr hw5) (hB3.dr hw5) (by omega) (by omega) hu' h).mono ?_
        rintro e w6 ⟨rfl, hw6⟩
        go_wp2_with (go_at_call 32; refine (add_c _ _ _ (cAt_u64 a j h) (cAt_u64 b j h) hq _).mono ?_; rintro e w7 ⟨rfl, hw7⟩; have hr7 := ((hr.dr hw5).dr hw6).dr hw7; have hc7 := hr7.cell (filled_at _ _ _ hlt HS.out.1); have hf7 := hr7.frozen j)
        go_roundw
        case rel => exact ⟨j + 1, by go_num, by omega, by rw [← filled_set _ _ _ _ hlt HS.out.1 hz2]; exact hr7.set j _, (below_dr (below_dr (below_dr hb hw5) hw6) hw7).setCell (by simp) _⟩
        case measure => simp [intOf]; omega
      · obtain rfl : j = n := by omega
        go_wp2
        go_ret
        refine ⟨_, rfl, ?_, below_next hb3 hb3.size hb⟩
        rw [filled_all _ _ HS.out.1] at hr
        have h9 := (hr.own (Nat.le_refl _) (by rw [List.length_map, HS.out.1]; omega)).from_ hb3.size
        rw [List.length_map, HS.out.1] at h9
        rw [hps.out]
        exact h9
  · have h' : okm q = false := by simpa using h
    go_enter Try.func61, Try.ntmps61
    go_wp2_with (go_at_call 101; refine (pmay_c _ hq _).mono ?_; rintro e w' ⟨rfl, rfl⟩; rw [h'])
    go_ret
    have : pSum a b q = [] := by unfold pSum; rw [if_neg h]
    rw [this]
    exact ⟨_, rfl, Own.nil _ _ _, Below.refl _ _⟩

set_option maxRecDepth 100000 in
set_option maxHeartbeats 2000000 in
theorem rsum_c (A B : Option Addr) (a b : List Int) (c d : Nat) (q : Int) (w : World) (hA : Cells w A (a.map (.int .u64))) (hB : Cells w B (b.map (.int .u64))) (hl : a.length ≤ 1000000) (hl' : b.length ≤ 1000000) (hu : U64s a) (hu' : U64s b) (hq : U64 q) :
    Calls Try.prog 65 #[.slice A a.length c, .slice B b.length d, .int .u64 q] w (NewNums (pSum a b q) w) := by
  by_cases h : okm q = true
  · have hps : Hid (pSum a b q = sumL a b q) := hid (by unfold pSum; rw [if_pos h])
    have hlen := sumL_len a b q
    obtain ⟨n, hn⟩ : ∃ n, max a.length b.length = n := ⟨_, rfl⟩
    have hat : ∀ i, i < n → (sumL a b q)[i]? = some (mAdd (cAt a i q) (cAt b i q) q) := fun i hi => sumL_at a b q (by omega)
    have hnl : n ≤ 1000000 := by omega
    rw [hn] at hlen
    have HS := hid (⟨hlen, hat⟩ : _ ∧ _)
    generalize sumL a b q = s at *
    clear hat hlen
    go_enter Try.func65, Try.ntmps65
    go_wp2
    go_loopw [7, 8] (fun o i wr => ∃ j : Nat, i = .int .i64 j ∧ j ≤ n ∧ Own wr w.heap.size 23 o ((s.take j).map (.int .u64)) ∧ Below w.heap.size w wr) (fun _ i _ => n - (intOf i).toNat)
    case atStart => exact ⟨0, rfl, by omega, by simpa using Own.nil w w.heap.size 23, Below.refl _ _⟩
    case round =>
      obtain ⟨j, rfl, hj, hown, hb⟩ := hrel
      by_cases hlt : j < n
      · have hz2 := HS.out.2 j hlt
        have hs : (s.take j).map (Value.int .u64) ++ [Value.int .u64 (mAdd (cAt a j q) (cAt b j q) q)] = (s.take (j + 1)).map (Value.int .u64) := by
          rw [take_snoc' hz2]; simp
        have hlen : ((s.take j).map (Value.int .u64)).length = j := by have := HS.out.1; simp; omega
        have HT := hid (⟨hs, hlen⟩ : _ ∧ _)
        have hA3 := hA.keep fun p hp => hb.cell hp
        have hB3 := hB.keep fun p hp => hb.cell hp
        clear hs hlen hz2
        have hor : j < a.length ∨ (¬ j < a.length ∧ j < b.length) := by omega
        rcases hor with hja | ⟨hja, hjb⟩
        all_goals
          go_wp2_with (first | (go_at_call 103; refine (rmay3_c _ hq _).mono ?_; rintro e w' ⟨rfl, rfl⟩; rw [h]) | (go_at_call 80; refine (radd_c _ _ _ (cAt_u64 a j h) (cAt_u64 b j h) hq _).mono ?_; rintro e w2 ⟨rfl, hw2⟩) | (at_builtin; refine wpList_push elt_u64 _ rfl _ _ rfl w.heap.size (hown.dr hw2) rfl (.int .u64 (mAdd (cAt a j q) (cAt b j q) q)) rfl rfl (by rw [HT.out.2]; omega) (by rw [HT.out.2]; omega) (by have := hb.size; have := Dr.size hw2; omega) ?_; intro v' w3 hown5 _ hb5))
          refine (r3at_c A a c j q _ hA3 (by omega) (by omega) hu h).mono ?_
          rintro e w5 ⟨rfl, rfl⟩
          go_wp2_with (fail)
          refine (r3at_c B b d j q _ hB3 (by omega) (by omega) hu' h).mono ?_
          rintro e w5 ⟨rfl, rfl⟩
          go_wp2_with (first | (go_at_call 80; refine (radd_c _ _ _ (cAt_u64 a j h) (cAt_u64 b j h) hq _).mono ?_; rintro e w2 ⟨rfl, hw2⟩) | (at_builtin; refine wpList_push elt_u64 _ rfl _ _ rfl w.heap.size (hown.dr hw2) rfl (.int .u64 (mAdd (cAt a j q) (cAt b j q) q)) rfl rfl (by rw [HT.out.2]; omega) (by rw [HT.out.2]; omega) (by have := hb.size; have := Dr.size hw2; omega) ?_; intro v' w3 hown5 _ hb5))
          go_roundw
          case rel =>
            rw [HT.out.1] at hown5
            exact ⟨j + 1, by go_num, by omega, hown5, (below_dr hb hw2).trans hb5⟩
          case measure => simp [intOf]; omega
      · obtain rfl : j = n := by omega
        have h1 : ¬ j < a.length := by omega
        have h2 : ¬ j < b.length := by omega
        go_wp2_with (go_at_call 103; refine (rmay3_c _ hq _).mono ?_; rintro e w' ⟨rfl, rfl⟩; rw [h])
        go_ret
        rw [List.take_of_length_le (by rw [HS.out.1]; exact Nat.le_refl _)] at hown
        exact ⟨_, rfl, by rw [hps.out]; exact hown, hb⟩
  · have h' : okm q = false := by simpa using h
    go_enter Try.func65, Try.ntmps65
    go_wp2
    go_loopw [7, 8] (fun o i wr => o = .slice none 0 0 ∧ i = .int .i64 0 ∧ w = wr) (fun _ _ _ => 0)
    case atStart => exact ⟨rfl, rfl, rfl⟩
    case round =>
      obtain ⟨rfl, rfl, rfl⟩ := hrel
      go_wp2_with (go_at_call 103; refine (rmay3_c _ hq _).mono ?_; rintro e w' ⟨rfl, rfl⟩; rw [h'])
      go_ret
      have : pSum a b q = [] := by unfold pSum; rw [if_neg h]
      rw [this]
      exact ⟨_, rfl, Own.nil _ _ _, Below.refl _ _⟩

end Go.Proofs.Ytnmadmcegdpecaa
