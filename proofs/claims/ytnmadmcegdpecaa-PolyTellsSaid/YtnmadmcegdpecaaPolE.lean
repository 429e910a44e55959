/-
  Are two polynomials the same; degrees: the program's and the reference's.
-/
import Derived.Test.YtnmadmcegdpecaaPolB
namespace Go.Proofs.Ytnmadmcegdpecaa
open Go.RowKit

attribute [local go_sem] Oper.semAt_some

/-- are two the same, modulo q? -/
def sameB (a b : List Int) (q : Int) : Bool := !okm q || (List.range (max a.length b.length)).all fun i => decide (cAt a i q = cAt b i q)
theorem sameB_no {a b : List Int} {q : Int} {i : Nat} (h : okm q = true) (hi : i < max a.length b.length) (hne : cAt a i q ≠ cAt b i q) : sameB a b q = false := by
  unfold sameB
  rw [h, Bool.not_true, Bool.false_or]
  rw [Bool.eq_false_iff]
  intro hall
  exact hne (of_decide_eq_true (List.all_eq_true.1 hall i (List.mem_range.2 hi)))
theorem sameB_yes {a b : List Int} {q : Int} (h : ∀ i, i < max a.length b.length → cAt a i q = cAt b i q) : sameB a b q = true := by
  unfold sameB
  rw [Bool.or_eq_true]
  exact .inr (List.all_eq_true.2 fun i hi => decide_eq_true (h i (List.mem_range.1 hi)))
theorem sameB_none {a b : List Int} {q : Int} (h : okm q = false) : sameB a b q = true := by unfold sameB; rw [h]; rfl

set_option maxRecDepth 100000 in
set_option maxHeartbeats 2000000 in
theorem psame_c (A B : Option Addr) (a b : List Int) (c d : Nat) (q : Int) (w : World) (hA : Cells w A (a.map (.int .u64))) (hB : Cells w B (b.map (.int .u64))) (hl : a.length ≤ 1000000) (hl' : b.length ≤ 1000000) (hu : U64s a) (hu' : U64s b) (hq : U64 q) :
    Calls Try.prog 64 #[.slice A a.length c, .slice B b.length d, .int .u64 q] w fun e w' => e = .returned (.bool (sameB a b q)) ∧ Below w.heap.size w w' := by
  by_cases h : okm q = true
  · obtain ⟨n, hn⟩ : ∃ n, max a.length b.length = n := ⟨_, rfl⟩
    have hni : max (a.length : Int) (b.length : Int) = (n : Int) := by omega
    have hnl : n ≤ 1000000 := by omega
    have HN := hid hn
    have HNI := hid hni
    clear hn
    go_enter Try.func64, Try.ntmps64
    go_wp2_with (go_at_call 101; refine (pmay_c _ hq _).mono ?_; rintro e w' ⟨rfl, rfl⟩; rw [h])
    refine (over_c A a.length c q w).mono ?_
    rintro e w1 ⟨g1, g2, rfl, r1, r2, hb1, _, _⟩
    go_wp2_with (fail)
    refine (over_c B b.length d q w1).mono ?_
    rintro e w2 ⟨g3, g4, rfl, r3, r4, hb2, _, _⟩
    have R1 := r1.below hb2
    have R2 := r2.below hb2
    have hb3 := below_next hb1 hb1.size hb2
    have hA2 := hA.keep fun p hp => hb3.cell hp
    have hB2 := hB.keep fun p hp => hb3.cell hp
    clear r1 r2 hb1 hb2
    go_wp2
    go_loopw [9, 24] (fun _ i wr => ∃ j : Nat, i = .int .i64 j ∧ j ≤ n ∧ (∀ k, k < j → cAt a k q = cAt b k q) ∧ Dr w2 wr) (fun _ i _ => n - (intOf i).toNat)
    case atStart => exact ⟨0, rfl, by omega, fun k hk => absurd hk (by omega), Dr.refl _⟩
    case round =>
      obtain ⟨j, rfl, hj, hsm, hw⟩ := hrel
      by_cases hlt : j < n
      · have R1' := R1.dr hw
        have R2' := R2.dr hw
        have R3' := r3.dr hw
        have R4' := r4.dr hw
        have hlti : (j : Int) < max (a.length : Int) (b.length : Int) := by omega
        go_wp2_with (fail)
        refine (over1_c A a c j g1 g2 q wr R1' R2' (hA2.dr hw) (by omega) (by omega) hu h).mono ?_
        rintro e w5 ⟨rfl, hw5⟩
        go_wp2_with (fail)
        refine (over1_c B b d j g3 g4 q w5 (R3'.dr hw5) (R4'.dr hw5) ((hB2.dr hw).dr hw5) (by omega) (by omega) hu' h).mono ?_
        rintro e w6 ⟨rfl, hw6⟩
        by_cases heq : cAt a j q = cAt b j q
        · have HE := hid heq
          rw [heq]
          clear heq
          go_wp2
          go_roundw
          case rel => exact ⟨j + 1, by go_num, by omega, fun k hk => by
            rcases Nat.lt_or_ge k j with h1 | h1
            · exact hsm k h1
            · obtain rfl : k = j := by omega
              exact HE.out, (hw.trans hw5).trans hw6⟩
          case measure => simp [intOf]; omega
        · have hsb := hid (sameB_no h (i := j) (by have := HN.out; omega) heq)
          go_wp2
          go_ret
          exact ⟨ret_bool hsb.out.symm, below_dr (below_dr (below_dr hb3 hw) hw5) hw6⟩
      · obtain rfl : j = n := by omega
        have hsb := hid (sameB_yes (a := a) (b := b) (q := q) (fun i hi => hsm i (by have := HN.out; omega)))
        have hlti : ¬ (j : Int) < max (a.length : Int) (b.length : Int) := by omega
        go_wp2
        go_ret
        exact ⟨ret_bool hsb.out.symm, below_dr hb3 hw⟩
  · have h' : okm q = false := by simpa using h
    have hsb := hid (sameB_none (a := a) (b := b) h')
    go_enter Try.func64, Try.ntmps64
    go_wp2_with (go_at_call 101; refine (pmay_c _ hq _).mono ?_; rintro e w' ⟨rfl, rfl⟩; rw [h'])
    go_ret
    exact ⟨ret_bool hsb.out.symm, Below.refl _ _⟩

set_option maxRecDepth 100000 in
set_option maxHeartbeats 2000000 in
theorem rsame_c (A B : Option Addr) (a b : List Int) (c d : Nat) (q : Int) (w : World) (hA : Cells w A (a.map (.int .u64))) (hB : Cells w B (b.map (.int .u64))) (hl : a.length ≤ 1000000) (hl' : b.length ≤ 1000000) (hu : U64s a) (hu' : U64s b) (hq : U64 q) :
    Calls Try.prog 70 #[.slice A a.length c, .slice B b.length d, .int .u64 q] w fun e w' => e = .returned (.bool (sameB a b q)) ∧ w = w' := by
  by_cases h : okm q = true
  · obtain ⟨n, hn⟩ : ∃ n, max a.length b.length = n := ⟨_, rfl⟩
    have hnl : n ≤ 1000000 := by omega
    go_enter Try.func70, Try.ntmps70
    go_wp2
    go_loopw [7] (fun i wr => ∃ j : Nat, i = .int .i64 j ∧ j ≤ n ∧ (∀ k, k < j → cAt a k q = cAt b k q) ∧ w = wr) (fun i _ => n - (intOf i).toNat)
    case atStart => exact ⟨0, rfl, by omega, fun k hk => absurd hk (by omega), rfl⟩
    case round =>
      obtain ⟨j, rfl, hj, hsm, rfl⟩ := hrel
      by_cases hlt : j < n
      · have hor : j < a.length ∨ (¬ j < a.length ∧ j < b.length) := by omega
        rcases hor with hja | ⟨hja, hjb⟩
        all_goals
          go_wp2_with (go_at_call 103; refine (rmay3_c _ hq _).mono ?_; rintro e w' ⟨rfl, rfl⟩; rw [h])
          refine (r3at_c A a c j q _ hA (by omega) (by omega) hu h).mono ?_
          rintro e w5 ⟨rfl, rfl⟩
          go_wp2_with (fail)
          refine (r3at_c B b d j q _ hB (by omega) (by omega) hu' h).mono ?_
          rintro e w5 ⟨rfl, rfl⟩
          by_cases heq : cAt a j q = cAt b j q
          · have HE := hid heq
            rw [heq]
            clear heq
            go_wp2
            go_roundw
            case rel => exact ⟨j + 1, by go_num, by omega, fun k hk => by
              rcases Nat.lt_or_ge k j with h1 | h1
              · exact hsm k h1
              · obtain rfl : k = j := by omega
                exact HE.out, trivial⟩
            case measure => simp [intOf]; omega
          · have hsb := hid (sameB_no h (i := j) (by omega) heq)
            go_wp2
            go_ret
            exact ⟨ret_bool hsb.out.symm, rfl⟩
      · obtain rfl : j = n := by omega
        have hsb := hid (sameB_yes (a := a) (b := b) (q := q) (fun i hi => hsm i (by omega)))
        have h1 : ¬ j < a.length := by omega
        have h2 : ¬ j < b.length := by omega
        go_wp2_with (go_at_call 103; refine (rmay3_c _ hq _).mono ?_; rintro e w' ⟨rfl, rfl⟩; rw [h])
        go_ret
        exact ⟨ret_bool hsb.out.symm, rfl⟩
  · have h' : okm q = false := by simpa using h
    have hsb := hid (sameB_none (a := a) (b := b) h')
    go_enter Try.func70, Try.ntmps70
    go_wp2
    go_loopw [7] (fun i wr => i = .int .i64 0 ∧ w = wr) (fun _ _ => 0)
    case atStart => exact ⟨rfl, rfl⟩
    case round =>
      obtain ⟨rfl, rfl⟩ := hrel
      go_wp2_with (go_at_call 103; refine (rmay3_c _ hq _).mono ?_; rintro e w' ⟨rfl, rfl⟩; rw [h'])
      go_ret
      exact ⟨ret_bool hsb.out.symm, rfl⟩

/-- the last number of k that is not 0; -1, if there is none. -/
def dAt (l : List Int) (q : Int) : Nat → Int
  | 0 => -1
  | k + 1 => if cAt l k q = 0 then dAt l q k else k
def pDeg (l : List Int) (q : Int) : Int := if okm q then dAt l q l.length else -1

set_option maxRecDepth 100000 in
set_option maxHeartbeats 2000000 in
theorem pdeg_c (A : Option Addr) (l : List Int) (c : Nat) (q : Int) (w : World) (hA : Cells w A (l.map (.int .u64))) (hl : l.length ≤ 1000000) (hu : U64s l) (hq : U64 q) :
    Calls Try.prog 60 #[.slice A l.length c, .int .u64 q] w fun e w' => e = .returned (.int .i64 (pDeg l q)) ∧ w = w' := by
  by_cases h : okm q = true
  · have hps := hid (show pDeg l q = dAt l q l.length by unfold pDeg; rw [if_pos h])
    have h0 := okm_pos h
    have h1 := okm_le h
    go_enter Try.func60, Try.ntmps60
    go_wp2
    go_loopw [5] (fun i wr => ∃ k : Nat, i = .int .i64 ((k : Int) - 1) ∧ k ≤ l.length ∧ dAt l q k = dAt l q l.length ∧ w = wr) (fun i _ => (intOf i + 1).toNat)
    case atStart => exact ⟨l.length, rfl, Nat.le_refl _, rfl, rfl⟩
    case round =>
      obtain ⟨k, rfl, hk, hd, rfl⟩ := hrel
      cases k with
      | zero =>
        have HD := hid hd
        clear hd
        go_wp2
        go_ret
        refine ⟨ret_int ?_, rfl⟩
        rw [hps.out, ← HD.out]; rfl
      | succ k =>
        obtain ⟨z, hz⟩ := get_of_lt (l := l) (show k < l.length by omega)
        obtain ⟨o2, off2, rfl, hcz⟩ := hA.at_map hz
        obtain ⟨z0, z1⟩ := hu.at_ hz
        have he := cAt_in hz q
        have hi : ((k + 1 : Nat) : Int) - 1 = (k : Int) := by omega
        have hm0 := Int.emod_nonneg z (b := q) (by omega)
        have hm1 := Int.emod_lt_of_pos z h0
        rw [hi]
        by_cases hzero : z % q = 0
        · have hstep : dAt l q k = dAt l q l.length := by rw [← hd, dAt, if_pos (by rw [he]; exact hzero)]
          have HS := hid hstep
          have hbq : (z % q == 0) = true := beq_iff_eq.2 hzero
          clear hd he hz hstep hzero
          go_wp2_with (go_at_call 101; refine (pmay_c _ hq _).mono ?_; rintro e w' ⟨rfl, rfl⟩; rw [h])
          go_roundw
          case rel => exact ⟨k, rfl, by omega, HS.out, trivial⟩
          case measure => simp [intOf]
        · have hstep : (k : Int) = pDeg l q := by rw [hps.out, ← hd, dAt, if_neg (by rw [he]; exact hzero)]
          have HS := hid hstep
          have hbq : (z % q == 0) = false := beq_eq_false_iff_ne.2 hzero
          clear hd he hz hstep
          go_wp2_with (go_at_call 101; refine (pmay_c _ hq _).mono ?_; rintro e w' ⟨rfl, rfl⟩; rw [h])
          go_ret
          exact ⟨ret_int HS.out, rfl⟩
  · have h' : okm q = false := by simpa using h
    have hps := hid (show pDeg l q = -1 by unfold pDeg; rw [if_neg h])
    go_enter Try.func60, Try.ntmps60
    go_wp2
    go_loopw [5] (fun i wr => ∃ k : Nat, i = .int .i64 ((k : Int) - 1) ∧ k ≤ l.length ∧ w = wr) (fun i _ => (intOf i + 1).toNat)
    case atStart => exact ⟨l.length, rfl, Nat.le_refl _, rfl⟩
    case round =>
      obtain ⟨k, rfl, hk, rfl⟩ := hrel
      cases k with
      | zero =>
        go_wp2
        go_ret
        exact ⟨ret_int hps.out.symm, rfl⟩
      | succ k =>
        have hi : ((k + 1 : Nat) : Int) - 1 = (k : Int) := by omega
        rw [hi]
        go_wp2_with (go_at_call 101; refine (pmay_c _ hq _).mono ?_; rintro e w' ⟨rfl, rfl⟩; rw [h'])
        go_roundw
        case rel => exact ⟨k, rfl, by omega, trivial⟩
        case measure => simp [intOf]

set_option maxRecDepth 100000 in
set_option maxHeartbeats 2000000 in
theorem rdeg_c (A : Option Addr) (l : List Int) (c : Nat) (q : Int) (w : World) (hA : Cells w A (l.map (.int .u64))) (hl : l.length ≤ 1000000) (hu : U64s l) (hq : U64 q) :
    Calls Try.prog 69 #[.slice A l.length c, .int .u64 q] w fun e w' => e = .returned (.int .i64 (pDeg l q)) ∧ w = w' := by
  by_cases h : okm q = true
  · have hps := hid (show pDeg l q = dAt l q l.length by unfold pDeg; rw [if_pos h])
    have h0 := okm_pos h
    have h1 := okm_le h
    go_enter Try.func69, Try.ntmps69
    go_wp2
    go_loopw [5, 6] (fun n i wr => ∃ k : Nat, i = .int .i64 k ∧ k ≤ l.length ∧ n = .int .i64 (dAt l q k) ∧ w = wr) (fun _ i _ => l.length - (intOf i).toNat)
    case atStart => exact ⟨0, rfl, by omega, rfl, rfl⟩
    case round =>
      obtain ⟨k, rfl, hk, rfl, rfl⟩ := hrel
      by_cases hlt : k < l.length
      · obtain ⟨z, hz⟩ := get_of_lt hlt
        obtain ⟨o2, off2, rfl, hcz⟩ := hA.at_map hz
        obtain ⟨z0, z1⟩ := hu.at_ hz
        have he := cAt_in hz q
        have hm0 := Int.emod_nonneg z (b := q) (by omega)
        have hm1 := Int.emod_lt_of_pos z h0
        by_cases hzero : z % q = 0
        · have hstep : dAt l q (k + 1) = dAt l q k := by rw [dAt, if_pos (by rw [he]; exact hzero)]
          have HS := hid hstep
          have hbq : (z % q != 0) = false := by rw [bne, beq_iff_eq.2 hzero]; rfl
          clear he hz hstep hzero
          go_wp2_with (go_at_call 103; refine (rmay3_c _ hq _).mono ?_; rintro e w' ⟨rfl, rfl⟩; rw [h])
          go_roundw
          case rel => exact ⟨k + 1, by go_num, by omega, by rw [HS.out], trivial⟩
          case measure => simp [intOf]; omega
        · have hstep : dAt l q (k + 1) = (k : Int) := by rw [dAt, if_neg (by rw [he]; exact hzero)]
          have HS := hid hstep
          have hbq : (z % q != 0) = true := bne_iff_ne.2 hzero
          clear he hz hstep
          go_wp2_with (go_at_call 103; refine (rmay3_c _ hq _).mono ?_; rintro e w' ⟨rfl, rfl⟩; rw [h])
          go_roundw
          case rel => exact ⟨k + 1, by go_num, by omega, by rw [HS.out], trivial⟩
          case measure => simp [intOf]; omega
      · obtain rfl : k = l.length := by omega
        go_wp2
        go_ret
        exact ⟨ret_int hps.out.symm, rfl⟩
  · have h' : okm q = false := by simpa using h
    have hps := hid (show pDeg l q = -1 by unfold pDeg; rw [if_neg h])
    go_enter Try.func69, Try.ntmps69
    go_wp2
    go_loopw [5, 6] (fun n i wr => n = .int .i64 (-1) ∧ i = .int .i64 0 ∧ w = wr) (fun _ _ _ => 0)
    case atStart => exact ⟨rfl, rfl, rfl⟩
    case round =>
      obtain ⟨rfl, rfl, rfl⟩ := hrel
      by_cases hlt : 0 < l.length
      all_goals
        go_wp2_with (go_at_call 103; refine (rmay3_c _ hq _).mono ?_; rintro e w' ⟨rfl, rfl⟩; rw [h'])
        go_ret
        exact ⟨ret_int hps.out.symm, rfl⟩

end Go.Proofs.Ytnmadmcegdpecaa
