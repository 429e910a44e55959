/-
  Polynomials: may, coefficients, multiples: the program's and the reference's.
  Sums of polynomials; are two the same: the program's and the reference's.
  Products of polynomials: the program's and the reference's.
  The reference's products of polynomials; degrees.
  Are two polynomials the same; degrees: the program's and the reference's.
  Numbers told and written over; a polynomial divided by one of the power 1.
-/
import Derived.Test.YtnmadmcegdpecaaMul
import Derived.Test.YtnmadmcegdpecaaOwn
import Derived.Test.YtnmadmcegdpecaaBivA
import Derived.Test.YtnmadmcegdpecaaFixC
import Derived.Test.YtnmadmcegdpecaaRegionB
import Derived.Test.YtnmadmcegdpecaaMany
import Derived.Test.YtnmadmcegdpecaaCmp

section
namespace Go.Proofs.Ytnmadmcegdpecaa
open Go.RowKit

attribute [local go_sem] Oper.semAt_some

set_option maxHeartbeats 400000 in
theorem pmay_c (m : Int) (hm : U64 m) (w : World) :
    Calls Try.prog 101 #[.int .u64 m] w fun e w' => e = .returned (.bool (okm m)) ∧ w = w' := by
  obtain ⟨h0, h1⟩ := hm
  by_cases h : 0 < m
  · go_enter Try.func101, Try.ntmps101
    go_wp2
    go_ret
    exact ⟨by simp [okm, h], rfl⟩
  · have hd : decide (0 < m) = false := by simpa using h
    go_enter Try.func101, Try.ntmps101
    go_wp2
    go_ret
    exact ⟨by simp [okm, hd], rfl⟩
set_option maxHeartbeats 400000 in
theorem rmay3_c (m : Int) (hm : U64 m) (w : World) :
    Calls Try.prog 103 #[.int .u64 m] w fun e w' => e = .returned (.bool (okm m)) ∧ w = w' := by
  obtain ⟨h0, h1⟩ := hm
  by_cases h : 0 < m
  · go_enter Try.func103, Try.ntmps103
    go_wp2
    go_ret
    exact ⟨by simp [okm, h], rfl⟩
  · have hd : decide (0 < m) = false := by simpa using h
    go_enter Try.func103, Try.ntmps103
    go_wp2
    go_ret
    exact ⟨by simp [okm, hd], rfl⟩

/-- a coefficient modulo q, 0 behind the end. -/
def cAt (l : List Int) (i : Nat) (q : Int) : Int := l.getD i 0 % q
theorem cAt_in {l : List Int} {i : Nat} {z : Int} (h : l[i]? = some z) (q : Int) : cAt l i q = z % q := by unfold cAt; rw [List.getD_eq_getElem?_getD, h]; rfl
theorem cAt_out {l : List Int} {i : Nat} (h : l.length ≤ i) (q : Int) : cAt l i q = 0 := by unfold cAt; rw [List.getD_eq_getElem?_getD, List.getElem?_eq_none h]; simp
theorem cAt_u64 (l : List Int) (i : Nat) {q : Int} (h : okm q = true) : U64 (cAt l i q) := mod_u64 h

theorem r3at_c (A : Option Addr) (l : List Int) (c i : Nat) (q : Int) (w : World) (hA : Cells w A (l.map (.int .u64))) (_ : l.length ≤ 9223372036854775807) (_ : i ≤ 9223372036854775807) (hu : U64s l) (hq : okm q = true) :
    Calls Try.prog 105 #[.slice A l.length c, .int .i64 i, .int .u64 q] w fun e w' => e = .returned (.int .u64 (cAt l i q)) ∧ w = w' := by
  have h0 := okm_pos hq
  have h1 := okm_le hq
  by_cases hin : i < l.length
  · obtain ⟨z, hz⟩ := get_of_lt hin
    obtain ⟨o2, off2, rfl, hcz⟩ := hA.at_map hz
    obtain ⟨z0, z1⟩ := hu.at_ hz
    have he := hid (cAt_in hz q)
    have hm0 := Int.emod_nonneg z (b := q) (by omega)
    have hm1 := Int.emod_lt_of_pos z h0
    clear hz
    go_enter Try.func105, Try.ntmps105
    go_wp2
    go_ret
    exact ⟨ret_int he.out.symm, rfl⟩
  · have he := hid (cAt_out (l := l) (i := i) (by omega) q)
    go_enter Try.func105, Try.ntmps105
    go_wp2
    go_ret
    exact ⟨ret_int he.out.symm, rfl⟩

theorem over1_c (A : Option Addr) (l : List Int) (c i g1 g2 : Nat) (q : Int) (w : World) (hr1 : Row1 w g1 26 [.slice A l.length c]) (hr2 : Row1 w g2 23 [.int .u64 q]) (hA : Cells w A (l.map (.int .u64))) (_ : l.length ≤ 9223372036854775807) (_ : i ≤ 9223372036854775807) (hu : U64s l) (hq : okm q = true) :
    Calls Try.prog 116 #[.int .i64 i, .pointer (some ⟨g1, 0, none⟩), .pointer (some ⟨g2, 0, none⟩)] w fun e w' => e = .returned (.int .u64 (cAt l i q)) ∧ Dr w w' := by
  have h0 := okm_pos hq
  have h1 := okm_le hq
  have c1 := hr1.cell (k := 0) rfl
  have c2 := hr2.cell (k := 0) rfl
  by_cases hin : i < l.length
  · obtain ⟨z, hz⟩ := get_of_lt hin
    obtain ⟨o2, off2, rfl, hcz⟩ := hA.at_map hz
    obtain ⟨z0, z1⟩ := hu.at_ hz
    have he := hid (cAt_in hz q)
    have hm0 := Int.emod_nonneg z (b := q) (by omega)
    have hm1 := Int.emod_lt_of_pos z h0
    clear hz
    go_enter Try.func116, Try.ntmps116
    go_wp2
    go_quiet (fail)
    go_wp2
    go_ret
    exact ⟨ret_int he.out.symm, _, rfl⟩
  · have he := hid (cAt_out (l := l) (i := i) (by omega) q)
    go_enter Try.func116, Try.ntmps116
    go_wp2
    go_ret
    exact ⟨ret_int he.out.symm, Dr.refl _⟩

theorem over_c (A : Option Addr) (n c : Nat) (q : Int) (w : World) :
    Calls Try.prog 104 #[.slice A n c, .int .u64 q] w fun e w' => ∃ g1 g2, e = .returned (.func (.func 116) #[] #[.pointer (some ⟨g1, 0, none⟩), .pointer (some ⟨g2, 0, none⟩)]) ∧ Row1 w' g1 26 [.slice A n c] ∧ Row1 w' g2 23 [.int .u64 q] ∧ Below w.heap.size w w' ∧ w.heap.size ≤ g1 ∧ w.heap.size ≤ g2 := by
  go_enter Try.func104, Try.ntmps104
  go_wp2
  go_ret
  refine ⟨_, _, rfl, (row1_new w [.slice A n c] 26).alloc _, ?_, (below_alloc w _).alloc (by simp) _, Nat.le_refl _, by simp⟩
  have := row1_new (w.alloc (.cells #[.slice A n c] 26)) [.int .u64 q] 23
  simpa using this

/-- a multiple. -/
def pScale (a : List Int) (k q : Int) : List Int := if okm q then a.map fun c => mMul c k q else []

set_option maxHeartbeats 1000000 in
theorem pscale_c (A : Option Addr) (a : List Int) (c : Nat) (k q : Int) (w : World) (hA : Cells w A (a.map (.int .u64))) (hl : a.length ≤ 17592186044416) (hu : U64s a) (hk : U64 k) (hq : U64 q) :
    Calls Try.prog 62 #[.slice A a.length c, .int .u64 k, .int .u64 q] w (NewNums (pScale a k q) w) := by
  by_cases h : okm q = true
  · have hlen : (a.map fun c => mMul c k q).length = a.length := by simp
    have hps : Hid (pScale a k q = a.map fun c => mMul c k q) := hid (by unfold pScale; rw [if_pos h])
    go_enter Try.func62, Try.ntmps62
    go_wp2_with (first | (go_at_call 101; refine (pmay_c _ hq _).mono ?_; rintro e w' ⟨rfl, rfl⟩; rw [h]) | (at_make; refine wpList_make_row elt_u64 _ rfl _ _ rfl .i64 .i64 _ _ a.length rfl rfl rfl rfl (by omega) (by omega) ?_; intro w1 hr1 hs1 hb1))
    go_loopw [8, 9, 18] (fun _ _ i wr => ∃ j : Nat, i = .int .i64 j ∧ j ≤ a.length ∧ Row1 wr w.heap.size 23 (filled (a.map fun c => mMul c k q) a.length j) ∧ Below w.heap.size w wr) (fun _ _ i _ => a.length - (intOf i).toNat)
    case atStart => exact ⟨0, rfl, by omega, by rw [filled_zero]; exact hr1, hb1⟩
    case round =>
      obtain ⟨j, rfl, hj, hr, hb⟩ := hrel
      by_cases hlt : j < a.length
      · obtain ⟨z, hz⟩ := get_of_lt hlt
        obtain ⟨o2, off2, rfl, hcz⟩ := (hA.keep fun p hp => hb.cell hp).at_map hz
        have huz := hu.at_ hz
        have hz2 : (a.map fun c => mMul c k q)[j]? = some (mMul z k q) := by rw [List.getElem?_map, hz]; rfl
        clear hz
        go_wp2_with (go_at_call 33; refine (mul_c _ _ _ huz hk hq _).mono ?_; rintro e w2 ⟨rfl, hw2⟩; have hc2 := (hr.dr hw2).cell (filled_at _ _ _ hlt hlen); have hf2 := (hr.dr hw2).frozen j)
        go_roundw
        case rel => exact ⟨j + 1, by go_num, by omega, by rw [← filled_set _ _ _ _ hlt hlen hz2]; exact (hr.dr hw2).set j _, (below_dr hb hw2).setCell (by simp) _⟩
        case measure => simp [intOf]; omega
      · obtain rfl : j = a.length := by omega
        go_wp2
        go_ret
        refine ⟨_, rfl, ?_, hb⟩
        rw [filled_all _ _ hlen] at hr
        have := hr.own (Nat.le_refl _) (by simp; omega)
        rw [hps.out]
        simpa [hlen] using this
  · have h' : okm q = false := by simpa using h
    go_enter Try.func62, Try.ntmps62
    go_wp2_with (go_at_call 101; refine (pmay_c _ hq _).mono ?_; rintro e w' ⟨rfl, rfl⟩; rw [h'])
    go_ret
    have : pScale a k q = [] := by unfold pScale; rw [if_neg h]
    rw [this]
    exact ⟨_, rfl, Own.nil _ _ _, Below.refl _ _⟩

set_option maxHeartbeats 1000000 in
theorem rscale_c (A : Option Addr) (a : List Int) (c : Nat) (k q : Int) (w : World) (hA : Cells w A (a.map (.int .u64))) (hl : a.length ≤ 17592186044416) (hu : U64s a) (hk : U64 k) (hq : U64 q) :
    Calls Try.prog 66 #[.slice A a.length c, .int .u64 k, .int .u64 q] w (NewNums (pScale a k q) w) := by
  by_cases h : okm q = true
  · have hps : Hid (pScale a k q = a.map fun c => mMul c k q) := hid (by unfold pScale; rw [if_pos h])
    go_enter Try.func66, Try.ntmps66
    go_wp2
    go_loopw [7, 8] (fun o i wr => ∃ j : Nat, i = .int .i64 j ∧ j ≤ a.length ∧ Own wr w.heap.size 23 o (((a.map fun c => mMul c k q).take j).map (.int .u64)) ∧ Below w.heap.size w wr) (fun _ i _ => a.length - (intOf i).toNat)
    case atStart => exact ⟨0, rfl, by omega, by simpa using Own.nil w w.heap.size 23, Below.refl _ _⟩
    case round =>
      obtain ⟨j, rfl, hj, hown, hb⟩ := hrel
      by_cases hlt : j < a.length
      · obtain ⟨z, hz⟩ := get_of_lt hlt
        obtain ⟨o2, off2, rfl, hcz⟩ := (hA.keep fun p hp => hb.cell hp).at_map hz
        have huz := hu.at_ hz
        have hz2 : (a.map fun c => mMul c k q)[j]? = some (mMul z k q) := by rw [List.getElem?_map, hz]; rfl
        have hs : ((a.map fun c => mMul c k q).take j).map (Value.int .u64) ++ [Value.int .u64 (mMul z k q)] = ((a.map fun c => mMul c k q).take (j + 1)).map (Value.int .u64) := by
          rw [take_snoc' hz2]; simp
        have hlen : (((a.map fun c => mMul c k q).take j).map (Value.int .u64)).length = j := by simp; omega
        have HS := hid (⟨hs, hlen⟩ : _ ∧ _)
        clear hz hz2 hs hlen
        go_wp2_with (first | (go_at_call 103; refine (rmay3_c _ hq _).mono ?_; rintro e w' ⟨rfl, rfl⟩; rw [h]) | (go_at_call 78; refine (rmul_c _ _ _ huz hk hq _).mono ?_; rintro e w2 ⟨rfl, hw2⟩) | (at_builtin; refine wpList_push elt_u64 _ rfl _ _ rfl w.heap.size (hown.dr hw2) rfl (.int .u64 (mMul z k q)) rfl rfl (by rw [HS.out.2]; omega) (by rw [HS.out.2]; omega) (by have := hb.size; rw [hw2.size]; omega) ?_; intro v' w3 hown5 _ hb5))
        go_roundw
        case rel =>
          rw [HS.out.1] at hown5
          exact ⟨j + 1, by go_num, by omega, hown5, (below_dr hb hw2).trans hb5⟩
        case measure => simp [intOf]; omega
      · obtain rfl : j = a.length := by omega
        go_wp2_with (go_at_call 103; refine (rmay3_c _ hq _).mono ?_; rintro e w' ⟨rfl, rfl⟩; rw [h])
        go_ret
        rw [List.take_of_length_le (by simp)] at hown
        exact ⟨_, rfl, by rw [hps.out]; exact hown, hb⟩
  · have h' : okm q = false := by simpa using h
    go_enter Try.func66, Try.ntmps66
    go_wp2
    go_loopw [7, 8] (fun o i wr => o = .slice none 0 0 ∧ i = .int .i64 0 ∧ w = wr) (fun _ _ _ => 0)
    case atStart => exact ⟨rfl, rfl, rfl⟩
    case round =>
      obtain ⟨rfl, rfl, rfl⟩ := hrel
      go_wp2_with (go_at_call 103; refine (rmay3_c _ hq _).mono ?_; rintro e w' ⟨rfl, rfl⟩; rw [h'])
      go_ret
      have : pScale a k q = [] := by unfold pScale; rw [if_neg h]
      rw [this]
      exact ⟨_, rfl, Own.nil _ _ _, Below.refl _ _⟩

end Go.Proofs.Ytnmadmcegdpecaa
end

section
namespace Go.Proofs.Ytnmadmcegdpecaa
open Go.RowKit

attribute [local go_sem] Oper.semAt_some

/-- a sum. -/
def sumL (a b : List Int) (q : Int) : List Int := (List.range (max a.length b.length)).map fun i => mAdd (cAt a i q) (cAt b i q) q
def pSum (a b : List Int) (q : Int) : List Int := if okm q then sumL a b q else []
theorem sumL_len (a b : List Int) (q : Int) : (sumL a b q).length = max a.length b.length := by simp [sumL]
theorem sumL_at (a b : List Int) (q : Int) {i : Nat} (h : i < max a.length b.length) : (sumL a b q)[i]? = some (mAdd (cAt a i q) (cAt b i q) q) := by
  unfold sumL; rw [List.getElem?_map, List.getElem?_range h]; rfl

set_option maxHeartbeats 1000000 in
theorem psum_c (A B : Option Addr) (a b : List Int) (c d : Nat) (q : Int) (w : World) (hA : Cells w A (a.map (.int .u64))) (hB : Cells w B (b.map (.int .u64))) (hl : a.length ≤ 1000000) (hl' : b.length ≤ 1000000) (hu : U64s a) (hu' : U64s b) (hq : U64 q) :
    Calls Try.prog 61 #[.slice A a.length c, .slice B b.length d, .int .u64 q] w (NewNums (pSum a b q) w) := by
  by_cases h : okm q = true
  · have hps : Hid (pSum a b q = sumL a b q) := hid (by unfold pSum; rw [if_pos h])
    have hlen := sumL_len a b q
    obtain ⟨n, hn⟩ : ∃ n, max a.length b.length = n := ⟨_, rfl⟩
    have hat : ∀ i, i < n → (sumL a b q)[i]? = some (mAdd (cAt a i q) (cAt b i q) q) := fun i hi => sumL_at a b q (by omega)
    have hni : max (a.length : Int) (b.length : Int) = (n : Int) := by omega
    have hnl : n ≤ 1000000 := by omega
    rw [hn] at hlen
    have HS := hid (⟨hlen, hat, hni⟩ : _ ∧ _ ∧ _)
    generalize sumL a b q = s at *
    clear hat hn hni
    go_enter Try.func61, Try.ntmps61
    go_wp2_with (go_at_call 101; refine (pmay_c _ hq _).mono ?_; rintro e w' ⟨rfl, rfl⟩; rw [h])
    refine (over_c A a.length c q w).mono ?_
    rintro e w1 ⟨g1, g2, rfl, r1, r2, hb1, _, _⟩
    go_wp2_with (fail)
    refine (over_c B b.length d q w1).mono ?_
    rintro e w2 ⟨g3, g4, rfl, r3, r4, hb2, _, _⟩
    have R1 := r1.below hb2
    have R2 := r2.below hb2
    have hb3 := below_next hb1 hb1.size hb2
    have hA2 := hA.keep fun p hp => hb3.cell hp
    have hB2 := hB.keep fun p hp => hb3.cell hp
    clear r1 r2 hb1 hb2
    go_wp2_with (at_make; refine wpList_make_row elt_u64 _ rfl _ _ rfl .i64 .i64 _ _ n rfl rfl HS.out.2.2 HS.out.2.2 (by omega) (by omega) ?_; intro w3 hr3 hs3 hb4)
    go_loopw [10, 28] (fun _ i wr => ∃ j : Nat, i = .int .i64 j ∧ j ≤ n ∧ Row1 wr w2.heap.size 23 (filled s n j) ∧ Below w2.heap.size w2 wr) (fun _ i _ => n - (intOf i).toNat)
    case atStart => exact ⟨0, rfl, by omega, by rw [filled_zero]; exact hr3, hb4⟩
    case round =>
      obtain ⟨j, rfl, hj, hr, hb⟩ := hrel
      by_cases hlt : j < n
      · have hz2 := HS.out.2.1 j hlt
        have R1' := R1.below hb
        have R2' := R2.below hb
        have R3' := r3.below hb
        have R4' := r4.below hb
        have hA3 := hA2.keep fun p hp => hb.cell hp
        have hB3 := hB2.keep fun p hp => hb.cell hp
        go_wp2_with (fail)
        refine (over1_c A a c j g1 g2 q wr R1' R2' hA3 (by omega) (by omega) hu h).mono ?_
        rintro e w5 ⟨rfl, hw5⟩
        go_wp2_with (fail)
        refine (over1_c B b d j g3 g4 q w5 (R3'.dr hw5) (R4'.dr hw5) (hB3.dr hw5) (by omega) (by omega) hu' h).mono ?_
        rintro e w6 ⟨rfl, hw6⟩
        go_wp2_with (go_at_call 32; refine (add_c _ _ _ (cAt_u64 a j h) (cAt_u64 b j h) hq _).mono ?_; rintro e w7 ⟨rfl, hw7⟩; have hr7 := ((hr.dr hw5).dr hw6).dr hw7; have hc7 := hr7.cell (filled_at _ _ _ hlt HS.out.1); have hf7 := hr7.frozen j)
        go_roundw
        case rel => exact ⟨j + 1, by go_num, by omega, by rw [← filled_set _ _ _ _ hlt HS.out.1 hz2]; exact hr7.set j _, (below_dr (below_dr (below_dr hb hw5) hw6) hw7).setCell (by simp) _⟩
        case measure => simp [intOf]; omega
      · obtain rfl : j = n := by omega
        go_wp2
        go_ret
        refine ⟨_, rfl, ?_, below_next hb3 hb3.size hb⟩
        rw [filled_all _ _ HS.out.1] at hr
        have h9 := (hr.own (Nat.le_refl _) (by rw [List.length_map, HS.out.1]; omega)).from_ hb3.size
        rw [List.length_map, HS.out.1] at h9
        rw [hps.out]
        exact h9
  · have h' : okm q = false := by simpa using h
    go_enter Try.func61, Try.ntmps61
    go_wp2_with (go_at_call 101; refine (pmay_c _ hq _).mono ?_; rintro e w' ⟨rfl, rfl⟩; rw [h'])
    go_ret
    have : pSum a b q = [] := by unfold pSum; rw [if_neg h]
    rw [this]
    exact ⟨_, rfl, Own.nil _ _ _, Below.refl _ _⟩

set_option maxRecDepth 100000 in
set_option maxHeartbeats 2000000 in
theorem rsum_c (A B : Option Addr) (a b : List Int) (c d : Nat) (q : Int) (w : World) (hA : Cells w A (a.map (.int .u64))) (hB : Cells w B (b.map (.int .u64))) (hl : a.length ≤ 1000000) (hl' : b.length ≤ 1000000) (hu : U64s a) (hu' : U64s b) (hq : U64 q) :
    Calls Try.prog 65 #[.slice A a.length c, .slice B b.length d, .int .u64 q] w (NewNums (pSum a b q) w) := by
  by_cases h : okm q = true
  · have hps : Hid (pSum a b q = sumL a b q) := hid (by unfold pSum; rw [if_pos h])
    have hlen := sumL_len a b q
    obtain ⟨n, hn⟩ : ∃ n, max a.length b.length = n := ⟨_, rfl⟩
    have hat : ∀ i, i < n → (sumL a b q)[i]? = some (mAdd (cAt a i q) (cAt b i q) q) := fun i hi => sumL_at a b q (by omega)
    have hnl : n ≤ 1000000 := by omega
    rw [hn] at hlen
    have HS := hid (⟨hlen, hat⟩ : _ ∧ _)
    generalize sumL a b q = s at *
    clear hat hlen
    go_enter Try.func65, Try.ntmps65
    go_wp2
    go_loopw [7, 8] (fun o i wr => ∃ j : Nat, i = .int .i64 j ∧ j ≤ n ∧ Own wr w.heap.size 23 o ((s.take j).map (.int .u64)) ∧ Below w.heap.size w wr) (fun _ i _ => n - (intOf i).toNat)
    case atStart => exact ⟨0, rfl, by omega, by simpa using Own.nil w w.heap.size 23, Below.refl _ _⟩
    case round =>
      obtain ⟨j, rfl, hj, hown, hb⟩ := hrel
      by_cases hlt : j < n
      · have hz2 := HS.out.2 j hlt
        have hs : (s.take j).map (Value.int .u64) ++ [Value.int .u64 (mAdd (cAt a j q) (cAt b j q) q)] = (s.take (j + 1)).map (Value.int .u64) := by
          rw [take_snoc' hz2]; simp
        have hlen : ((s.take j).map (Value.int .u64)).length = j := by have := HS.out.1; simp; omega
        have HT := hid (⟨hs, hlen⟩ : _ ∧ _)
        have hA3 := hA.keep fun p hp => hb.cell hp
        have hB3 := hB.keep fun p hp => hb.cell hp
        clear hs hlen hz2
        have hor : j < a.length ∨ (¬ j < a.length ∧ j < b.length) := by omega
        rcases hor with hja | ⟨hja, hjb⟩
        all_goals
          go_wp2_with (first | (go_at_call 103; refine (rmay3_c _ hq _).mono ?_; rintro e w' ⟨rfl, rfl⟩; rw [h]) | (go_at_call 80; refine (radd_c _ _ _ (cAt_u64 a j h) (cAt_u64 b j h) hq _).mono ?_; rintro e w2 ⟨rfl, hw2⟩) | (at_builtin; refine wpList_push elt_u64 _ rfl _ _ rfl w.heap.size (hown.dr hw2) rfl (.int .u64 (mAdd (cAt a j q) (cAt b j q) q)) rfl rfl (by rw [HT.out.2]; omega) (by rw [HT.out.2]; omega) (by have := hb.size; have := Dr.size hw2; omega) ?_; intro v' w3 hown5 _ hb5))
          refine (r3at_c A a c j q _ hA3 (by omega) (by omega) hu h).mono ?_
          rintro e w5 ⟨rfl, rfl⟩
          go_wp2_with (fail)
          refine (r3at_c B b d j q _ hB3 (by omega) (by omega) hu' h).mono ?_
          rintro e w5 ⟨rfl, rfl⟩
          go_wp2_with (first | (go_at_call 80; refine (radd_c _ _ _ (cAt_u64 a j h) (cAt_u64 b j h) hq _).mono ?_; rintro e w2 ⟨rfl, hw2⟩) | (at_builtin; refine wpList_push elt_u64 _ rfl _ _ rfl w.heap.size (hown.dr hw2) rfl (.int .u64 (mAdd (cAt a j q) (cAt b j q) q)) rfl rfl (by rw [HT.out.2]; omega) (by rw [HT.out.2]; omega) (by have := hb.size; have := Dr.size hw2; omega) ?_; intro v' w3 hown5 _ hb5))
          go_roundw
          case rel =>
            rw [HT.out.1] at hown5
            exact ⟨j + 1, by go_num, by omega, hown5, (below_dr hb hw2).trans hb5⟩
          case measure => simp [intOf]; omega
      · obtain rfl : j = n := by omega
        have h1 : ¬ j < a.length := by omega
        have h2 : ¬ j < b.length := by omega
        go_wp2_with (go_at_call 103; refine (rmay3_c _ hq _).mono ?_; rintro e w' ⟨rfl, rfl⟩; rw [h])
        go_ret
        rw [List.take_of_length_le (by rw [HS.out.1]; exact Nat.le_refl _)] at hown
        exact ⟨_, rfl, by rw [hps.out]; exact hown, hb⟩
  · have h' : okm q = false := by simpa using h
    go_enter Try.func65, Try.ntmps65
    go_wp2
    go_loopw [7, 8] (fun o i wr => o = .slice none 0 0 ∧ i = .int .i64 0 ∧ w = wr) (fun _ _ _ => 0)
    case atStart => exact ⟨rfl, rfl, rfl⟩
    case round =>
      obtain ⟨rfl, rfl, rfl⟩ := hrel
      go_wp2_with (go_at_call 103; refine (rmay3_c _ hq _).mono ?_; rintro e w' ⟨rfl, rfl⟩; rw [h'])
      go_ret
      have : pSum a b q = [] := by unfold pSum; rw [if_neg h]
      rw [this]
      exact ⟨_, rfl, Own.nil _ _ _, Below.refl _ _⟩

end Go.Proofs.Ytnmadmcegdpecaa
end

section
namespace Go.Proofs.Ytnmadmcegdpecaa
open Go.RowKit

attribute [local go_sem] Oper.semAt_some

/-- number n of a product, of the first i numbers of the first. -/
def tAt (a b : List Int) (q : Int) (n : Nat) : Nat → Int
  | 0 => 0
  | i + 1 => if i < a.length ∧ i ≤ n ∧ n - i < b.length then mAdd (tAt a b q n i) (mMul (a.getD i 0) (b.getD (n - i) 0) q) q else tAt a b q n i
theorem tAt_u64 (a b : List Int) (q : Int) (n : Nat) : ∀ i, U64 (tAt a b q n i)
  | 0 => ⟨by unfold tAt; omega, by unfold tAt; omega⟩
  | i + 1 => by
    unfold tAt; split
    · exact mAdd_u64 _ _ _
    · exact tAt_u64 a b q n i
theorem tAt_step {a b : List Int} {q : Int} {n i : Nat} {x y : Int} (h1 : i ≤ n) (h2 : a[i]? = some x) (h3 : b[n - i]? = some y) : tAt a b q n (i + 1) = mAdd (tAt a b q n i) (mMul x y q) q := by
  have e1 := (List.getElem?_eq_some_iff.1 h2).1
  have e2 := (List.getElem?_eq_some_iff.1 h3).1
  rw [tAt, if_pos ⟨e1, h1, e2⟩, List.getD_eq_getElem?_getD, List.getD_eq_getElem?_getD, h2, h3]; rfl
theorem tAt_same {a b : List Int} {q : Int} {n i : Nat} (h : ¬ (i < a.length ∧ i ≤ n ∧ n - i < b.length)) : tAt a b q n (i + 1) = tAt a b q n i := by rw [tAt, if_neg h]
theorem tAt_end {a b : List Int} {q : Int} {n i : Nat} (h : a.length ≤ i ∨ n < i) : ∀ d, tAt a b q n (i + d) = tAt a b q n i
  | 0 => rfl
  | d + 1 => by
    rw [← Nat.add_assoc, tAt_same (by omega), tAt_end h d]
theorem tAt_both (a b : List Int) (q : Int) (n : Nat) : tAt a b q n a.length = tAt a b q n (n + 1) := by
  rcases Nat.le_total a.length (n + 1) with h | h
  · obtain ⟨d, hd⟩ := Nat.exists_eq_add_of_le h
    rw [hd, tAt_end (.inl (Nat.le_refl _))]
  · obtain ⟨d, hd⟩ := Nat.exists_eq_add_of_le h
    rw [hd, tAt_end (.inr (by omega))]

def timesL (a b : List Int) (q : Int) : List Int := (List.range (a.length + b.length - 1)).map fun n => tAt a b q n (n + 1)
def pTimes (a b : List Int) (q : Int) : List Int := if okm q = true ∧ 0 < a.length ∧ 0 < b.length then timesL a b q else []
/-- the product while it is made. -/
def tRow (a b : List Int) (q : Int) (i k : Nat) : List Int := (List.range (a.length + b.length - 1)).map fun n => if i ≤ n ∧ n - i < k then tAt a b q n (i + 1) else tAt a b q n i
theorem tRow_zero (a b : List Int) (q : Int) : tRow a b q 0 0 = List.replicate (a.length + b.length - 1) 0 := by
  unfold tRow
  rw [List.eq_replicate_iff]
  refine ⟨by simp, fun x hx => ?_⟩
  obtain ⟨n, _, rfl⟩ := List.mem_map.1 hx
  rw [if_neg (by omega)]; rfl
theorem tRow_next {a b : List Int} {q : Int} {i : Nat} (_ : i < a.length) : tRow a b q i b.length = tRow a b q (i + 1) 0 := by
  unfold tRow
  apply List.map_congr_left
  intro n _
  rw [if_neg (by omega : ¬ (i + 1 ≤ n ∧ n - (i + 1) < 0))]
  split
  · rfl
  · rename_i hn
    exact (tAt_same (by omega)).symm
theorem tRow_all (a b : List Int) (q : Int) : tRow a b q a.length 0 = timesL a b q := by
  unfold tRow timesL
  apply List.map_congr_left
  intro n _
  rw [if_neg (by omega), tAt_both]
theorem tRow_at {a b : List Int} {q : Int} {i k : Nat} (h : i + k < a.length + b.length - 1) : (tRow a b q i k)[i + k]? = some (tAt a b q (i + k) i) := by
  unfold tRow
  rw [List.getElem?_map, List.getElem?_range h, Option.map_some, if_neg (by omega)]
theorem tRow_set {a b : List Int} {q : Int} {i k : Nat} {x y : Int} (h : i + k < a.length + b.length - 1) (h2 : a[i]? = some x) (h3 : b[k]? = some y) : (tRow a b q i k).set (i + k) (mAdd (tAt a b q (i + k) i) (mMul x y q) q) = tRow a b q i (k + 1) := by
  apply List.ext_getElem?
  intro j
  rw [List.getElem?_set]
  split
  · rename_i hj
    subst hj
    rw [if_pos (by simp [tRow]; omega)]
    unfold tRow
    rw [List.getElem?_map, List.getElem?_range h, Option.map_some, if_pos (by omega), tAt_step (by omega) h2 (by rw [Nat.add_sub_cancel_left]; exact h3)]
  · rename_i hj
    unfold tRow
    rw [List.getElem?_map, List.getElem?_map]
    rcases Nat.lt_or_ge j (a.length + b.length - 1) with h1 | h1
    · rw [List.getElem?_range h1, Option.map_some, Option.map_some]
      congr 1
      by_cases hc : i ≤ j ∧ j - i < k
      · rw [if_pos hc, if_pos (by omega)]
      · rw [if_neg hc, if_neg (by omega)]
    · rw [List.getElem?_eq_none (by simpa using h1)]; rfl

set_option maxRecDepth 100000 in
set_option maxHeartbeats 2000000 in
theorem ptimes_c (A B : Option Addr) (a b : List Int) (c d : Nat) (q : Int) (w : World) (hA : Cells w A (a.map (.int .u64))) (hB : Cells w B (b.map (.int .u64))) (hl : a.length ≤ 1000000) (hl' : b.length ≤ 1000000) (hu : U64s a) (hu' : U64s b) (hq : U64 q) :
    Calls Try.prog 63 #[.slice A a.length c, .slice B b.length d, .int .u64 q] w (NewNums (pTimes a b q) w) := by
  cases h : okm q with
  | false =>
    have hps : pTimes a b q = [] := by unfold pTimes; rw [if_neg (by simp [h])]
    go_enter Try.func63, Try.ntmps63
    go_wp2_with (go_at_call 101; refine (pmay_c _ hq _).mono ?_; rintro e w' ⟨rfl, rfl⟩; rw [h])
    go_ret
    rw [hps]
    exact ⟨_, rfl, Own.nil _ _ _, Below.refl _ _⟩
  | true =>
    by_cases ha : 0 < a.length
    · by_cases hb : 0 < b.length
      · have hps : Hid (pTimes a b q = timesL a b q) := hid (by unfold pTimes; rw [if_pos ⟨h, ha, hb⟩])
        have ha2 : ((a.length : Int) == 0) = false := beq_eq_false_iff_ne.2 (by omega)
        have hb2 : ((b.length : Int) == 0) = false := beq_eq_false_iff_ne.2 (by omega)
        have hla : (tRow a b q a.length 0).length = a.length + b.length - 1 := by simp [tRow]
        have HLA := hid (⟨hla, tRow_all a b q⟩ : _ ∧ _)
        clear hla
        go_enter Try.func63, Try.ntmps63
        go_wp2_with (first | (go_at_call 101; refine (pmay_c _ hq _).mono ?_; rintro e w' ⟨rfl, rfl⟩; rw [h]) | (at_make; refine wpList_make_row elt_u64 _ rfl _ _ rfl .i64 .i64 _ _ (a.length + b.length - 1) rfl rfl (by go_num) (by go_num) (by omega) (by omega) ?_; intro w1 hr1 hs1 hb1))
        go_loopw [8, 9, 10, 11, 34] (fun _ _ _ _ i wr => ∃ j : Nat, i = .int .i64 j ∧ j ≤ a.length ∧ Row1 wr w.heap.size 23 ((tRow a b q j 0).map (.int .u64)) ∧ Below w.heap.size w wr) (fun _ _ _ _ i _ => a.length - (intOf i).toNat)
        case atStart => exact ⟨0, rfl, by omega, by rw [tRow_zero, List.map_replicate]; exact hr1, hb1⟩
        case round =>
          obtain ⟨i, rfl, hi, hr, hbw⟩ := hrel
          by_cases hlt : i < a.length
          · obtain ⟨x, hx⟩ := get_of_lt hlt
            obtain ⟨o1, off1, rfl, hcx⟩ := (hA.keep fun p hp => hbw.cell hp).at_map hx
            have hux := hu.at_ hx
            have HX := hid hx
            clear hx
            go_wp2
            generalize wr = wo at *
            go_loopw [10, 11, 41] (fun _ _ k wr => ∃ j : Nat, k = .int .i64 j ∧ j ≤ b.length ∧ Row1 wr w.heap.size 23 ((tRow a b q i j).map (.int .u64)) ∧ Below w.heap.size w wr) (fun _ _ k _ => b.length - (intOf k).toNat)
            case atStart => exact ⟨0, rfl, by omega, hr, hbw⟩
            case round =>
              obtain ⟨k, rfl, hk, hr2, hbw2⟩ := hrel
              rename_i wr
              clear hr hbw
              by_cases hltk : k < b.length
              · obtain ⟨y, hy⟩ := get_of_lt hltk
                obtain ⟨o2, off2, rfl, hcy⟩ := (hB.keep fun p hp => hbw2.cell hp).at_map hy
                have huy := hu'.at_ hy
                have hin : i + k < a.length + b.length - 1 := by omega
                have hT := tRow_at (q := q) hin
                have hcT := hr2.cell (k := i + k) (u := .int .u64 (tAt a b q (i + k) i)) (by rw [List.getElem?_map, hT]; rfl)
                have huT := tAt_u64 a b q (i + k) i
                have hset := tRow_set (q := q) hin HX.out hy
                have HSET := hid hset
                have hlen : (tRow a b q i k).length = a.length + b.length - 1 := by simp [tRow]
                clear hy hT hset hlen
                go_wp2
                refine Rgb.wp_region (l := [_, _, _, _, _, _, _, _, _, _, _, _, _, _, _, _]) (tail := [_, _]) (Rgb.grows _ 18) [some 46, some 47, some 48, some 49, some 50, some 51, some 52, some 53, some 54, some 55, some 56, some 57, some 58, some 59, some 60, some 61, some 62, none] 66 (by kernel_rfl) (by kernel_rfl) (by kernel_rfl) rfl (Rgb.grows_fair _ _) (Rgb.keep_drew _) (trivial) ?_
                refine' Rgb.op_is _ [] rfl rfl (by kernel_rfl) ?_ ?_
                rotate_left
                · intro wx hb
                  refine Rgb.from_nil fun T hT => ?_
                  go_wp2
                  refine hT _ _ rfl (by first | exact Rgb.Keep.refl _ | exact below_of_dr hw2 | exact hw2 | exact (Below.refl _ _).alloc (Nat.le_refl _) _) ?_
                  simp only [Rgb.last, List.getElem?_toArray, List.getElem?_cons_succ, List.getElem?_cons_zero, Option.getD_some]
                  rfl
                refine' Rgb.op_is _ [] rfl rfl (by kernel_rfl) ?_ ?_
                rotate_left
                · intro wx hb
                  refine Rgb.from_nil fun T hT => ?_
                  go_wp2
                  refine hT _ _ rfl (by first | exact Rgb.Keep.refl _ | exact below_of_dr hw2 | exact hw2 | exact (Below.refl _ _).alloc (Nat.le_refl _) _) ?_
                  simp only [Rgb.last, List.getElem?_toArray, List.getElem?_cons_succ, List.getElem?_cons_zero, Option.getD_some]
                  rfl
                refine' Rgb.op_is _ [] rfl rfl (by kernel_rfl) ?_ ?_
                rotate_left
                · intro wx hb
                  refine Rgb.from_nil fun T hT => ?_
                  go_wp2
                  refine hT _ _ rfl (by first | exact Rgb.Keep.refl _ | exact below_of_dr hw2 | exact hw2 | exact (Below.refl _ _).alloc (Nat.le_refl _) _) ?_
                  simp only [Rgb.last, List.getElem?_toArray, List.getElem?_cons_succ, List.getElem?_cons_zero, Option.getD_some]
                  rfl
                refine Rgb.op_is (.int .i64 ((i + k : Nat) : Int)) [1, 2] rfl rfl (by kernel_rfl) ?_ ?_
                · intro wx hb
                  refine Rgb.from_is (some 47) rfl rfl ?_
                  refine Rgb.from_is (some 48) rfl rfl ?_
                  refine Rgb.from_nil fun T hT => ?_
                  go_wp2
                  exact hT _ _ rfl (by first | exact Rgb.Keep.refl _ | exact below_of_dr hw2 | exact hw2 | exact (Below.refl _ _).alloc (Nat.le_refl _) _) (by first | rfl | exact congrArg _ (by decide))
                refine' Rgb.op_is _ [] rfl rfl (by kernel_rfl) ?_ ?_
                rotate_left
                · intro wx hb
                  refine Rgb.from_nil fun T hT => ?_
                  go_wp2
                  refine hT _ _ rfl (by first | exact Rgb.Keep.refl _ | exact below_of_dr hw2 | exact hw2 | exact (Below.refl _ _).alloc (Nat.le_refl _) _) ?_
                  simp only [Rgb.last, List.getElem?_toArray, List.getElem?_cons_succ, List.getElem?_cons_zero, Option.getD_some]
                  rfl
                refine' Rgb.op_is _ [] rfl rfl (by kernel_rfl) ?_ ?_
                rotate_left
                · intro wx hb
                  refine Rgb.from_nil fun T hT => ?_
                  go_wp2
                  refine hT _ _ rfl (by first | exact Rgb.Keep.refl _ | exact below_of_dr hw2 | exact hw2 | exact (Below.refl _ _).alloc (Nat.le_refl _) _) ?_
                  simp only [Rgb.last, List.getElem?_toArray, List.getElem?_cons_succ, List.getElem?_cons_zero, Option.getD_some]
                  rfl
                refine' Rgb.op_is _ [] rfl rfl (by kernel_rfl) ?_ ?_
                rotate_left
                · intro wx hb
                  refine Rgb.from_nil fun T hT => ?_
                  go_wp2
                  refine hT _ _ rfl (by first | exact Rgb.Keep.refl _ | exact below_of_dr hw2 | exact hw2 | exact (Below.refl _ _).alloc (Nat.le_refl _) _) ?_
                  simp only [Rgb.last, List.getElem?_toArray, List.getElem?_cons_succ, List.getElem?_cons_zero, Option.getD_some]
                  rfl
                refine Rgb.op_is (.int .i64 ((i + k : Nat) : Int)) [5, 6] rfl rfl (by kernel_rfl) ?_ ?_
                · intro wx hb
                  refine Rgb.from_is (some 51) rfl rfl ?_
                  refine Rgb.from_is (some 52) rfl rfl ?_
                  refine Rgb.from_nil fun T hT => ?_
                  go_wp2
                  exact hT _ _ rfl (by first | exact Rgb.Keep.refl _ | exact below_of_dr hw2 | exact hw2 | exact (Below.refl _ _).alloc (Nat.le_refl _) _) (by first | rfl | exact congrArg _ (by decide))
                refine' Rgb.op_is _ [4, 7] rfl rfl (by kernel_rfl) ?_ ?_
                rotate_left
                · intro wx hb
                  refine Rgb.from_is (some 50) rfl rfl ?_
                  refine Rgb.from_is (some 53) rfl rfl ?_
                  refine Rgb.from_nil fun T hT => ?_
                  go_wp2
                  refine hT _ _ rfl (by first | exact Rgb.Keep.refl _ | exact below_of_dr hw2 | exact hw2 | exact (Below.refl _ _).alloc (Nat.le_refl _) _) ?_
                  simp only [Rgb.last, List.getElem?_toArray, List.getElem?_cons_succ, List.getElem?_cons_zero, Option.getD_some]
                  rfl
                refine Rgb.op_is (.int .u64 (tAt a b q (i + k) i)) [8] rfl rfl (by kernel_rfl) ?_ ?_
                · intro wx hb
                  refine Rgb.from_is (some 54) rfl rfl ?_
                  refine Rgb.from_nil fun T hT => ?_
                  have hc9 := (hb.cell (lt_of_cell hcT)).trans hcT
                  go_wp2
                  exact hT _ _ rfl (by first | exact Rgb.Keep.refl _ | exact below_of_dr hw2 | exact hw2 | exact (Below.refl _ _).alloc (Nat.le_refl _) _) (by first | rfl | exact congrArg _ (by decide))
                refine' Rgb.op_is _ [] rfl rfl (by kernel_rfl) ?_ ?_
                rotate_left
                · intro wx hb
                  refine Rgb.from_nil fun T hT => ?_
                  go_wp2
                  refine hT _ _ rfl (by first | exact Rgb.Keep.refl _ | exact below_of_dr hw2 | exact hw2 | exact (Below.refl _ _).alloc (Nat.le_refl _) _) ?_
                  simp only [Rgb.last, List.getElem?_toArray, List.getElem?_cons_succ, List.getElem?_cons_zero, Option.getD_some]
                  rfl
                refine' Rgb.op_is _ [] rfl rfl (by kernel_rfl) ?_ ?_
                rotate_left
                · intro wx hb
                  refine Rgb.from_nil fun T hT => ?_
                  go_wp2
                  refine hT _ _ rfl (by first | exact Rgb.Keep.refl _ | exact below_of_dr hw2 | exact hw2 | exact (Below.refl _ _).alloc (Nat.le_refl _) _) ?_
                  simp only [Rgb.last, List.getElem?_toArray, List.getElem?_cons_succ, List.getElem?_cons_zero, Option.getD_some]
                  rfl
                refine' Rgb.op_is _ [] rfl rfl (by kernel_rfl) ?_ ?_
                rotate_left
                · intro wx hb
                  refine Rgb.from_nil fun T hT => ?_
                  go_wp2
                  refine hT _ _ rfl (by first | exact Rgb.Keep.refl _ | exact below_of_dr hw2 | exact hw2 | exact (Below.refl _ _).alloc (Nat.le_refl _) _) ?_
                  simp only [Rgb.last, List.getElem?_toArray, List.getElem?_cons_succ, List.getElem?_cons_zero, Option.getD_some]
                  rfl
                refine Rgb.op_is (.int .u64 (mMul x y q)) [10, 11, 12] rfl rfl (by kernel_rfl) ?_ ?_
                · intro wx hb
                  refine Rgb.from_is (some 56) rfl rfl ?_
                  refine Rgb.from_is (some 57) rfl rfl ?_
                  refine Rgb.from_is (some 58) rfl rfl ?_
                  refine Rgb.from_nil fun T hT => ?_
                  go_wp2_with (go_at_call 33; refine (mul_c _ _ _ hux huy hq _).mono ?_; rintro e w5 ⟨rfl, hw5⟩)
                  exact hT _ _ rfl (below_of_dr hw5) rfl
                refine' Rgb.op_is _ [] rfl rfl (by kernel_rfl) ?_ ?_
                rotate_left
                · intro wx hb
                  refine Rgb.from_nil fun T hT => ?_
                  go_wp2
                  refine hT _ _ rfl (by first | exact Rgb.Keep.refl _ | exact below_of_dr hw2 | exact hw2 | exact (Below.refl _ _).alloc (Nat.le_refl _) _) ?_
                  simp only [Rgb.last, List.getElem?_toArray, List.getElem?_cons_succ, List.getElem?_cons_zero, Option.getD_some]
                  rfl
                refine Rgb.op_is (.int .u64 (mAdd (tAt a b q (i + k) i) (mMul x y q) q)) [9, 13, 14] rfl rfl (by kernel_rfl) ?_ ?_
                · intro wx hb
                  refine Rgb.from_is (some 55) rfl rfl ?_
                  refine Rgb.from_is (some 59) rfl rfl ?_
                  refine Rgb.from_is (some 60) rfl rfl ?_
                  refine Rgb.from_nil fun T hT => ?_
                  go_wp2_with (go_at_call 32; refine (add_c _ _ _ huT (mMul_u64 _ _ _) hq _).mono ?_; rintro e w5 ⟨rfl, hw5⟩)
                  exact hT _ _ rfl (below_of_dr hw5) rfl
                refine Rgb.walk_nil [0, 1, 2, 3, 4, 5, 6, 7, 8, 9, 10, 11, 12, 13, 14, 15] (by kernel_rfl) ?_
                intro wx hb
                refine Rgb.from_is (some 46) rfl rfl ?_
                refine Rgb.from_is (some 47) rfl rfl ?_
                refine Rgb.from_is (some 48) rfl rfl ?_
                refine Rgb.from_is (some 49) rfl rfl ?_
                refine Rgb.from_is (some 50) rfl rfl ?_
                refine Rgb.from_is (some 51) rfl rfl ?_
                refine Rgb.from_is (some 52) rfl rfl ?_
                refine Rgb.from_is (some 53) rfl rfl ?_
                refine Rgb.from_is (some 54) rfl rfl ?_
                refine Rgb.from_is (some 55) rfl rfl ?_
                refine Rgb.from_is (some 56) rfl rfl ?_
                refine Rgb.from_is (some 57) rfl rfl ?_
                refine Rgb.from_is (some 58) rfl rfl ?_
                refine Rgb.from_is (some 59) rfl rfl ?_
                refine Rgb.from_is (some 60) rfl rfl ?_
                refine Rgb.from_is (some 61) rfl rfl ?_
                refine Rgb.from_nil ?_
                simp only [List.map, Act.put, List.setIfInBounds_toArray, List.set_cons_zero, List.set_cons_succ]
                have hr5 := hr2.below hb
                have hc5 := (hb.cell (lt_of_cell hcT)).trans hcT
                have hf5 := hr5.frozen (i + k)
                have hr6 := hr5.set (i + k) (.int .u64 (mAdd (tAt a b q (i + k) i) (mMul x y q) q))
                rw [← List.map_set, HSET.out] at hr6
                have hb6 := (below_next hbw2 hbw2.size hb).setCell (p := ⟨w.heap.size, i + k, none⟩) (Nat.le_refl _) (.int .u64 (mAdd (tAt a b q (i + k) i) (mMul x y q) q))
                clear hb hr5 hr2 hbw2 hcT hcy
                go_wp2
                go_roundw
                case rel => exact ⟨k + 1, by go_num, by omega, hr6, hb6⟩
                case measure => simp [intOf]; omega
              · obtain rfl : k = b.length := by omega
                rw [tRow_next hlt] at hr2
                go_wp2
                go_roundw
                case rel => exact ⟨i + 1, by go_num, by omega, hr2, hbw2⟩
                case measure => simp [intOf]; omega
          · obtain rfl : i = a.length := by omega
            go_wp2
            go_ret
            have h9 := hr.own (Nat.le_refl _) (by rw [List.length_map, HLA.out.1]; omega)
            rw [List.length_map, HLA.out.1, HLA.out.2] at h9
            rw [hps.out]
            exact ⟨_, rfl, h9, hbw⟩
      · have hb0 : ((b.length : Int) == 0) = true := beq_iff_eq.2 (by omega)
        have hps : pTimes a b q = [] := by unfold pTimes; rw [if_neg (by omega)]
        have ha2 : ((a.length : Int) == 0) = false := beq_eq_false_iff_ne.2 (by omega)
        rw [hps]
        go_enter Try.func63, Try.ntmps63
        go_wp2_with (go_at_call 101; refine (pmay_c _ hq _).mono ?_; rintro e w' ⟨rfl, rfl⟩; rw [h])
        go_ret
        exact ⟨_, rfl, Own.nil _ _ _, Below.refl _ _⟩
    · have ha0 : ((a.length : Int) == 0) = true := beq_iff_eq.2 (by omega)
      have hps : pTimes a b q = [] := by unfold pTimes; rw [if_neg (by omega)]
      rw [hps]
      go_enter Try.func63, Try.ntmps63
      go_wp2_with (go_at_call 101; refine (pmay_c _ hq _).mono ?_; rintro e w' ⟨rfl, rfl⟩; rw [h])
      go_ret
      exact ⟨_, rfl, Own.nil _ _ _, Below.refl _ _⟩

end Go.Proofs.Ytnmadmcegdpecaa
end

section
namespace Go.Proofs.Ytnmadmcegdpecaa
open Go.RowKit

attribute [local go_sem] Oper.semAt_some

theorem timesL_at (a b : List Int) (q : Int) {n : Nat} (h : n < a.length + b.length - 1) : (timesL a b q)[n]? = some (tAt a b q n (n + 1)) := by
  unfold timesL; rw [List.getElem?_map, List.getElem?_range h]; rfl

set_option maxRecDepth 100000 in
set_option maxHeartbeats 4000000 in
theorem rtimes_c (A B : Option Addr) (a b : List Int) (c d : Nat) (q : Int) (w : World) (hA : Cells w A (a.map (.int .u64))) (hB : Cells w B (b.map (.int .u64))) (hl : a.length ≤ 1000000) (hl' : b.length ≤ 1000000) (hu : U64s a) (hu' : U64s b) (hq : U64 q) :
    Calls Try.prog 67 #[.slice A a.length c, .slice B b.length d, .int .u64 q] w (NewNums (pTimes a b q) w) := by
  by_cases hall : okm q = true ∧ 0 < a.length ∧ 0 < b.length
  · obtain ⟨h, ha, hb⟩ := hall
    have hps : Hid (pTimes a b q = timesL a b q) := hid (by unfold pTimes; rw [if_pos ⟨h, ha, hb⟩])
    have hlen : (timesL a b q).length = a.length + b.length - 1 := by simp [timesL]
    have HL := hid hlen
    clear hlen
    go_enter Try.func67, Try.ntmps67
    go_wp2
    go_loopw [7, 8, 9, 10] (fun o i _ _ wr => ∃ j : Nat, i = .int .i64 j ∧ j ≤ a.length + b.length - 1 ∧ Own wr w.heap.size 23 o (((timesL a b q).take j).map (.int .u64)) ∧ Below w.heap.size w wr) (fun _ i _ _ _ => a.length + b.length - (intOf i).toNat)
    case atStart => exact ⟨0, rfl, by omega, by simpa using Own.nil w w.heap.size 23, Below.refl _ _⟩
    case round =>
      obtain ⟨n, rfl, hn, hown, hbw⟩ := hrel
      by_cases hlt : n < a.length + b.length - 1
      · have hat := timesL_at a b q hlt
        have hs : ((timesL a b q).take n).map (Value.int .u64) ++ [Value.int .u64 (tAt a b q n (n + 1))] = ((timesL a b q).take (n + 1)).map (Value.int .u64) := by
          rw [take_snoc' hat]; simp
        have hlen2 : (((timesL a b q).take n).map (Value.int .u64)).length = n := by have := HL.out; simp; omega
        have hlti : (n : Int) < (a.length : Int) + (b.length : Int) - 1 := by omega
        have HT := hid (⟨hs, hlen2⟩ : _ ∧ _)
        clear hat hs hlen2
        go_wp2_with (go_at_call 103; refine (rmay3_c _ hq _).mono ?_; rintro e w' ⟨rfl, rfl⟩; rw [h])
        generalize wr = wo at *
        go_loopw [9, 10] (fun s i w4 => ∃ k : Nat, i = .int .i64 k ∧ k ≤ n + 1 ∧ s = .int .u64 (tAt a b q n k) ∧ Dr wo w4) (fun _ i _ => n + 1 - (intOf i).toNat)
        case atStart => exact ⟨0, rfl, by omega, rfl, Dr.refl _⟩
        case round =>
          obtain ⟨i, rfl, hi, rfl, hw⟩ := hrel
          rename_i wr
          have hbw2 := below_dr hbw hw
          by_cases hlt2 : i ≤ n
          · obtain ⟨e, he⟩ : ∃ e, n = i + e := ⟨n - i, by omega⟩
            have hj' : (n : Int) - (i : Int) = (e : Int) := by omega
            have hsu := tAt_u64 a b q n i
            by_cases hia : i < a.length
            · by_cases heb : e < b.length
              · obtain ⟨x, hx⟩ := get_of_lt hia
                obtain ⟨y, hy⟩ := get_of_lt heb
                have hst := tAt_step (q := q) hlt2 hx (show b[n - i]? = some y by rw [show n - i = e by omega]; exact hy)
                obtain ⟨o1, off1, rfl, hcx⟩ := (hA.keep fun p hp => hbw2.cell hp).at_map hx
                obtain ⟨o2, off2, rfl, hcy⟩ := (hB.keep fun p hp => hbw2.cell hp).at_map hy
                have hux := hu.at_ hx
                have huy := hu'.at_ hy
                have HST := hid hst
                generalize tAt a b q n i = v at *
                clear hx hy hst
                have HE := hid he
                clear he
                go_wp2
                go_quiet (first | (go_at_call 78; exact quiet_dr (rmul_c _ _ _ hux huy hq _)) | (go_at_call 80; exact quiet_dr (radd_c _ _ _ hsu (mMul_u64 _ _ _) hq _)))
                go_wp2
                go_roundw
                case rel => exact ⟨i + 1, by go_num, by omega, by rw [HST.out], hw.more _⟩
                case measure => simp [intOf]; omega
              · have hst := tAt_same (a := a) (b := b) (q := q) (n := n) (i := i) (by omega)
                go_wp2
                go_roundw
                case rel => exact ⟨i + 1, by go_num, by omega, by rw [hst], hw⟩
                case measure => simp [intOf]; omega
            · have hst := tAt_same (a := a) (b := b) (q := q) (n := n) (i := i) (by omega)
              go_wp2
              go_roundw
              case rel => exact ⟨i + 1, by go_num, by omega, by rw [hst], hw⟩
              case measure => simp [intOf]; omega
          · obtain rfl : i = n + 1 := by omega
            go_wp2_with (at_builtin; refine wpList_push elt_u64 _ rfl _ _ rfl w.heap.size (hown.dr hw) rfl (.int .u64 (tAt a b q n (n + 1))) rfl rfl (by rw [HT.out.2]; omega) (by rw [HT.out.2]; omega) (by have := hbw2.size; omega) ?_; intro v' w3 hown5 _ hb5)
            go_roundw
            case rel =>
              rw [HT.out.1] at hown5
              exact ⟨n + 1, by go_num, by omega, hown5, hbw2.trans hb5⟩
            case measure => simp [intOf]; omega
      · obtain rfl : n = a.length + b.length - 1 := by omega
        have hlti : ¬ ((a.length + b.length - 1 : Nat) : Int) < (a.length : Int) + (b.length : Int) - 1 := by omega
        go_wp2_with (go_at_call 103; refine (rmay3_c _ hq _).mono ?_; rintro e w' ⟨rfl, rfl⟩; rw [h])
        go_ret
        rw [List.take_of_length_le (by rw [HL.out]; exact Nat.le_refl _)] at hown
        exact ⟨_, rfl, by rw [hps.out]; exact hown, hbw⟩
  · have hps : pTimes a b q = [] := by unfold pTimes; rw [if_neg hall]
    rw [hps]
    go_enter Try.func67, Try.ntmps67
    go_wp2
    go_loopw [7, 8, 9, 10] (fun o i _ _ wr => o = .slice none 0 0 ∧ i = .int .i64 0 ∧ w = wr) (fun _ _ _ _ _ => 0)
    case atStart => exact ⟨rfl, rfl, rfl⟩
    case round =>
      obtain ⟨rfl, rfl, rfl⟩ := hrel
      cases h : okm q with
      | false =>
        go_wp2_with (go_at_call 103; refine (rmay3_c _ hq _).mono ?_; rintro e w' ⟨rfl, rfl⟩; rw [h])
        go_ret
        exact ⟨_, rfl, Own.nil _ _ _, Below.refl _ _⟩
      | true =>
        have hz : ¬ 0 < a.length ∨ (0 < a.length ∧ ¬ 0 < b.length) := by
          rcases Nat.eq_zero_or_pos a.length with h1 | h1
          · exact .inl (by omega)
          · exact .inr ⟨h1, fun h2 => hall ⟨h, h1, h2⟩⟩
        clear hall
        rcases hz with h1 | ⟨h1, h2⟩
        all_goals
          go_wp2_with (go_at_call 103; refine (rmay3_c _ hq _).mono ?_; rintro e w' ⟨rfl, rfl⟩; rw [h])
          go_ret
          exact ⟨_, rfl, Own.nil _ _ _, Below.refl _ _⟩

end Go.Proofs.Ytnmadmcegdpecaa
end

section
namespace Go.Proofs.Ytnmadmcegdpecaa
open Go.RowKit

attribute [local go_sem] Oper.semAt_some

/-- are two the same, modulo q? -/
def sameB (a b : List Int) (q : Int) : Bool := !okm q || (List.range (max a.length b.length)).all fun i => decide (cAt a i q = cAt b i q)
theorem sameB_no {a b : List Int} {q : Int} {i : Nat} (h : okm q = true) (hi : i < max a.length b.length) (hne : cAt a i q ≠ cAt b i q) : sameB a b q = false := by
  unfold sameB
  rw [h, Bool.not_true, Bool.false_or]
  rw [Bool.eq_false_iff]
  intro hall
  exact hne (of_decide_eq_true (List.all_eq_true.1 hall i (List.mem_range.2 hi)))
theorem sameB_yes {a b : List Int} {q : Int} (h : ∀ i, i < max a.length b.length → cAt a i q = cAt b i q) : sameB a b q = true := by
  unfold sameB
  rw [Bool.or_eq_true]
  exact .inr (List.all_eq_true.2 fun i hi => decide_eq_true (h i (List.mem_range.1 hi)))
theorem sameB_none {a b : List Int} {q : Int} (h : okm q = false) : sameB a b q = true := by unfold sameB; rw [h]; rfl

set_option maxRecDepth 100000 in
set_option maxHeartbeats 2000000 in
theorem psame_c (A B : Option Addr) (a b : List Int) (c d : Nat) (q : Int) (w : World) (hA : Cells w A (a.map (.int .u64))) (hB : Cells w B (b.map (.int .u64))) (hl : a.length ≤ 1000000) (hl' : b.length ≤ 1000000) (hu : U64s a) (hu' : U64s b) (hq : U64 q) :
    Calls Try.prog 64 #[.slice A a.length c, .slice B b.length d, .int .u64 q] w fun e w' => e = .returned (.bool (sameB a b q)) ∧ Below w.heap.size w w' := by
  by_cases h : okm q = true
  · obtain ⟨n, hn⟩ : ∃ n, max a.length b.length = n := ⟨_, rfl⟩
    have hni : max (a.length : Int) (b.length : Int) = (n : Int) := by omega
    have hnl : n ≤ 1000000 := by omega
    have HN := hid hn
    have HNI := hid hni
    clear hn
    go_enter Try.func64, Try.ntmps64
    go_wp2_with (go_at_call 101; refine (pmay_c _ hq _).mono ?_; rintro e w' ⟨rfl, rfl⟩; rw [h])
    refine (over_c A a.length c q w).mono ?_
    rintro e w1 ⟨g1, g2, rfl, r1, r2, hb1, _, _⟩
    go_wp2_with (fail)
    refine (over_c B b.length d q w1).mono ?_
    rintro e w2 ⟨g3, g4, rfl, r3, r4, hb2, _, _⟩
    have R1 := r1.below hb2
    have R2 := r2.below hb2
    have hb3 := below_next hb1 hb1.size hb2
    have hA2 := hA.keep fun p hp => hb3.cell hp
    have hB2 := hB.keep fun p hp => hb3.cell hp
    clear r1 r2 hb1 hb2
    go_wp2
    go_loopw [9, 24] (fun _ i wr => ∃ j : Nat, i = .int .i64 j ∧ j ≤ n ∧ (∀ k, k < j → cAt a k q = cAt b k q) ∧ Dr w2 wr) (fun _ i _ => n - (intOf i).toNat)
    case atStart => exact ⟨0, rfl, by omega, fun k hk => absurd hk (by omega), Dr.refl _⟩
    case round =>
      obtain ⟨j, rfl, hj, hsm, hw⟩ := hrel
      by_cases hlt : j < n
      · have R1' := R1.dr hw
        have R2' := R2.dr hw
        have R3' := r3.dr hw
        have R4' := r4.dr hw
        have hlti : (j : Int) < max (a.length : Int) (b.length : Int) := by omega
        go_wp2_with (fail)
        refine (over1_c A a c j g1 g2 q wr R1' R2' (hA2.dr hw) (by omega) (by omega) hu h).mono ?_
        rintro e w5 ⟨rfl, hw5⟩
        go_wp2_with (fail)
        refine (over1_c B b d j g3 g4 q w5 (R3'.dr hw5) (R4'.dr hw5) ((hB2.dr hw).dr hw5) (by omega) (by omega) hu' h).mono ?_
        rintro e w6 ⟨rfl, hw6⟩
        by_cases heq : cAt a j q = cAt b j q
        · have HE := hid heq
          rw [heq]
          clear heq
          go_wp2
          go_roundw
          case rel => exact ⟨j + 1, by go_num, by omega, fun k hk => by
            rcases Nat.lt_or_ge k j with h1 | h1
            · exact hsm k h1
            · obtain rfl : k = j := by omega
              exact HE.out, (hw.trans hw5).trans hw6⟩
          case measure => simp [intOf]; omega
        · have hsb := hid (sameB_no h (i := j) (by have := HN.out; omega) heq)
          go_wp2
          go_ret
          exact ⟨ret_bool hsb.out.symm, below_dr (below_dr (below_dr hb3 hw) hw5) hw6⟩
      · obtain rfl : j = n := by omega
        have hsb := hid (sameB_yes (a := a) (b := b) (q := q) (fun i hi => hsm i (by have := HN.out; omega)))
        have hlti : ¬ (j : Int) < max (a.length : Int) (b.length : Int) := by omega
        go_wp2
        go_ret
        exact ⟨ret_bool hsb.out.symm, below_dr hb3 hw⟩
  · have h' : okm q = false := by simpa using h
    have hsb := hid (sameB_none (a := a) (b := b) h')
    go_enter Try.func64, Try.ntmps64
    go_wp2_with (go_at_call 101; refine (pmay_c _ hq _).mono ?_; rintro e w' ⟨rfl, rfl⟩; rw [h'])
    go_ret
    exact ⟨ret_bool hsb.out.symm, Below.refl _ _⟩

set_option maxRecDepth 100000 in
set_option maxHeartbeats 2000000 in
theorem rsame_c (A B : Option Addr) (a b : List Int) (c d : Nat) (q : Int) (w : World) (hA : Cells w A (a.map (.int .u64))) (hB : Cells w B (b.map (.int .u64))) (hl : a.length ≤ 1000000) (hl' : b.length ≤ 1000000) (hu : U64s a) (hu' : U64s b) (hq : U64 q) :
    Calls Try.prog 70 #[.slice A a.length c, .slice B b.length d, .int .u64 q] w fun e w' => e = .returned (.bool (sameB a b q)) ∧ w = w' := by
  by_cases h : okm q = true
  · obtain ⟨n, hn⟩ : ∃ n, max a.length b.length = n := ⟨_, rfl⟩
    have hnl : n ≤ 1000000 := by omega
    go_enter Try.func70, Try.ntmps70
    go_wp2
    go_loopw [7] (fun i wr => ∃ j : Nat, i = .int .i64 j ∧ j ≤ n ∧ (∀ k, k < j → cAt a k q = cAt b k q) ∧ w = wr) (fun i _ => n - (intOf i).toNat)
    case atStart => exact ⟨0, rfl, by omega, fun k hk => absurd hk (by omega), rfl⟩
    case round =>
      obtain ⟨j, rfl, hj, hsm, rfl⟩ := hrel
      by_cases hlt : j < n
      · have hor : j < a.length ∨ (¬ j < a.length ∧ j < b.length) := by omega
        rcases hor with hja | ⟨hja, hjb⟩
        all_goals
          go_wp2_with (go_at_call 103; refine (rmay3_c _ hq _).mono ?_; rintro e w' ⟨rfl, rfl⟩; rw [h])
          refine (r3at_c A a c j q _ hA (by omega) (by omega) hu h).mono ?_
          rintro e w5 ⟨rfl, rfl⟩
          go_wp2_with (fail)
          refine (r3at_c B b d j q _ hB (by omega) (by omega) hu' h).mono ?_
          rintro e w5 ⟨rfl, rfl⟩
          by_cases heq : cAt a j q = cAt b j q
          · have HE := hid heq
            rw [heq]
            clear heq
            go_wp2
            go_roundw
            case rel => exact ⟨j + 1, by go_num, by omega, fun k hk => by
              rcases Nat.lt_or_ge k j with h1 | h1
              · exact hsm k h1
              · obtain rfl : k = j := by omega
                exact HE.out, trivial⟩
            case measure => simp [intOf]; omega
          · have hsb := hid (sameB_no h (i := j) (by omega) heq)
            go_wp2
            go_ret
            exact ⟨ret_bool hsb.out.symm, rfl⟩
      · obtain rfl : j = n := by omega
        have hsb := hid (sameB_yes (a := a) (b := b) (q := q) (fun i hi => hsm i (by omega)))
        have h1 : ¬ j < a.length := by omega
        have h2 : ¬ j < b.length := by omega
        go_wp2_with (go_at_call 103; refine (rmay3_c _ hq _).mono ?_; rintro e w' ⟨rfl, rfl⟩; rw [h])
        go_ret
        exact ⟨ret_bool hsb.out.symm, rfl⟩
  · have h' : okm q = false := by simpa using h
    have hsb := hid (sameB_none (a := a) (b := b) h')
    go_enter Try.func70, Try.ntmps70
    go_wp2
    go_loopw [7] (fun i wr => i = .int .i64 0 ∧ w = wr) (fun _ _ => 0)
    case atStart => exact ⟨rfl, rfl⟩
    case round =>
      obtain ⟨rfl, rfl⟩ := hrel
      go_wp2_with (go_at_call 103; refine (rmay3_c _ hq _).mono ?_; rintro e w' ⟨rfl, rfl⟩; rw [h'])
      go_ret
      exact ⟨ret_bool hsb.out.symm, rfl⟩

/-- the last number of k that is not 0; -1, if there is none. -/
def dAt (l : List Int) (q : Int) : Nat → Int
  | 0 => -1
  | k + 1 => if cAt l k q = 0 then dAt l q k else k
def pDeg (l : List Int) (q : Int) : Int := if okm q then dAt l q l.length else -1

set_option maxRecDepth 100000 in
set_option maxHeartbeats 2000000 in
theorem pdeg_c (A : Option Addr) (l : List Int) (c : Nat) (q : Int) (w : World) (hA : Cells w A (l.map (.int .u64))) (hl : l.length ≤ 1000000) (hu : U64s l) (hq : U64 q) :
    Calls Try.prog 60 #[.slice A l.length c, .int .u64 q] w fun e w' => e = .returned (.int .i64 (pDeg l q)) ∧ w = w' := by
  by_cases h : okm q = true
  · have hps := hid (show pDeg l q = dAt l q l.length by unfold pDeg; rw [if_pos h])
    have h0 := okm_pos h
    have h1 := okm_le h
    go_enter Try.func60, Try.ntmps60
    go_wp2
    go_loopw [5] (fun i wr => ∃ k : Nat, i = .int .i64 ((k : Int) - 1) ∧ k ≤ l.length ∧ dAt l q k = dAt l q l.length ∧ w = wr) (fun i _ => (intOf i + 1).toNat)
    case atStart => exact ⟨l.length, rfl, Nat.le_refl _, rfl, rfl⟩
    case round =>
      obtain ⟨k, rfl, hk, hd, rfl⟩ := hrel
      cases k with
      | zero =>
        have HD := hid hd
        clear hd
        go_wp2
        go_ret
        refine ⟨ret_int ?_, rfl⟩
        rw [hps.out, ← HD.out]; rfl
      | succ k =>
        obtain ⟨z, hz⟩ := get_of_lt (l := l) (show k < l.length by omega)
        obtain ⟨o2, off2, rfl, hcz⟩ := hA.at_map hz
        obtain ⟨z0, z1⟩ := hu.at_ hz
        have he := cAt_in hz q
        have hi : ((k + 1 : Nat) : Int) - 1 = (k : Int) := by omega
        have hm0 := Int.emod_nonneg z (b := q) (by omega)
        have hm1 := Int.emod_lt_of_pos z h0
        rw [hi]
        by_cases hzero : z % q = 0
        · have hstep : dAt l q k = dAt l q l.length := by rw [← hd, dAt, if_pos (by rw [he]; exact hzero)]
          have HS := hid hstep
          have hbq : (z % q == 0) = true := beq_iff_eq.2 hzero
          clear hd he hz hstep hzero
          go_wp2_with (go_at_call 101; refine (pmay_c _ hq _).mono ?_; rintro e w' ⟨rfl, rfl⟩; rw [h])
          go_roundw
          case rel => exact ⟨k, rfl, by omega, HS.out, trivial⟩
          case measure => simp [intOf]
        · have hstep : (k : Int) = pDeg l q := by rw [hps.out, ← hd, dAt, if_neg (by rw [he]; exact hzero)]
          have HS := hid hstep
          have hbq : (z % q == 0) = false := beq_eq_false_iff_ne.2 hzero
          clear hd he hz hstep
          go_wp2_with (go_at_call 101; refine (pmay_c _ hq _).mono ?_; rintro e w' ⟨rfl, rfl⟩; rw [h])
          go_ret
          exact ⟨ret_int HS.out, rfl⟩
  · have h' : okm q = false := by simpa using h
    have hps := hid (show pDeg l q = -1 by unfold pDeg; rw [if_neg h])
    go_enter Try.func60, Try.ntmps60
    go_wp2
    go_loopw [5] (fun i wr => ∃ k : Nat, i = .int .i64 ((k : Int) - 1) ∧ k ≤ l.length ∧ w = wr) (fun i _ => (intOf i + 1).toNat)
    case atStart => exact ⟨l.length, rfl, Nat.le_refl _, rfl⟩
    case round =>
      obtain ⟨k, rfl, hk, rfl⟩ := hrel
      cases k with
      | zero =>
        go_wp2
        go_ret
        exact ⟨ret_int hps.out.symm, rfl⟩
      | succ k =>
        have hi : ((k + 1 : Nat) : Int) - 1 = (k : Int) := by omega
        rw [hi]
        go_wp2_with (go_at_call 101; refine (pmay_c _ hq _).mono ?_; rintro e w' ⟨rfl, rfl⟩; rw [h'])
        go_roundw
        case rel => exact ⟨k, rfl, by omega, trivial⟩
        case measure => simp [intOf]

set_option maxRecDepth 100000 in
set_option maxHeartbeats 2000000 in
theorem rdeg_c (A : Option Addr) (l : List Int) (c : Nat) (q : Int) (w : World) (hA : Cells w A (l.map (.int .u64))) (hl : l.length ≤ 1000000) (hu : U64s l) (hq : U64 q) :
    Calls Try.prog 69 #[.slice A l.length c, .int .u64 q] w fun e w' => e = .returned (.int .i64 (pDeg l q)) ∧ w = w' := by
  by_cases h : okm q = true
  · have hps := hid (show pDeg l q = dAt l q l.length by unfold pDeg; rw [if_pos h])
    have h0 := okm_pos h
    have h1 := okm_le h
    go_enter Try.func69, Try.ntmps69
    go_wp2
    go_loopw [5, 6] (fun n i wr => ∃ k : Nat, i = .int .i64 k ∧ k ≤ l.length ∧ n = .int .i64 (dAt l q k) ∧ w = wr) (fun _ i _ => l.length - (intOf i).toNat)
    case atStart => exact ⟨0, rfl, by omega, rfl, rfl⟩
    case round =>
      obtain ⟨k, rfl, hk, rfl, rfl⟩ := hrel
      by_cases hlt : k < l.length
      · obtain ⟨z, hz⟩ := get_of_lt hlt
        obtain ⟨o2, off2, rfl, hcz⟩ := hA.at_map hz
        obtain ⟨z0, z1⟩ := hu.at_ hz
        have he := cAt_in hz q
        have hm0 := Int.emod_nonneg z (b := q) (by omega)
        have hm1 := Int.emod_lt_of_pos z h0
        by_cases hzero : z % q = 0
        · have hstep : dAt l q (k + 1) = dAt l q k := by rw [dAt, if_pos (by rw [he]; exact hzero)]
          have HS := hid hstep
          have hbq : (z % q != 0) = false := by rw [bne, beq_iff_eq.2 hzero]; rfl
          clear he hz hstep hzero
          go_wp2_with (go_at_call 103; refine (rmay3_c _ hq _).mono ?_; rintro e w' ⟨rfl, rfl⟩; rw [h])
          go_roundw
          case rel => exact ⟨k + 1, by go_num, by omega, by rw [HS.out], trivial⟩
          case measure => simp [intOf]; omega
        · have hstep : dAt l q (k + 1) = (k : Int) := by rw [dAt, if_neg (by rw [he]; exact hzero)]
          have HS := hid hstep
          have hbq : (z % q != 0) = true := bne_iff_ne.2 hzero
          clear he hz hstep
          go_wp2_with (go_at_call 103; refine (rmay3_c _ hq _).mono ?_; rintro e w' ⟨rfl, rfl⟩; rw [h])
          go_roundw
          case rel => exact ⟨k + 1, by go_num, by omega, by rw [HS.out], trivial⟩
          case measure => simp [intOf]; omega
      · obtain rfl : k = l.length := by omega
        go_wp2
        go_ret
        exact ⟨ret_int hps.out.symm, rfl⟩
  · have h' : okm q = false := by simpa using h
    have hps := hid (show pDeg l q = -1 by unfold pDeg; rw [if_neg h])
    go_enter Try.func69, Try.ntmps69
    go_wp2
    go_loopw [5, 6] (fun n i wr => n = .int .i64 (-1) ∧ i = .int .i64 0 ∧ w = wr) (fun _ _ _ => 0)
    case atStart => exact ⟨rfl, rfl, rfl⟩
    case round =>
      obtain ⟨rfl, rfl, rfl⟩ := hrel
      by_cases hlt : 0 < l.length
      all_goals
        go_wp2_with (go_at_call 103; refine (rmay3_c _ hq _).mono ?_; rintro e w' ⟨rfl, rfl⟩; rw [h'])
        go_ret
        exact ⟨ret_int hps.out.symm, rfl⟩

end Go.Proofs.Ytnmadmcegdpecaa
end

section
namespace Go.Proofs.Ytnmadmcegdpecaa
open Go.RowKit

attribute [local go_sem] Oper.semAt_some

set_option maxRecDepth 100000 in
set_option maxHeartbeats 2000000 in
theorem told_c (A B : Option Addr) (g v : List Int) (c d base : Nat) (w : World) (hW : Writ w base 23 (.slice A g.length c) g.length) (hA : Cells w A (g.map (.int .u64))) (hB : Cells w B (v.map (.int .u64))) (hl : g.length ≤ 9223372036854775807) (hl' : v.length ≤ 9223372036854775807) :
    Calls Try.prog 58 #[.slice A g.length c, .slice B v.length d] w fun e w' => e = .returned (.bool (decide (g = v))) ∧ Below base w w' := by
  go_enter Try.func58, Try.ntmps58
  go_wp2_with (fail)
  refine (numbers_c A B g v c d w hA hB hl hl').mono ?_
  rintro e w2 ⟨rfl, hw2⟩
  have hW2 := hW.below (below_of_dr hw2)
  have hb2 : Below base w w2 := below_of_dr hw2
  obtain ⟨r, hr⟩ : ∃ r, decide (g = v) = r := ⟨_, rfl⟩
  rw [hr]
  have HR := hid hr
  generalize g.length = n at *
  clear hr hW hw2 hA hB
  go_wp2
  go_loopw [6] (fun i wr => ∃ j : Nat, i = .int .i64 j ∧ j ≤ n ∧ Writ wr base 23 (.slice A n c) n ∧ Below base w wr) (fun i _ => n - (intOf i).toNat)
  case atStart => exact ⟨0, rfl, by omega, hW2, hb2⟩
  case round =>
    obtain ⟨j, rfl, hj, hwa, hbo⟩ := hrel
    clear hW2 hb2
    by_cases hltj : j < n
    · obtain ⟨g1, cap, u0, he, hg1', hg2, hg3, hg4, ar, hg5⟩ := hwa.at_ hltj
      simp only [Value.slice.injEq, true_and] at he
      obtain ⟨rfl, rfl⟩ := he
      have hwa3 := hwa.set g1 j (.int .u64 77)
      have hbo3 := hbo.setCell (p := ⟨g1, j, none⟩) hg1' (.int .u64 77)
      clear hwa hbo hg5
      go_wp2
      go_roundw
      case rel => exact ⟨j + 1, by go_num, by omega, hwa3, hbo3⟩
      case measure => simp [intOf]; omega
    · obtain rfl : j = n := by omega
      go_wp2
      go_ret
      exact ⟨ret_bool HR.out.symm, hbo⟩

/-- c divided by the polynomial of the power 1 that is 0 at x. -/
def withoutL (c : List Int) (x q : Int) : List Int := (List.range (c.length - 1)).map fun j => mEval (c.drop (j + 1)) x q
def woRow (c : List Int) (x q : Int) (k : Nat) : List Int := (List.range (c.length - 1)).map fun j => if k ≤ j then mEval (c.drop (j + 1)) x q else 0
theorem woRow_len (c : List Int) (x q : Int) (k : Nat) : (woRow c x q k).length = c.length - 1 := by simp [woRow]
theorem woRow_start (c : List Int) (x q : Int) : woRow c x q (c.length - 1) = List.replicate (c.length - 1) 0 := by
  unfold woRow
  rw [List.eq_replicate_iff]
  refine ⟨by simp, fun z hz => ?_⟩
  obtain ⟨j, hj, rfl⟩ := List.mem_map.1 hz
  rw [if_neg (by have := List.mem_range.1 hj; omega)]
theorem woRow_all (c : List Int) (x q : Int) : woRow c x q 0 = withoutL c x q := by
  unfold woRow withoutL
  apply List.map_congr_left
  intro j _
  rw [if_pos (by omega)]
theorem woRow_at {c : List Int} {x q : Int} {k : Nat} (h : k < c.length - 1) : (woRow c x q (k + 1))[k]? = some 0 := by
  unfold woRow
  rw [List.getElem?_map, List.getElem?_range h, Option.map_some, if_neg (by omega)]
theorem woRow_set {c : List Int} {x q : Int} {k : Nat} (h : k < c.length - 1) : (woRow c x q (k + 1)).set k (mEval (c.drop (k + 1)) x q) = woRow c x q k := by
  apply List.ext_getElem?
  intro j
  rw [List.getElem?_set]
  split
  · rename_i hj
    subst hj
    rw [if_pos (by rw [woRow_len]; exact h)]
    unfold woRow
    rw [List.getElem?_map, List.getElem?_range h, Option.map_some, if_pos (Nat.le_refl _)]
  · rename_i hj
    unfold woRow
    rw [List.getElem?_map, List.getElem?_map]
    rcases Nat.lt_or_ge j (c.length - 1) with h1 | h1
    · rw [List.getElem?_range h1, Option.map_some, Option.map_some]
      congr 1
      by_cases hc : k ≤ j
      · rw [if_pos (by omega), if_pos hc]
      · rw [if_neg (by omega), if_neg hc]
    · rw [List.getElem?_eq_none (by simpa using h1)]; rfl

set_option maxRecDepth 100000 in
set_option maxHeartbeats 2000000 in
theorem without_c (A : Option Addr) (l : List Int) (c : Nat) (x q : Int) (w : World) (hA : Cells w A (l.map (.int .u64))) (h1 : 1 ≤ l.length) (hl : l.length ≤ 1000000) (hu : U64s l) (hx : U64 x) (hq : U64 q) :
    Calls Try.prog 102 #[.slice A l.length c, .int .u64 x, .int .u64 q] w (NewNums (withoutL l x q) w) := by
  have hi0 : (l.length : Int) - 1 = ((l.length - 1 : Nat) : Int) := by omega
  have HI := hid hi0
  clear hi0
  go_enter Try.func102, Try.ntmps102
  go_wp2_with (at_make; refine wpList_make_row elt_u64 _ rfl _ _ rfl .i64 .i64 _ _ (l.length - 1) rfl rfl (by first | rfl | exact HI.out) (by first | rfl | exact HI.out) (by omega) (by omega) ?_; intro w1 hr1 hs1 hb1)
  go_loopw [8, 9] (fun o i wr => ∃ k : Nat, i = .int .i64 k ∧ k ≤ l.length - 1 ∧ o = .int .u64 (mEval (l.drop (k + 1)) x q) ∧ Row1 wr w.heap.size 23 ((woRow l x q k).map (.int .u64)) ∧ Below w.heap.size w wr) (fun _ i _ => (intOf i).toNat)
  case atStart => exact ⟨l.length - 1, by rw [← HI.out], Nat.le_refl _, by rw [show l.length - 1 + 1 = l.length by omega, List.drop_length, mEval_nil], by rw [woRow_start, List.map_replicate]; exact hr1, hb1⟩
  case round =>
    obtain ⟨k, rfl, hk, rfl, hr, hb⟩ := hrel
    cases k with
    | zero =>
      go_wp2
      go_ret
      rw [woRow_all] at hr
      have h9 := hr.own (Nat.le_refl _) (by rw [List.length_map]; simp [withoutL]; omega)
      have hlen : (withoutL l x q).length = l.length - 1 := by simp [withoutL]
      rw [List.length_map, hlen] at h9
      exact ⟨_, rfl, h9, hb⟩
    | succ k =>
      obtain ⟨z, hz⟩ := get_of_lt (l := l) (show k + 1 < l.length by omega)
      obtain ⟨o2, off2, rfl, hcz⟩ := (hA.keep fun p hp => hb.cell hp).at_map hz
      have huz := hu.at_ hz
      have hstep := mEval_drop hz x q
      have hm := mEval_u64 (l.drop (k + 1 + 1)) x q
      have hset := woRow_set (c := l) (x := x) (q := q) (k := k) (by omega)
      have hat := woRow_at (c := l) (x := x) (q := q) (k := k) (by omega)
      rw [hstep] at hset
      obtain ⟨v, hv⟩ : ∃ v, mEval (l.drop (k + 1 + 1)) x q = v := ⟨_, rfl⟩
      rw [hv] at hset hm hstep ⊢
      have hcO := hr.cell (k := k) (u := .int .u64 0) (by rw [List.getElem?_map, hat]; rfl)
      have HS := hid (⟨hset, hstep⟩ : _ ∧ _)
      have hi : ((k + 1 : Nat) : Int) - 1 = (k : Int) := by omega
      clear hset hstep hv hat hz
      go_wp2
      go_quiet (first | (go_at_call 33; exact quiet_dr (mul_c _ _ _ hm hx hq _)) | (go_at_call 32; exact quiet_dr (add_c _ _ _ (mMul_u64 _ _ _) huz hq _)))
      have hfO := hr.frozen k
      go_wp2
      go_roundw
      case rel =>
        refine ⟨k, by go_num, by omega, by rw [HS.out.2], ?_, ?_⟩
        · have h9 := hr.set k (.int .u64 (mAdd (mMul v x q) z q))
          rw [← List.map_set, HS.out.1] at h9
          exact h9
        · exact (below_dr hb ⟨_, rfl⟩).setCell (p := ⟨w.heap.size, k, none⟩) (Nat.le_refl _) _
      case measure => simp [intOf]

end Go.Proofs.Ytnmadmcegdpecaa
end
