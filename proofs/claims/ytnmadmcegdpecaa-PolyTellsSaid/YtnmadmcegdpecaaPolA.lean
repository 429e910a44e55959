/-
  Polynomials: may, coefficients, multiples: the program's and the reference's.
-/
import Derived.Test.YtnmadmcegdpecaaMul
import Derived.Test.YtnmadmcegdpecaaOwn
import Derived.Test.YtnmadmcegdpecaaBivA
import Derived.Test.YtnmadmcegdpecaaFixC
namespace Go.Proofs.Ytnmadmcegdpecaa
open Go.RowKit

attribute [local go_sem] Oper.semAt_some

set_option maxHeartbeats 400000 in
theorem pmay_c (m : Int) (hm : U64 m) (w : World) :
    Calls Try.prog 101 #[.int .u64 m] w fun e w' => e = .returned (.bool (okm m)) ∧ w = w' := by
  obtain ⟨h0, h1⟩ := hm
  by_cases h : 0 < m
  · go_enter Try.func101, Try.ntmps101
    go_wp2
    go_ret
    exact ⟨by simp [okm, h], rfl⟩
  · have hd : decide (0 < m) = false := by simpa using h
    go_enter Try.func101, Try.ntmps101
    go_wp2
    go_ret
    exact ⟨by simp [okm, hd], rfl⟩
set_option maxHeartbeats 400000 in
theorem rmay3_c (m : Int) (hm : U64 m) (w : World) :
    Calls Try.prog 103 #[.int .u64 m] w fun e w' => e = .returned (.bool (okm m)) ∧ w = w' := by
  obtain ⟨h0, h1⟩ := hm
  by_cases h : 0 < m
  · go_enter Try.func103, Try.ntmps103
    go_wp2
    go_ret
    exact ⟨by simp [okm, h], rfl⟩
  · have hd : decide (0 < m) = false := by simpa using h
    go_enter Try.func103, Try.ntmps103
    go_wp2
    go_ret
    exact ⟨by simp [okm, hd], rfl⟩

/-- a coefficient modulo q, 0 behind the end. -/
def cAt (l : List Int) (i : Nat) (q : Int) : Int := l.getD i 0 % q
theorem cAt_in {l : List Int} {i : Nat} {z : Int} (h : l[i]? = some z) (q : Int) : cAt l i q = z % q := by unfold cAt; rw [List.getD_eq_getElem?_getD, h]; rfl
theorem cAt_out {l : List Int} {i : Nat} (h : l.length ≤ i) (q : Int) : cAt l i q = 0 := by unfold cAt; rw [List.getD_eq_getElem?_getD, List.getElem?_eq_none h]; simp
theorem cAt_u64 (l : List Int) (i : Nat) {q : Int} (h : okm q = true) : U64 (cAt l i q) := mod_u64 h

theorem r3at_c (A : Option Addr) (l : List Int) (c i : Nat) (q : Int) (w : World) (hA : Cells w A (l.map (.int .u64))) (_ : l.length ≤ 9223372036854775807) (_ : i ≤ 9223372036854775807) (hu : U64s l) (hq : okm q = true) :
    Calls Try.prog 105 #[.slice A l.length c, .int .i64 i, .int .u64 q] w fun e w' => e = .returned (.int .u64 (cAt l i q)) ∧ w = w' := by
  have h0 := okm_pos hq
  have h1 := okm_le hq
  by_cases hin : i < l.length
  · obtain ⟨z, hz⟩ := get_of_lt hin
    obtain ⟨o2, off2, rfl, hcz⟩ := hA.at_map hz
    obtain ⟨z0, z1⟩ := hu.at_ hz
    have he := hid (cAt_in hz q)
    have hm0 := Int.emod_nonneg z (b := q) (by omega)
    have hm1 := Int.emod_lt_of_pos z h0
    clear hz
    go_enter Try.func105, Try.ntmps105
    go_wp2
    go_ret
    exact ⟨ret_int he.out.symm, rfl⟩
  · have he := hid (cAt_out (l := l) (i := i) (by omega) q)
    go_enter Try.func105, Try.ntmps105
    go_wp2
    go_ret
    exact ⟨ret_int he.out.symm, rfl⟩

theorem over1_c (A : Option Addr) (l : List Int) (c i g1 g2 : Nat) (q : Int) (w : World) (hr1 : Row1 w g1 26 [.slice A l.length c]) (hr2 : Row1 w g2 23 [.int .u64 q]) (hA : Cells w A (l.map (.int .u64))) (_ : l.length ≤ 9223372036854775807) (_ : i ≤ 9223372036854775807) (hu : U64s l) (hq : okm q = true) :
    Calls Try.prog 116 #[.int .i64 i, .pointer (some ⟨g1, 0, none⟩), .pointer (some ⟨g2, 0, none⟩)] w fun e w' => e = .returned (.int .u64 (cAt l i q)) ∧ Dr w w' := by
  have h0 := okm_pos hq
  have h1 := okm_le hq
  have c1 := hr1.cell (k := 0) rfl
  have c2 := hr2.cell (k := 0) rfl
  by_cases hin : i < l.length
  · obtain ⟨z, hz⟩ := get_of_lt hin
    obtain ⟨o2, off2, rfl, hcz⟩ := hA.at_map hz
    obtain ⟨z0, z1⟩ := hu.at_ hz
    have he := hid (cAt_in hz q)
    have hm0 := Int.emod_nonneg z (b := q) (by omega)
    have hm1 := Int.emod_lt_of_pos z h0
    clear hz
    go_enter Try.func116, Try.ntmps116
    go_wp2
    go_quiet (fail)
    go_wp2
    go_ret
    exact ⟨ret_int he.out.symm, _, rfl⟩
  · have he := hid (cAt_out (l := l) (i := i) (by omega) q)
    go_enter Try.func116, Try.ntmps116
    go_wp2
    go_ret
    exact ⟨ret_int he.out.symm, Dr.refl _⟩

theorem over_c (A : Option Addr) (n c : Nat) (q : Int) (w : World) :
    Calls Try.prog 104 #[.slice A n c, .int .u64 q] w fun e w' => ∃ g1 g2, e = .returned (.func (.func 116) #[] #[.pointer (some ⟨g1, 0, none⟩), .pointer (some ⟨g2, 0, none⟩)]) ∧ Row1 w' g1 26 [.slice A n c] ∧ Row1 w' g2 23 [.int .u64 q] ∧ Below w.heap.size w w' ∧ w.heap.size ≤ g1 ∧ w.heap.size ≤ g2 := by
  go_enter Try.func104, Try.ntmps104
  go_wp2
  go_ret
  refine ⟨_, _, rfl, (row1_new w [.slice A n c] 26).alloc _, ?_, (below_alloc w _).alloc (by simp) _, Nat.le_refl _, by simp⟩
  have := row1_new (w.alloc (.cells #[.slice A n c] 26)) [.int .u64 q] 23
  simpa using this

/-- a multiple. -/
def pScale (a : List Int) (k q : Int) : List Int := if okm q then a.map fun c => mMul c k q else []

set_option maxHeartbeats 1000000 in
theorem pscale_c (A : Option Addr) (a : List Int) (c : Nat) (k q : Int) (w : World) (hA : Cells w A (a.map (.int .u64))) (hl : a.length ≤ 17592186044416) (hu : U64s a) (hk : U64 k) (hq : U64 q) :
    Calls Try.prog 62 #[.slice A a.length c, .int .u64 k, .int .u64 q] w (NewNums (pScale a k q) w) := by
  by_cases h : okm q = true
  · have hlen : (a.map fun c => mMul c k q).length = a.length := by simp
    have hps : Hid (pScale a k q = a.map fun c => mMul c k q) := hid (by unfold pScale; rw [if_pos h])
    go_enter Try.func62, Try.ntmps62
    go_wp2_with (first | (go_at_call 101; refine (pmay_c _ hq _).mono ?_; rintro e w' ⟨rfl, rfl⟩; rw [h]) | (at_make; refine wpList_make_row elt_u64 _ rfl _ _ rfl .i64 .i64 _ _ a.length rfl rfl rfl rfl (by omega) (by omega) ?_; intro w1 hr1 hs1 hb1))
    go_loopw [8, 9, 18] (fun _ _ i wr => ∃ j : Nat, i = .int .i64 j ∧ j ≤ a.length ∧ Row1 wr w.heap.size 23 (filled (a.map fun c => mMul c k q) a.length j) ∧ Below w.heap.size w wr) (fun _ _ i _ => a.length - (intOf i).toNat)
    case atStart => exact ⟨0, rfl, by omega, by rw [filled_zero]; exact hr1, hb1⟩
    case round =>
      obtain ⟨j, rfl, hj, hr, hb⟩ := hrel
      by_cases hlt : j < a.length
      · obtain ⟨z, hz⟩ := get_of_lt hlt
        obtain ⟨o2, off2, rfl, hcz⟩ := (hA.keep fun p hp => hb.cell hp).at_map hz
        have huz := hu.at_ hz
        have hz2 : (a.map fun c => mMul c k q)[j]? = some (mMul z k q) := by rw [List.getElem?_map, hz]; rfl
        clear hz
        go_wp2_with (go_at_call 33; refine (mul_c _ _ _ huz hk hq _).mono ?_; rintro e w2 ⟨rfl, hw2⟩; have hc2 := (hr.dr hw2).cell (filled_at _ _ _ hlt hlen); have hf2 := (hr.dr hw2).frozen j)
        go_roundw
        case rel => exact ⟨j + 1, by go_num, by omega, by rw [← filled_set _ _ _ _ hlt hlen hz2]; exact (hr.dr hw2).set j _, (below_dr hb hw2).setCell (by simp) _⟩
        case measure => simp [intOf]; omega
      · obtain rfl : j = a.length := by omega
        go_wp2
        go_ret
        refine ⟨_, rfl, ?_, hb⟩
        rw [filled_all _ _ hlen] at hr
        have := hr.own (Nat.le_refl _) (by simp; omega)
        rw [hps.out]
        simpa [hlen] using this
  · have h' : okm q = false := by simpa using h
    go_enter Try.func62, Try.ntmps62
    go_wp2_with (go_at_call 101; refine (pmay_c _ hq _).mono ?_; rintro e w' ⟨rfl, rfl⟩; rw [h'])
    go_ret
    have : pScale a k q = [] := by unfold pScale; rw [if_neg h]
    rw [this]
    exact ⟨_, rfl, Own.nil _ _ _, Below.refl _ _⟩

set_option maxHeartbeats 1000000 in
theorem rscale_c (A : Option Addr) (a : List Int) (c : Nat) (k q : Int) (w : World) (hA : Cells w A (a.map (.int .u64))) (hl : a.length ≤ 17592186044416) (hu : U64s a) (hk : U64 k) (hq : U64 q) :
    Calls Try.prog 66 #[.slice A a.length c, .int .u64 k, .int .u64 q] w (NewNums (pScale a k q) w) := by
  by_cases h : okm q = true
  · have hps : Hid (pScale a k q = a.map fun c => mMul c k q) := hid (by unfold pScale; rw [if_pos h])
    go_enter Try.func66, Try.ntmps66
    go_wp2
    go_loopw [7, 8] (fun o i wr => ∃ j : Nat, i = .int .i64 j ∧ j ≤ a.length ∧ Own wr w.heap.size 23 o (((a.map fun c => mMul c k q).take j).map (.int .u64)) ∧ Below w.heap.size w wr) (fun _ i _ => a.length - (intOf i).toNat)
    case atStart => exact ⟨0, rfl, by omega, by simpa using Own.nil w w.heap.size 23, Below.refl _ _⟩
    case round =>
      obtain ⟨j, rfl, hj, hown, hb⟩ := hrel
      by_cases hlt : j < a.length
      · obtain ⟨z, hz⟩ := get_of_lt hlt
        obtain ⟨o2, off2, rfl, hcz⟩ := (hA.keep fun p hp => hb.cell hp).at_map hz
        have huz := hu.at_ hz
        have hz2 : (a.map fun c => mMul c k q)[j]? = some (mMul z k q) := by rw [List.getElem?_map, hz]; rfl
        have hs : ((a.map fun c => mMul c k q).take j).map (Value.int .u64) ++ [Value.int .u64 (mMul z k q)] = ((a.map fun c => mMul c k q).take (j + 1)).map (Value.int .u64) := by
          rw [take_snoc' hz2]; simp
        have hlen : (((a.map fun c => mMul c k q).take j).map (Value.int .u64)).length = j := by simp; omega
        have HS := hid (⟨hs, hlen⟩ : _ ∧ _)
        clear hz hz2 hs hlen
        go_wp2_with (first | (go_at_call 103; refine (rmay3_c _ hq _).mono ?_; rintro e w' ⟨rfl, rfl⟩; rw [h]) | (go_at_call 78; refine (rmul_c _ _ _ huz hk hq _).mono ?_; rintro e w2 ⟨rfl, hw2⟩) | (at_builtin; refine wpList_push elt_u64 _ rfl _ _ rfl w.heap.size (hown.dr hw2) rfl (.int .u64 (mMul z k q)) rfl rfl (by rw [HS.out.2]; omega) (by rw [HS.out.2]; omega) (by have := hb.size; rw [hw2.size]; omega) ?_; intro v' w3 hown5 _ hb5))
        go_roundw
        case rel =>
          rw [HS.out.1] at hown5
          exact ⟨j + 1, by go_num, by omega, hown5, (below_dr hb hw2).trans hb5⟩
        case measure => simp [intOf]; omega
      · obtain rfl : j = a.length := by omega
        go_wp2_with (go_at_call 103; refine (rmay3_c _ hq _).mono ?_; rintro e w' ⟨rfl, rfl⟩; rw [h])
        go_ret
        rw [List.take_of_length_le (by simp)] at hown
        exact ⟨_, rfl, by rw [hps.out]; exact hown, hb⟩
  · have h' : okm q = false := by simpa using h
    go_enter Try.func66, Try.ntmps66
    go_wp2
    go_loopw [7, 8] (fun o i wr => o = .slice none 0 0 ∧ i = .int .i64 0 ∧ w = wr) (fun _ _ _ => 0)
    case atStart => exact ⟨rfl, rfl, rfl⟩
    case round =>
      obtain ⟨rfl, rfl, rfl⟩ := hrel
      go_wp2_with (go_at_call 103; refine (rmay3_c _ hq _).mono ?_; rintro e w' ⟨rfl, rfl⟩; rw [h'])
      go_ret
      have : pScale a k q = [] := by unfold pScale; rw [if_neg h]
      rw [this]
      exact ⟨_, rfl, Own.nil _ _ _, Below.refl _ _⟩

end Go.Proofs.Ytnmadmcegdpecaa
