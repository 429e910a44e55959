/-
  The walks of products, powers, and the numbers of whole numbers.
-/
import Derived.Test.YtnmadmcegdpecaaDiv
namespace Go.Proofs.Ytnmadmcegdpecaa
open Go.RowKit

/-- the product of two words as two words. -/
theorem mul64_c (x y : Nat) (hx : x < 18446744073709551616) (hy : y < 18446744073709551616) : ∃ hi lo : Nat, hi < 18446744073709551616 ∧ lo < 18446744073709551616 ∧ hi * 18446744073709551616 + lo = x * y ∧
    ∀ w : World, Calls Try.prog 83 #[.int .u64 x, .int .u64 y] w fun e w' => e = .returned (.tuple #[.int .u64 (hi : Int), .int .u64 (lo : Int)]) ∧ w' = w := by
  refine ⟨_, _, ?_, ?_, Nat.div_add_mod' _ 18446744073709551616, fun w => bits_Mul64 x y hx hy w⟩
  · have := Nat.mul_lt_mul'' hx hy
    omega
  · omega

set_option maxHeartbeats 400000 in
theorem mul_c (a b m : Int) (ha : U64 a) (hb : U64 b) (hm : U64 m) (w : World) :
    Calls Try.prog 33 #[.int .u64 a, .int .u64 b, .int .u64 m] w fun e w' => e = .returned (.int .u64 (mMul a b m)) ∧ ∃ n, w' = w.drewN n := by
  have hm' := hm
  obtain ⟨a1, a2⟩ := ha
  obtain ⟨b1, b2⟩ := hb
  obtain ⟨m1, m2⟩ := hm
  by_cases h : okm m = true
  · have h0 := okm_pos h
    have h1 := okm_le h
    obtain ⟨m, rfl⟩ := Int.eq_ofNat_of_zero_le m1
    obtain ⟨a, rfl⟩ := Int.eq_ofNat_of_zero_le a1
    obtain ⟨b, rfl⟩ := Int.eq_ofNat_of_zero_le b1
    have x1 : a % m < m := Nat.mod_lt _ (by omega)
    have y1 : b % m < m := Nat.mod_lt _ (by omega)
    obtain ⟨x, hx⟩ : ∃ x, a % m = x := ⟨_, rfl⟩
    obtain ⟨y, hy⟩ : ∃ y, b % m = y := ⟨_, rfl⟩
    have hX : (a : Int) % (m : Int) = (x : Int) := by omega
    have hY : (b : Int) % (m : Int) = (y : Int) := by omega
    rw [hx] at x1
    rw [hy] at y1
    obtain ⟨hi, lo, q1, q2, q3, hC⟩ := mul64_c x y (by omega) (by omega)
    have hfin : mMul (a : Int) (b : Int) (m : Int) = (((hi * 18446744073709551616 + lo) % m : Nat) : Int) := by
      rw [mMul_ok h, q3, ← hx, ← hy, ← Nat.mul_mod]; simp
    have H := hid hx
    have H2 := hid hy
    have H3 := hid hfin
    have HC := hid hC
    clear hx hy hfin q3 hC
    go_enter Try.func33, Try.ntmps33
    go_wp2_with (go_at_call 82; refine (may_c _ hm' _).mono ?_; rintro e w' ⟨rfl, rfl⟩)
    go_quiet ((go_at_call 83; exact Calls.quiet_of_same (HC.out _)))
    go_wp2_with (go_at_call 84; refine (rem64_c hi lo m q1 (by omega) (by omega) q2 _).mono ?_; rintro e w' ⟨rfl, n, rfl⟩)
    go_ret
    exact ⟨ret_int H3.out.symm, _, rfl⟩
  · have h' : okm m = false := by simpa using h
    go_enter Try.func33, Try.ntmps33
    go_wp2_with (go_at_call 82; refine (may_c _ hm' _).mono ?_; rintro e w' ⟨rfl, rfl⟩)
    go_ret
    exact ⟨ret_int (mMul_no h').symm, 0, rfl⟩

/-- a world behind some draws. -/
def Dr (w w' : World) : Prop := ∃ n, w' = w.drewN n
theorem Dr.refl (w : World) : Dr w w := ⟨0, rfl⟩
theorem Dr.more {w w' : World} (h : Dr w w') (n : Nat) : Dr w (w'.drewN n) := by
  obtain ⟨m, rfl⟩ := h
  exact ⟨_, World.drewN_drewN _ _ _⟩
theorem Dr.cell {w w' : World} (h : Dr w w') (p : Addr) : w'.cell? p = w.cell? p := by
  obtain ⟨m, rfl⟩ := h; rfl
theorem Dr.trans {a b c : World} (h : Dr a b) (k : Dr b c) : Dr a c := by
  obtain ⟨m, rfl⟩ := k
  exact h.more m

set_option maxHeartbeats 400000 in
theorem rmul_c (a b m : Int) (ha : U64 a) (hb : U64 b) (hm : U64 m) (w : World) :
    Calls Try.prog 78 #[.int .u64 a, .int .u64 b, .int .u64 m] w fun e w' => e = .returned (.int .u64 (mMul a b m)) ∧ Dr w w' := by
  go_enter Try.func78, Try.ntmps78
  go_wp2
  go_loopw [0, 1, 7] (fun x y z wr => ∃ a' b' o : Int, x = .int .u64 a' ∧ y = .int .u64 b' ∧ z = .int .u64 o ∧ U64 a' ∧ U64 b' ∧ U64 o ∧ Dr w wr ∧ DblInv a b m a' b' o) (fun _ y _ _ => (intOf y).toNat)
  case atStart => exact ⟨a, b, 0, rfl, rfl, rfl, ha, hb, ⟨by omega, by omega⟩, Dr.refl w, DblInv.start a b m⟩
  case round =>
    obtain ⟨a', b', o, rfl, rfl, rfl, ha', hb', ho, hw, hd⟩ := hrel
    obtain ⟨b1, b2⟩ := id hb'
    obtain ⟨m1, m2⟩ := id hm
    by_cases hb0 : 0 < b'
    · by_cases h2 : b' % 2 = 1
      · have hx : (b' % 2 == 1) = true := by simp [h2]
        have hn := DblInv.odd hd h2 (by omega)
        clear h2
        go_wp2_with (fail)
        refine (radd_c _ _ _ ho ha' hm _).mono ?_; rintro e w1 ⟨rfl, n1, rfl⟩
        go_wp2_with (fail)
        refine (radd_c _ _ _ ha' ha' hm _).mono ?_; rintro e w1 ⟨rfl, n2, rfl⟩
        go_wp2
        go_roundw
        case rel => exact ⟨_, _, _, rfl, rfl, rfl, mAdd_u64 _ _ _, ⟨by omega, by omega⟩, mAdd_u64 _ _ _, by first | exact (hw.more n1).more n2 | exact hw.more (n1 + n2), hn⟩
        case measure => simp [intOf]; omega
      · have hx : (b' % 2 == 1) = false := by simp [h2]
        have hn := DblInv.even hd (by omega) (by omega)
        clear h2
        go_wp2_with (fail)
        refine (radd_c _ _ _ ha' ha' hm _).mono ?_; rintro e w1 ⟨rfl, n2, rfl⟩
        go_wp2
        go_roundw
        case rel => exact ⟨_, _, _, rfl, rfl, rfl, mAdd_u64 _ _ _, ⟨by omega, by omega⟩, ho, hw.more n2, hn⟩
        case measure => simp [intOf]; omega
    · have hfin := DblInv.done hd (by omega)
      go_wp2
      go_ret
      exact ⟨rfl, hw⟩

set_option maxHeartbeats 400000 in
theorem rpow_c (a m : Int) (ha : U64 a) (hm : U64 m) : ∀ (n : Nat) (e : Nat), e ≤ n → e < 18446744073709551616 → ∀ w : World,
    Calls Try.prog 106 #[.int .u64 a, .int .u64 (e : Int), .int .u64 m] w fun en w' => en = .returned (.int .u64 (mPow a e m)) ∧ Dr w w' := by
  intro n
  induction n with
  | zero =>
    intro e he _ w
    obtain rfl : e = 0 := by omega
    go_enter Try.func106, Try.ntmps106
    go_wp2_with (fail)
    refine (radd_c _ _ _ ⟨by omega, by omega⟩ ⟨by omega, by omega⟩ hm _).mono ?_; rintro e w1 ⟨rfl, n2, rfl⟩
    go_wp2
    go_ret
    exact ⟨ret_int (mPow_zero a m).symm, _, rfl⟩
  | succ n ih =>
    intro e he hlt w
    by_cases h0 : e = 0
    · subst h0
      exact ih 0 (by omega) (by omega) w
    have ih' := hid (ih (e / 2) (by omega) (by omega))
    clear ih
    have hz : ((e : Int) == 0) = false := by simp; omega
    have hh : (e : Int) / 2 = ((e / 2 : Nat) : Int) := by omega
    obtain ⟨k, hk⟩ : ∃ k, e / 2 = k := ⟨_, rfl⟩
    rw [hk] at ih' hh
    have hhalf := mPow_u64 a k m
    by_cases h2 : e % 2 = 1
    · have hx : ((e : Int) % 2 == 1) = true := by simp; omega
      have hfin : mPow a e m = mMul (mMul (mPow a k m) (mPow a k m) m) a m := by rw [← mPow_odd, show 2 * k + 1 = e by omega]
      have HF := hid hfin
      clear hfin hk h2 h0
      go_enter Try.func106, Try.ntmps106
      go_wp2_with (fail)
      refine (ih'.out _).mono ?_; rintro e1 w1 ⟨rfl, hw1⟩
      go_wp2_with (fail)
      refine (rmul_c _ _ _ hhalf hhalf hm _).mono ?_; rintro e1 w2 ⟨rfl, hw2⟩
      go_wp2_with (fail)
      refine (rmul_c _ _ _ (mMul_u64 _ _ _) ha hm _).mono ?_; rintro e1 w3 ⟨rfl, hw3⟩
      go_wp2
      go_ret
      exact ⟨ret_int HF.out.symm, (hw1.trans hw2).trans hw3⟩
    · have hx : ((e : Int) % 2 == 1) = false := by simp; omega
      have hfin : mPow a e m = mMul (mPow a k m) (mPow a k m) m := by rw [← mPow_even, show 2 * k = e by omega]
      have HF := hid hfin
      clear hfin hk h2 h0
      go_enter Try.func106, Try.ntmps106
      go_wp2_with (fail)
      refine (ih'.out _).mono ?_; rintro e1 w1 ⟨rfl, hw1⟩
      go_wp2_with (fail)
      refine (rmul_c _ _ _ hhalf hhalf hm _).mono ?_; rintro e1 w2 ⟨rfl, hw2⟩
      go_wp2
      go_ret
      exact ⟨ret_int HF.out.symm, hw1.trans hw2⟩

end Go.Proofs.Ytnmadmcegdpecaa
