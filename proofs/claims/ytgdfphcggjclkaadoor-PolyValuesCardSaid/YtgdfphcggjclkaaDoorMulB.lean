/-
  The walks of products, powers, and the numbers of whole numbers.
-/
import Derived.Test.YtgdfphcggjclkaaDoorDivB
namespace Go.Proofs.YtgdfphcggjclkaaDoor
open Go.RowKit

/-- the product of two words as two words. -/
theorem mul64_c (x y : Nat) (hx : x < 18446744073709551616) (hy : y < 18446744073709551616) : ∃ hi lo : Nat, hi < 18446744073709551616 ∧ lo < 18446744073709551616 ∧ hi * 18446744073709551616 + lo = x * y ∧
    ∀ w : World, Calls Tryd.prog 62 #[.int .u64 x, .int .u64 y] w fun e w' => e = .returned (.tuple #[.int .u64 (hi : Int), .int .u64 (lo : Int)]) ∧ w' = w := by
  refine ⟨_, _, ?_, ?_, Nat.div_add_mod' _ 18446744073709551616, fun w => bits_Mul64 x y hx hy w⟩
  · have := Nat.mul_lt_mul'' hx hy
    omega
  · omega

set_option maxHeartbeats 400000 in
theorem mul_c (a b m : Int) (ha : U64 a) (hb : U64 b) (hm : U64 m) (w : World) :
    Calls Tryd.prog 22 #[.int .u64 a, .int .u64 b, .int .u64 m] w fun e w' => e = .returned (.int .u64 (mMul a b m)) ∧ ∃ n, w' = w.drewN n := by
  have hm' := hm
  obtain ⟨a1, a2⟩ := ha
  obtain ⟨b1, b2⟩ := hb
  obtain ⟨m1, m2⟩ := hm
  by_cases h : okm m = true
  · have h0 := okm_pos h
    have h1 := okm_le h
    obtain ⟨m, rfl⟩ := Int.eq_ofNat_of_zero_le m1
    obtain ⟨a, rfl⟩ := Int.eq_ofNat_of_zero_le a1
    obtain ⟨b, rfl⟩ := Int.eq_ofNat_of_zero_le b1
    have x1 : a % m < m := Nat.mod_lt _ (by omega)
    have y1 : b % m < m := Nat.mod_lt _ (by omega)
    obtain ⟨x, hx⟩ : ∃ x, a % m = x := ⟨_, rfl⟩
    obtain ⟨y, hy⟩ : ∃ y, b % m = y := ⟨_, rfl⟩
    have hX : (a : Int) % (m : Int) = (x : Int) := by omega
    have hY : (b : Int) % (m : Int) = (y : Int) := by omega
    rw [hx] at x1
    rw [hy] at y1
    obtain ⟨hi, lo, q1, q2, q3, hC⟩ := mul64_c x y (by omega) (by omega)
    have hfin : mMul (a : Int) (b : Int) (m : Int) = (((hi * 18446744073709551616 + lo) % m : Nat) : Int) := by
      rw [mMul_ok h, q3, ← hx, ← hy, ← Nat.mul_mod]; simp
    have H := hid hx
    have H2 := hid hy
    have H3 := hid hfin
    have HC := hid hC
    clear hx hy hfin q3 hC
    go_enter Tryd.func22, Tryd.ntmps22
    go_wp2_with (go_at_call 61; refine (may_c _ hm' _).mono ?_; rintro e w' ⟨rfl, rfl⟩)
    go_quiet ((go_at_call 62; exact Calls.quiet_of_same (HC.out _)))
    go_wp2_with (go_at_call 63; refine (rem64_c hi lo m q1 (by omega) (by omega) q2 _).mono ?_; rintro e w' ⟨rfl, n, rfl⟩)
    go_ret
    exact ⟨ret_int H3.out.symm, _, rfl⟩
  · have h' : okm m = false := by simpa using h
    go_enter Tryd.func22, Tryd.ntmps22
    go_wp2_with (go_at_call 61; refine (may_c _ hm' _).mono ?_; rintro e w' ⟨rfl, rfl⟩)
    go_ret
    exact ⟨ret_int (mMul_no h').symm, 0, rfl⟩

end Go.Proofs.YtgdfphcggjclkaaDoor
