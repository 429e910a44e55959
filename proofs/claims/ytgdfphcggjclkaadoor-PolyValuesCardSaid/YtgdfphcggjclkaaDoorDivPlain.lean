/-
  Plain numbers: the division of two words by one (Knuth's step), and the shift ahead of it.
-/
import Derived.Lib.BitFns
import Derived.Lib.ItoaNum
import Derived.Laws.BitsAllLaws
import Derived.Test.YtgdfphcggjclkaaDoorPlain
namespace Go.Proofs.YtgdfphcggjclkaaDoor

theorem two63 : (2:Nat) ^ 63 = 9223372036854775808 := by decide
theorem two64 : (2:Nat) ^ 64 = 18446744073709551616 := by decide

/-- what the shift makes of a divisor and of the number. -/
theorem shifted (hi lo y : Nat) (hh : hi < y) (hy : y < 18446744073709551616) (hl : lo < 18446744073709551616) :
    ∃ k Y U L : Nat, k ≤ 63 ∧ 64 - Lib.bitLen y = k ∧ Lib.bitLen y ≤ 64 ∧ Y = y * 2 ^ k ∧ 9223372036854775808 ≤ Y ∧ Y < 18446744073709551616 ∧ U = hi * 2 ^ k + lo / 2 ^ (64 - k) ∧ U < Y ∧
      L = lo * 2 ^ k % 18446744073709551616 ∧ U * 18446744073709551616 + L = (hi * 18446744073709551616 + lo) * 2 ^ k ∧
      lo / 2 ^ (64 - k) < 2 ^ k ∧ hi * 2 ^ k < 18446744073709551616 := by
  obtain ⟨h1, h2, h3⟩ := Lib.bitLenAux_bounds 64 y (by rw [two64]; exact hy) (by omega)
  have h4 : Lib.bitLen y ≤ 64 := Lib.bitLen_le y 64 (by omega) (by rw [two64]; exact hy)
  change 1 ≤ Lib.bitLen y at h1
  change 2 ^ (Lib.bitLen y - 1) ≤ y at h2
  change y < 2 ^ Lib.bitLen y at h3
  generalize Lib.bitLen y = b at *
  have e1 : (2:Nat) ^ (b - 1) * 2 ^ (64 - b) = 2 ^ 63 := by rw [← Nat.pow_add]; congr 1; omega
  have e2 : (2:Nat) ^ b * 2 ^ (64 - b) = 2 ^ 64 := by rw [← Nat.pow_add]; congr 1; omega
  have e3 : (2:Nat) ^ (64 - (64 - b)) * 2 ^ (64 - b) = 2 ^ 64 := by rw [← Nat.pow_add]; congr 1; omega
  have hp : 0 < (2:Nat) ^ (64 - b) := Nat.pos_of_ne_zero (by simp)
  have hY1 : 2 ^ 63 ≤ y * 2 ^ (64 - b) := by rw [← e1]; exact Nat.mul_le_mul_right _ h2
  have hY2 : y * 2 ^ (64 - b) < 2 ^ 64 := by rw [← e2]; exact (Nat.mul_lt_mul_right hp).2 h3
  rw [two63] at hY1
  rw [two64] at hY2 e3
  have hlo : lo / 2 ^ (64 - (64 - b)) < 2 ^ (64 - b) := by
    rw [Nat.div_lt_iff_lt_mul (Nat.pos_of_ne_zero (by simp)), Nat.mul_comm, e3]; exact hl
  have hs : lo * 2 ^ (64 - b) / 18446744073709551616 = lo / 2 ^ (64 - (64 - b)) := by
    rw [← e3, Nat.mul_div_mul_right _ _ hp]
  have hd := Nat.div_add_mod (lo * 2 ^ (64 - b)) 18446744073709551616
  rw [hs] at hd
  have hhy : (hi + 1) * 2 ^ (64 - b) ≤ y * 2 ^ (64 - b) := Nat.mul_le_mul_right _ hh
  rw [Nat.add_mul, Nat.one_mul] at hhy
  refine ⟨64 - b, _, _, _, by omega, rfl, h4, rfl, hY1, hY2, rfl, by omega, rfl, ?_, hlo, by omega⟩
  rw [Nat.add_mul, Nat.add_mul, Nat.mul_right_comm hi]
  generalize hi * 2 ^ (64 - b) = A at *
  omega

/-- the loop's relation: u is what is divided by y1 2^32 + y0, with d behind it; q is a guess that is not too small, r what it leaves of y1. -/
structure DI (u d y1 y0 q r : Int) : Prop where
  q0 : 0 ≤ q
  q1 : q ≤ 4294967297
  r0 : 0 ≤ r
  r1 : r < 4294967296
  eq : q * y1 + r = u
  big : u * 4294967296 + d < (q + 1) * (y1 * 4294967296 + y0)
/-- what the loop comes to. -/
structure DE (u d Y q : Int) : Prop where
  q0 : 0 ≤ q
  q1 : q < 4294967296
  lo : q * Y ≤ u * 4294967296 + d
  hi : u * 4294967296 + d < (q + 1) * Y

structure DB (u d y1 y0 : Int) : Prop where
  y1lo : 2147483648 ≤ y1
  y1hi : y1 < 4294967296
  y0lo : 0 ≤ y0
  y0hi : y0 < 4294967296
  d0 : 0 ≤ d
  d1 : d < 4294967296
  u0 : 0 ≤ u
  u1 : u < y1 * 4294967296 + y0

theorem DI.start {u d y1 y0 : Int} (b : DB u d y1 y0) : DI u d y1 y0 (u / y1) (u - u / y1 * y1) := by
  obtain ⟨a1, a2, a3, a4, a5, a6, a7, a8⟩ := b
  have hq0 : 0 ≤ u / y1 := Int.ediv_nonneg a7 (by omega)
  have hm1 := Int.emod_nonneg u (b := y1) (by omega)
  have hm2 := Int.emod_lt_of_pos u (b := y1) (by omega)
  have hdm := Int.ediv_mul_add_emod u y1
  generalize u / y1 = q at *
  generalize u % y1 = r at *
  have hr : u - q * y1 = r := by omega
  rw [hr]
  have hq1 : q ≤ 4294967297 := by
    apply Classical.byContradiction
    intro hc
    have hc : 4294967298 ≤ q := by omega
    have h := Int.mul_le_mul_of_nonneg_right hc (show (0:Int) ≤ y1 by omega)
    omega
  refine ⟨hq0, hq1, hm1, by omega, hdm, ?_⟩
  have e : (q + 1) * (y1 * 4294967296 + y0) = (q * y1) * 4294967296 + y1 * 4294967296 + (q + 1) * y0 := by grind
  have hp : 0 ≤ (q + 1) * y0 := Int.mul_nonneg (by omega) a3
  omega

theorem DI.fits {u d y1 y0 q r : Int} (b : DB u d y1 y0) (h : DI u d y1 y0 q r) (hq : q < 4294967296) : q * y0 < 18446744073709551616 ∧ 0 ≤ q * y0 := by
  obtain ⟨a1, a2, a3, a4, a5, a6, a7, a8⟩ := b
  refine ⟨?_, Int.mul_nonneg h.q0 a3⟩
  have h1 := Int.mul_le_mul (show q ≤ 4294967295 by omega) (show y0 ≤ 4294967295 by omega) a3 (by omega)
  omega

theorem DI.done {u d y1 y0 q r : Int} (h : DI u d y1 y0 q r) (hq : q < 4294967296) (hc : q * y0 ≤ 4294967296 * r + d) : DE u d (y1 * 4294967296 + y0) q := by
  refine ⟨h.q0, hq, ?_, h.big⟩
  have e : q * (y1 * 4294967296 + y0) = (q * y1) * 4294967296 + q * y0 := by grind
  have := h.eq
  omega

theorem DI.greater {u d y1 y0 q r : Int} (b : DB u d y1 y0) (h : DI u d y1 y0 q r) (hc : 4294967296 ≤ q ∨ 4294967296 * r + d < q * y0) : u * 4294967296 + d < q * (y1 * 4294967296 + y0) := by
  obtain ⟨a1, a2, a3, a4, a5, a6, a7, a8⟩ := b
  have e : q * (y1 * 4294967296 + y0) = (q * y1) * 4294967296 + q * y0 := by grind
  have := h.eq
  rcases hc with hc | hc
  · have h1 := Int.mul_le_mul_of_nonneg_right hc (show (0:Int) ≤ y1 * 4294967296 + y0 by omega)
    omega
  · omega

theorem DI.pos {u d y1 y0 q r : Int} (b : DB u d y1 y0) (h : DI u d y1 y0 q r) (hc : 4294967296 ≤ q ∨ 4294967296 * r + d < q * y0) : 1 ≤ q := by
  rcases hc with hc | hc
  · omega
  · apply Classical.byContradiction
    intro hn
    have h0 : q = 0 := by have := h.q0; omega
    subst h0
    have := h.r0; have := b.d0
    omega

theorem DI.step {u d y1 y0 q r : Int} (b : DB u d y1 y0) (h : DI u d y1 y0 q r) (hc : 4294967296 ≤ q ∨ 4294967296 * r + d < q * y0) (hr : r + y1 < 4294967296) : DI u d y1 y0 (q - 1) (r + y1) := by
  have hg := h.greater b hc
  have hp := h.pos b hc
  obtain ⟨a1, a2, a3, a4, a5, a6, a7, a8⟩ := b
  have he := h.eq
  have := h.q1; have := h.r0
  refine ⟨by omega, by omega, by omega, hr, ?_, ?_⟩
  · rw [Int.sub_mul]; omega
  · rw [show q - 1 + 1 = q by omega]; exact hg

theorem DI.last {u d y1 y0 q r : Int} (b : DB u d y1 y0) (h : DI u d y1 y0 q r) (hc : 4294967296 ≤ q ∨ 4294967296 * r + d < q * y0) (hr : 4294967296 ≤ r + y1) : DE u d (y1 * 4294967296 + y0) (q - 1) := by
  have hg := h.greater b hc
  have hp := h.pos b hc
  obtain ⟨a1, a2, a3, a4, a5, a6, a7, a8⟩ := b
  have he := h.eq
  have := h.q1; have := h.r0
  have hlo : (q - 1) * (y1 * 4294967296 + y0) ≤ u * 4294967296 + d := by
    have e : (q - 1) * (y1 * 4294967296 + y0) = (q * y1) * 4294967296 - y1 * 4294967296 + (q - 1) * y0 := by grind
    have h1 := Int.mul_le_mul (show q - 1 ≤ 4294967296 by omega) (show y0 ≤ 4294967295 by omega) a3 (by omega)
    omega
  have hq : q - 1 < 4294967296 := by
    apply Classical.byContradiction
    intro hn
    have hn : 4294967296 ≤ q - 1 := by omega
    have h1 := Int.mul_le_mul_of_nonneg_right hn (show (0:Int) ≤ y1 * 4294967296 + y0 by omega)
    omega
  refine ⟨by omega, hq, hlo, ?_⟩
  rw [show q - 1 + 1 = q by omega]; exact hg

/-- the remainder by the shifted divisor is the shifted remainder. -/
theorem unshift (N y k R Q : Nat) (hy : 0 < y) (h : Q * (y * 2 ^ k) + R = N * 2 ^ k) (hR : R < y * 2 ^ k) : R / 2 ^ k = N % y := by
  have hp : 0 < (2:Nat) ^ k := Nat.pos_of_ne_zero (by simp)
  have e : R = (N * 2 ^ k) % (y * 2 ^ k) := by
    rw [← h, Nat.mul_comm Q, Nat.mul_add_mod, Nat.mod_eq_of_lt hR]
  rw [e, Nat.mul_mod_mul_right, Nat.mul_div_cancel _ hp]

end Go.Proofs.YtgdfphcggjclkaaDoor
