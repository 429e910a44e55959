/-
  Inverses: the reference's.
-/
import Derived.Test.YtnmadmcegdpecaaInv
import Derived.IntWalk
import Derived.Test.YtnmadmcegdpecaaNum
namespace Go.Proofs.Ytnmadmcegdpecaa
open Go.RowKit

attribute [local go_sem] Oper.semAt_some

/-- what Euclid tells of two. -/
structure Bo (a b g x y : Int) : Prop where
  eq : a * x + b * y = g
  da : g ∣ a
  db : g ∣ b
  g0 : 0 ≤ g
  g1 : g ≤ a ∨ g ≤ b
  x0 : -(max 1 b) ≤ x
  x1 : x ≤ max 1 b
  y0 : -(max 1 a) ≤ y
  y1 : y ≤ max 1 a
  z : b = 0 → x = 1 ∧ y = 0
  z2 : a = 0 → b ≠ 0 → x = 0
theorem Bo.base {a : Int} (h : 0 ≤ a) : Bo a 0 a 1 0 := ⟨by omega, Int.dvd_refl _, Int.dvd_zero _, h, .inl (Int.le_refl _), by omega, by omega, by omega, by omega, fun _ => ⟨rfl, rfl⟩, fun _ h => absurd rfl h⟩
theorem Bo.step {a b g x y : Int} (ha : 0 ≤ a) (hb : 0 < b) (h : Bo b (a % b) g x y) : Bo a b g y (x - a / b * y) := by
  have f1 := Int.emod_nonneg a (b := b) (by omega)
  have f2 := Int.emod_lt_of_pos a hb
  have f3 := Int.mul_ediv_add_emod a b
  have q0 : 0 ≤ a / b := Int.ediv_nonneg ha (by omega)
  obtain ⟨heq, hda, hdb, hg0, hg1, hx0, hx1, hy0, hy1, hz, hz2⟩ := h
  generalize a / b = t at *
  generalize a % b = r at *
  have hy0' : -b ≤ y := by omega
  have hy1' : y ≤ b := by omega
  have m1 := Int.mul_le_mul_of_nonneg_left hy1' q0
  have m2 := Int.mul_le_mul_of_nonneg_left hy0' q0
  have e1 : t * b = b * t := Int.mul_comm _ _
  have e2 : t * -b = -(b * t) := by grind
  rw [e1] at m1
  rw [e2] at m2
  refine ⟨?_, ?_, hda, hg0, ?_, by omega, by omega, ?_, ?_, fun h => by omega, fun h0 _ => ?_⟩
  · rw [← f3]; rw [← heq]; grind
  · rw [← f3]; exact Int.dvd_add (Int.dvd_trans hda (Int.dvd_mul_right _ _)) hdb
  · exact .inr (by omega)
  · by_cases hr : r = 0
    · obtain ⟨rfl, rfl⟩ := hz hr; omega
    · omega
  · by_cases hr : r = 0
    · obtain ⟨rfl, rfl⟩ := hz hr; omega
    · omega
  · have hr : r = 0 := by
      have : 0 ≤ b * t := Int.mul_nonneg (by omega) q0
      omega
    exact (hz hr).2
theorem Bo.wrap {a b g x y : Int} (ha : 0 ≤ a) (hb : 0 < b) (h : Bo b (a % b) g x y) (la : a ≤ 2305843009213693952) (lb : b ≤ 2305843009213693952) : -2305843009213693953 ≤ a / b * y ∧ a / b * y ≤ 2305843009213693953 := by
  have f1 := Int.emod_nonneg a (b := b) (by omega)
  have f3 := Int.mul_ediv_add_emod a b
  have q0 : 0 ≤ a / b := Int.ediv_nonneg ha (by omega)
  obtain ⟨_, _, _, _, _, _, _, hy0, hy1, _, _⟩ := h
  generalize a / b = t at *
  generalize a % b = r at *
  have hy0' : -b ≤ y := by omega
  have hy1' : y ≤ b := by omega
  have m1 := Int.mul_le_mul_of_nonneg_left hy1' q0
  have m2 := Int.mul_le_mul_of_nonneg_left hy0' q0
  have e1 : t * b = b * t := Int.mul_comm _ _
  have e2 : t * -b = -(b * t) := by grind
  rw [e1] at m1
  rw [e2] at m2
  omega

def BothE (a b : Int) (w : World) (e : Ending) (w' : World) : Prop := ∃ g x y, e = .returned (.tuple #[.int .i64 g, .int .i64 x, .int .i64 y]) ∧ Bo a b g x y ∧ Dr w w'

set_option maxRecDepth 100000 in
set_option maxHeartbeats 2000000 in
theorem both_c : ∀ (n : Nat) (a b : Int) (w : World), 0 ≤ a → a ≤ 2305843009213693952 → 0 ≤ b → b ≤ 2305843009213693952 → b < n →
    Calls Try.prog 115 #[.int .i64 a, .int .i64 b] w (BothE a b w)
  | 0, _, _, _, _, _, h, _, h' => by omega
  | n + 1, a, b, w, ha, la, hb, lb, hn => by
    by_cases hz : b = 0
    · subst hz
      go_enter Try.func115, Try.ntmps115
      go_wp2
      go_ret3
      exact ⟨_, _, _, rfl, Bo.base ha, Dr.refl _⟩
    · have hp : 0 < b := by omega
      have hbz : (b == 0) = false := beq_eq_false_iff_ne.2 hz
      have f1 := Int.emod_nonneg a (b := b) (by omega)
      have f2 := Int.emod_lt_of_pos a hp
      have f4 : 0 ≤ a / b := Int.ediv_nonneg ha (by omega)
      have f5 : a / b ≤ a := Int.ediv_le_self _ ha
      go_enter Try.func115, Try.ntmps115
      go_wp2_with (fail)
      refine (both_c n b (a % b) _ (by omega) lb f1 (by omega) (by omega)).mono ?_
      rintro e w2 ⟨g, x, y, rfl, hB, hw2⟩
      have hS := hid (hB.step ha hp)
      have hW := hB.wrap ha hp la lb
      have x0 := hB.x0
      have x1 := hB.x1
      have hwr1 : IntKind.i64.wrap (a / b * y) = a / b * y := Go.IntWalk.i64_in _ (by omega)
      have hwr2 : IntKind.i64.wrap (x - a / b * y) = x - a / b * y := Go.IntWalk.i64_in _ (by omega)
      have htd : a.tdiv b = a / b := Int.tdiv_eq_ediv_of_nonneg ha
      clear hB
      go_wp2
      go_quiet (fail)
      go_wp2
      go_ret3
      exact ⟨_, _, _, rfl, hS.out, hw2.more _⟩

theorem inv_hi {a m g x y : Int} (h : okm m = true) (hB : Bo (a % m) m g x y) (hg : g = 1) (hx : 0 ≤ x) : InvIs a m (x % m) := by
  have h0 := okm_pos h
  refine ⟨Int.emod_nonneg _ (by omega), Int.emod_lt_of_pos _ h0, ?_⟩
  have heq := hB.eq
  have e1 := Int.emod_def x m
  have e2 := Int.emod_def a m
  rw [e2] at heq
  rw [e1]
  generalize x / m = u at *
  generalize a / m = v at *
  exact ⟨v * x - y - u * a, by grind⟩
theorem inv_lo {a m g x y : Int} (h : okm m = true) (hB : Bo (a % m) m g x y) (hg : g = 1) (hx : x < 0) : InvIs a m (m - (-x) % m) := by
  have h0 := okm_pos h
  have heq := hB.eq
  have f1 := Int.emod_nonneg (-x) (b := m) (by omega)
  have f2 := Int.emod_lt_of_pos (-x) h0
  have hne : (-x) % m ≠ 0 := by
    intro hz
    have hd : m ∣ x := by
      have : m ∣ -x := Int.dvd_of_emod_eq_zero hz
      exact (Int.dvd_neg).1 this
    have h1 : m ∣ 1 := by
      rw [← hg, ← heq]
      exact Int.dvd_add (Int.dvd_trans hd (Int.dvd_mul_left _ _)) (Int.dvd_mul_right _ _)
    have h2 := Int.le_of_dvd (by decide) h1
    obtain rfl : m = 1 := by omega
    have := hB.z2 (by omega) (by decide)
    omega
  refine ⟨by omega, by omega, ?_⟩
  have e1 := Int.emod_def (-x) m
  have e2 := Int.emod_def a m
  rw [e2] at heq
  rw [e1]
  generalize -x / m = u at *
  generalize a / m = v at *
  exact ⟨v * x - y + a + u * a, by grind⟩
theorem inv_none {a m g x y : Int} (hB : Bo (a % m) m g x y) (hg : g ≠ 1) : ¬ ∃ z, InvIs a m z := by
  rintro ⟨z, _, _, k, hk⟩
  have h1 := hB.db
  have h2 : g ∣ a := by
    rw [← Int.mul_ediv_add_emod a m]
    exact Int.dvd_add (Int.dvd_trans h1 (Int.dvd_mul_right _ _)) hB.da
  have h3 : g ∣ 1 := by
    have : (1 : Int) = z * a - m * k := by omega
    rw [this]
    exact Int.dvd_sub (Int.dvd_trans h2 (Int.dvd_mul_left _ _)) (Int.dvd_trans h1 (Int.dvd_mul_right _ _))
  have h4 := Int.le_of_dvd (by decide) h3
  have h5 := hB.g0
  rcases Int.lt_or_eq_of_le h5 with h6 | h6
  · omega
  · rw [← h6] at h3
    have := Int.zero_dvd.1 h3
    omega

set_option maxRecDepth 100000 in
set_option maxHeartbeats 2000000 in
theorem rinv_c (a m : Int) (ha : U64 a) (hm : U64 m) (w : World) :
    Calls Try.prog 99 #[.int .u64 a, .int .u64 m] w fun e w' => e = .returned (.tuple #[.int .u64 (iVal a m), .int .i64 (iErr a m)]) ∧ Dr w w' := by
  obtain ⟨a0, a1⟩ := ha
  obtain ⟨m0, m1⟩ := hm
  by_cases h : okm m = true
  · have h0 := okm_pos h
    have h1 := okm_le h
    have f1 := Int.emod_nonneg a (b := m) (by omega)
    have f2 := Int.emod_lt_of_pos a h0
    have hmz : (m == 0) = false := beq_eq_false_iff_ne.2 (by omega)
    go_enter Try.func99, Try.ntmps99
    go_wp2_with (fail)
    refine (both_c (m.toNat + 1) (a % m) m _ f1 (by omega) (by omega) h1 (by omega)).mono ?_
    rintro e w2 ⟨g, x, y, rfl, hB, hw2⟩
    have x0 := hB.x0
    have x1 := hB.x1
    have g0 := hB.g0
    have g1 := hB.g1
    by_cases hg : g = 1
    · by_cases hx : 0 ≤ x
      · have v1 := hid (iVal_is h (inv_hi h hB hg hx))
        have v2 := hid (iErr_is h (inv_hi h hB hg hx))
        clear hB
        subst hg
        go_wp2
        go_ret2
        rw [v1.out, v2.out]
        exact ⟨rfl, hw2⟩
      · have hx' : x < 0 := by omega
        have v1 := hid (iVal_is h (inv_lo h hB hg hx'))
        have v2 := hid (iErr_is h (inv_lo h hB hg hx'))
        have f3 := Int.emod_nonneg (-x) (b := m) (by omega)
        have f4 := Int.emod_lt_of_pos (-x) h0
        have htm : x.tmod m = -((-x) % m) := by
          have e1 := Int.neg_tmod x m
          rw [Int.tmod_eq_emod_of_nonneg (by omega)] at e1
          omega
        have hwr : IntKind.u64.wrap (m + x.tmod m) = m - (-x) % m := by
          rw [htm]; exact (Go.IntWalk.u64_in _ (by omega)).trans (by omega)
        clear htm
        clear hB
        subst hg
        go_wp2
        go_ret2
        rw [v1.out, v2.out]
        exact ⟨rfl, hw2⟩
    · have hn := inv_none hB hg
      have v1 := hid (iVal_none hn)
      have v2 := hid (iErr_none h hn)
      have hbg : (g != 1) = true := bne_iff_ne.2 hg
      clear hB hn
      go_wp2
      go_ret2
      rw [v1.out, v2.out]
      exact ⟨rfl, hw2⟩
  · have h' : okm m = false := by simpa using h
    have v1 := hid (iVal_no (a := a) h')
    have v2 := hid (iErr_no (a := a) h')
    rcases okm_ways h m0 with rfl | ⟨hgt, hmz⟩
    all_goals
      go_enter Try.func99, Try.ntmps99
      go_wp2
      go_ret2
      rw [v1.out, v2.out]
      exact ⟨rfl, Dr.refl _⟩

end Go.Proofs.Ytnmadmcegdpecaa
