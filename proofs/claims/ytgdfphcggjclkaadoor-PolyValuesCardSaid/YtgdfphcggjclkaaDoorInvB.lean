/-
  Inverses: the program's.
-/
import Derived.Test.YtgdfphcggjclkaaDoorMulB
namespace Go.Proofs.YtgdfphcggjclkaaDoor
open Go.RowKit

attribute [local go_sem] Oper.semAt_some

/-- x is an inverse of a modulo m. -/
def InvIs (a m x : Int) : Prop := 0 ≤ x ∧ x < m ∧ ∃ k, x * a = 1 + m * k
theorem InvIs.unique {a m x y : Int} (h : InvIs a m x) (h' : InvIs a m y) : x = y := by
  obtain ⟨x0, x1, k, hk⟩ := h
  obtain ⟨y0, y1, j, hj⟩ := h'
  have h1 : x * (y * a) = y * (x * a) := by grind
  rw [hk, hj] at h1
  have h2 : x = y + m * (y * k - x * j) := by grind
  have h3 : x % m = y % m := by rw [h2, Int.add_mul_emod_self_left]
  rwa [Int.emod_eq_of_lt x0 x1, Int.emod_eq_of_lt y0 y1] at h3
open Classical in
/-- the inverse, and what is told. -/
noncomputable def iVal (a m : Int) : Int := if h : okm m = true ∧ ∃ x, InvIs a m x then Classical.choose h.2 else 0
open Classical in
noncomputable def iErr (a m : Int) : Int := if okm m = true then (if ∃ x, InvIs a m x then 0 else 5) else 1
theorem iVal_is {a m x : Int} (h : okm m = true) (hx : InvIs a m x) : iVal a m = x := by
  unfold iVal
  rw [dif_pos ⟨h, x, hx⟩]
  exact (Classical.choose_spec (⟨x, hx⟩ : ∃ x, InvIs a m x)).unique hx
theorem iErr_is {a m x : Int} (h : okm m = true) (hx : InvIs a m x) : iErr a m = 0 := by
  unfold iErr
  rw [if_pos h, if_pos ⟨x, hx⟩]
theorem iVal_none {a m : Int} (hx : ¬ ∃ x, InvIs a m x) : iVal a m = 0 := by
  unfold iVal
  rw [dif_neg (fun h => hx h.2)]
theorem iErr_none {a m : Int} (h : okm m = true) (hx : ¬ ∃ x, InvIs a m x) : iErr a m = 5 := by
  unfold iErr
  rw [if_pos h, if_neg hx]
theorem iVal_no {a m : Int} (h : okm m = false) : iVal a m = 0 := by
  unfold iVal
  rw [dif_neg (fun hh => by rw [h] at hh; exact absurd hh.1 (by decide))]
theorem iErr_no {a m : Int} (h : okm m = false) : iErr a m = 1 := by
  unfold iErr
  rw [if_neg (by rw [h]; decide)]

/-- Euclid, extended: what holds between two rounds. -/
structure Eu (a m r s x y : Int) : Prop where
  r0 : 0 < r
  r1 : r ≤ m
  s0 : 0 ≤ s
  s1 : s < m
  x0 : 0 ≤ x
  x1 : x < m ∨ (x = 0)
  y0 : 0 ≤ y
  y1 : y < m
  hx : ∃ k, x * a = r + m * k
  hy : ∃ k, y * a = s + m * k
  hd : ∀ d, d ∣ r → d ∣ s → d ∣ m ∧ d ∣ a
theorem Eu.start {a m : Int} (h : okm m = true) : Eu a m m (a % m) 0 (1 % m) := by
  have h0 := okm_pos h
  refine ⟨h0, Int.le_refl _, Int.emod_nonneg _ (by omega), Int.emod_lt_of_pos _ h0, by omega, .inr rfl, Int.emod_nonneg _ (by omega), Int.emod_lt_of_pos _ h0, ⟨-1, by grind⟩, ⟨a / m - 1 / m * a, ?_⟩, fun d h1 h2 => ⟨h1, ?_⟩⟩
  · have e1 := Int.emod_def a m
    have e2 := Int.emod_def 1 m
    rw [e1, e2]; grind
  · have e1 := Int.mul_ediv_add_emod a m
    rw [← e1]
    exact Int.dvd_add (Int.dvd_trans h1 (Int.dvd_mul_right _ _)) h2
theorem Eu.step {a m r s x y : Int} (h : okm m = true) (e : Eu a m r s x y) (hs : 0 < s) : Eu a m s (r % s) y (mSub x (mMul (r / s) y m) m) := by
  have h0 := okm_pos h
  have f1 := Int.emod_nonneg r (b := s) (by omega)
  have f2 := Int.emod_lt_of_pos r hs
  have f3 := Int.mul_ediv_add_emod r s
  have f4 := e.s1
  rw [mSub_ok h, mMul_ok h]
  refine ⟨hs, by omega, f1, by omega, e.y0, .inl e.y1, Int.emod_nonneg _ (by omega), Int.emod_lt_of_pos _ h0, e.hy, ?_, fun d h1 h2 => e.hd d ?_ h1⟩
  · obtain ⟨k1, hk1⟩ := e.hx
    obtain ⟨k2, hk2⟩ := e.hy
    have g1 := Int.emod_def (r / s * y) m
    have g2 := Int.emod_def (x - r / s * y % m) m
    generalize (x - r / s * y % m) / m = u at *
    generalize r / s * y / m = v at *
    generalize r / s = z at *
    generalize r % s = t at *
    refine ⟨k1 - z * k2 + v * a - u * a, ?_⟩
    rw [g2, g1]
    have : (x - (z * y - m * v) - m * u) * a = x * a - z * (y * a) + m * (v * a) - m * (u * a) := by grind
    rw [this, hk1, hk2, ← f3]
    grind
  · rw [← f3]
    exact Int.dvd_add (Int.dvd_trans h1 (Int.dvd_mul_right _ _)) h2
theorem Eu.yes {a m x y : Int} (h : okm m = true) (e : Eu a m 1 0 x y) : InvIs a m x := by
  have h0 := okm_pos h
  refine ⟨e.x0, ?_, e.hx⟩
  rcases e.x1 with h1 | h1
  · exact h1
  · omega
theorem Eu.no {a m r x y : Int} (e : Eu a m r 0 x y) (hr : r ≠ 1) : ¬ ∃ x, InvIs a m x := by
  rintro ⟨z, _, _, k, hk⟩
  obtain ⟨h1, h2⟩ := e.hd r (Int.dvd_refl _) (Int.dvd_zero _)
  have h3 : r ∣ 1 := by
    have : (1 : Int) = z * a - m * k := by omega
    rw [this]
    exact Int.dvd_sub (Int.dvd_trans h2 (Int.dvd_mul_left _ _)) (Int.dvd_trans h1 (Int.dvd_mul_right _ _))
  have h4 := Int.le_of_dvd (by decide) h3
  have := e.r0
  omega

set_option maxRecDepth 100000 in
set_option maxHeartbeats 2000000 in
theorem inv_c (a m : Int) (ha : U64 a) (hm : U64 m) (w : World) :
    Calls Tryd.prog 72 #[.int .u64 a, .int .u64 m] w fun e w' => e = .returned (.tuple #[.int .u64 (iVal a m), .int .i64 (iErr a m)]) ∧ Dr w w' := by
  by_cases h : okm m = true
  · have h0 := okm_pos h
    have h1 := okm_le h
    have hst := hid (Eu.start (a := a) h)
    obtain ⟨a0, a1⟩ := ha
    go_enter Tryd.func72, Tryd.ntmps72
    go_wp2_with (go_at_call 61; refine (may_c _ hm _).mono ?_; rintro e w' ⟨rfl, rfl⟩; rw [h])
    go_quiet (fail)
    go_wp2
    go_quiet (fail)
    go_wp2
    go_loopw [6, 7, 8, 9, 10] (fun vr vs vx vy _ wr => ∃ r s x y : Int, vr = .int .u64 r ∧ vs = .int .u64 s ∧ vx = .int .u64 x ∧ vy = .int .u64 y ∧ Hid (Eu a m r s x y) ∧ Dr w wr) (fun _ s _ _ _ _ => (intOf s).toNat)
    case atStart => exact ⟨_, _, _, _, rfl, rfl, rfl, rfl, hst, ((Dr.refl w).more _).more _⟩
    case round =>
      obtain ⟨r, s, x, y, rfl, rfl, rfl, rfl, he, hw⟩ := hrel
      have r0 := he.out.r0
      have r1 := he.out.r1
      have s0 := he.out.s0
      have s1 := he.out.s1
      have x0 := he.out.x0
      have x1 : x < 18446744073709551616 := by rcases he.out.x1 with h | h <;> omega
      have y0 := he.out.y0
      have y1 := he.out.y1
      by_cases hz : s = 0
      · subst hz
        by_cases hr : r = 1
        · subst hr
          have hi := he.out.yes h
          have v1 := hid (iVal_is h hi)
          have v2 := hid (iErr_is h hi)
          go_wp2
          go_ret2
          rw [v1.out, v2.out]
          exact ⟨rfl, hw⟩
        · have hi := he.out.no hr
          have v1 := hid (iVal_none hi)
          have v2 := hid (iErr_none h hi)
          have hbr : (r != 1) = true := bne_iff_ne.2 hr
          clear hi
          go_wp2
          go_ret2
          rw [v1.out, v2.out]
          exact ⟨rfl, hw⟩
      · have hs : 0 < s := by omega
        have hbs : (s != 0) = true := bne_iff_ne.2 hz
        have hn := hid (he.out.step h hs)
        have q0 : 0 ≤ r / s := Int.ediv_nonneg (by omega) (by omega)
        have q1 : r / s ≤ r := Int.ediv_le_self _ (by omega)
        have f1 := Int.emod_nonneg r (b := s) (by omega)
        have f2 := Int.emod_lt_of_pos r hs
        have uq : U64 (r / s) := ⟨q0, by omega⟩
        have uy : U64 y := ⟨y0, by omega⟩
        have ux : U64 x := ⟨x0, x1⟩
        clear hst
        go_wp2
        go_quiet (fail)
        go_wp2_with (first | (go_at_call 22; refine (mul_c _ _ _ uq uy hm _).mono ?_; rintro e w5 ⟨rfl, hw5⟩) | (go_at_call 25; refine (sub_c _ _ _ ux (mMul_u64 _ _ _) hm _).mono ?_; rintro e w6 ⟨rfl, hw6⟩))
        go_roundw
        case rel => exact ⟨_, _, _, _, rfl, rfl, rfl, rfl, hn, ((hw.more _).trans hw5).trans hw6⟩
        case measure => simp [intOf]; omega
  · have h' : okm m = false := by simpa using h
    have v1 := hid (iVal_no (a := a) h')
    have v2 := hid (iErr_no (a := a) h')
    go_enter Tryd.func72, Tryd.ntmps72
    go_wp2_with (go_at_call 61; refine (may_c _ hm _).mono ?_; rintro e w' ⟨rfl, rfl⟩; rw [h'])
    go_ret2
    rw [v1.out, v2.out]
    exact ⟨rfl, Dr.refl _⟩

end Go.Proofs.YtgdfphcggjclkaaDoor
