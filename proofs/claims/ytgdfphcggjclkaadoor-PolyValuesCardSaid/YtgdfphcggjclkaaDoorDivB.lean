/-
  The walks of math/bits.Div64 and Rem64.
-/
import Derived.Test.YtgdfphcggjclkaaDoorModB
import Derived.Test.YtgdfphcggjclkaaDoorShelfB
import Derived.Test.YtgdfphcggjclkaaDoorDivPlain
namespace Go.Proofs.YtgdfphcggjclkaaDoor
open Go.RowKit

/-- a quotient, and that remainder. -/
def RemIs (r : Int) (w : World) (e : Ending) (w' : World) : Prop := ∃ q, e = .returned (.tuple #[.int .u64 q, .int .u64 r]) ∧ w = w'

/-- what the walk of the division wants to know of its numbers, in the walk's own spelling. -/
theorem shift_facts (hi lo y : Nat) (hh : hi < y) (hy : y < 18446744073709551616) (hl : lo < 18446744073709551616) :
    ∃ (k Y L : Nat) (u y1 y0 d1 d0 q r : Int), k ≤ 63 ∧ min k 64 = k ∧ (64 - (Lib.bitLen y : Int)) = (k : Int) ∧ IntKind.u64.wrap ((y : Int) * 2 ^ k) = (Y : Int) ∧
      bits .or .u64 (IntKind.u64.wrap ((hi : Int) * 2 ^ k)) ((lo : Int) / 2 ^ (64 - k)) = u ∧
      IntKind.u64.wrap ((lo : Int) * 2 ^ k) = (L : Int) ∧ bits .and .u64 (Y : Int) 4294967295 = y0 ∧ bits .and .u64 (L : Int) 4294967295 = d0 ∧
      (Y : Int) / 4294967296 = y1 ∧ (L : Int) / 4294967296 = d1 ∧ u / y1 = q ∧ u - q * y1 = r ∧
      (Y = y * 2 ^ k ∧ 9223372036854775808 ≤ Y ∧ Y < 18446744073709551616 ∧ 0 ≤ u ∧ u < Y ∧ L < 18446744073709551616 ∧
        u * 18446744073709551616 + L = ((hi * 18446744073709551616 + lo) * 2 ^ k : Nat)) ∧
      ((Y : Int) = y1 * 4294967296 + y0 ∧ (L : Int) = d1 * 4294967296 + d0 ∧ 0 ≤ d0 ∧ d0 < 4294967296) ∧
      DB u d1 y1 y0 ∧ DI u d1 y1 y0 q r ∧ 0 ≤ q * y1 := by
  obtain ⟨k, Y, U, L, h1, h2, h3, h4, h5, h6, h7, h8, h9, h10, h11, h12⟩ := shifted hi lo y hh hy hl
  have mask : ∀ a : Nat, a < 18446744073709551616 → bits .and .u64 (a : Int) 4294967295 = (a : Int) % 4294967296 := by
    intro a ha
    have := u64_and_nat a 4294967295 ha (by omega)
    rw [show ((4294967295 : Nat) : Int) = 4294967295 from rfl] at this
    rw [this, Nat.and_two_pow_sub_one_eq_mod a 32]
    omega
  have c1 : ∀ a : Nat, (a : Int) * 2 ^ k = ((a * 2 ^ k : Nat) : Int) := by intro a; simp
  have hb : DB (U : Int) ((L : Int) / 4294967296) ((Y : Int) / 4294967296) ((Y : Int) % 4294967296) := ⟨by omega, by omega, by omega, by omega, by omega, by omega, by omega, by omega⟩
  have hs := DI.start hb
  refine ⟨k, Y, L, (U : Int), _, _, _, _, _, _, h1, by omega, by omega, ?_, ?_, ?_, mask Y h6, mask L (by omega), rfl, rfl, rfl, rfl, ⟨h4, h5, h6, by omega, by omega, by omega, by omega⟩, ⟨by omega, by omega, by omega, by omega⟩, hb, hs,
    Int.mul_nonneg hs.q0 (by omega)⟩
  · rw [c1, IntKind.wrap_u64, ← h4]; omega
  · have c2 : (lo : Int) / 2 ^ (64 - k) = ((lo / 2 ^ (64 - k) : Nat) : Int) := by simp
    have c3 : IntKind.u64.wrap ((hi : Int) * 2 ^ k) = ((hi * 2 ^ k : Nat) : Int) := by rw [c1, IntKind.wrap_u64]; omega
    have hu : lo / 2 ^ (64 - k) < 18446744073709551616 := Nat.lt_of_le_of_lt (Nat.div_le_self _ _) hl
    rw [c2, c3, u64_or_nat _ _ h12 hu, nat_join k _ _ (by simp) h11, h7]
  · rw [c1, IntKind.wrap_u64, h9]; omega

theorem wrap_left (u d q Y : Int) (h0 : 0 ≤ u * 4294967296 + d - q * Y) (h1 : u * 4294967296 + d - q * Y < 18446744073709551616) :
    IntKind.u64.wrap (IntKind.u64.wrap (IntKind.u64.wrap (u * 4294967296) + d) - IntKind.u64.wrap (q * Y)) = u * 4294967296 + d - q * Y := by
  simp only [IntKind.wrap_u64]
  omega

/-- what the first loop hands on. -/
theorem second {u d1 d0 y1 y0 qq : Int} {Y : Nat} (hY : (Y : Int) = y1 * 4294967296 + y0) (hb : DB u d1 y1 y0) (h0 : 0 ≤ d0) (h1 : d0 < 4294967296) (hE : DE u d1 (y1 * 4294967296 + y0) qq) :
    ∃ v q2 r2 : Int, IntKind.u64.wrap (IntKind.u64.wrap (IntKind.u64.wrap (u * 4294967296) + d1) - IntKind.u64.wrap (qq * (Y : Int))) = v ∧ v / y1 = q2 ∧ v - q2 * y1 = r2 ∧
      DB v d0 y1 y0 ∧ DI v d0 y1 y0 q2 r2 ∧ 0 ≤ q2 * y1 ∧ q2 * y1 < 18446744073709551616 ∧ v = u * 4294967296 + d1 - qq * (Y : Int) := by
  obtain ⟨a1, a2, a3, a4, a5, a6, a7, a8⟩ := hb
  obtain ⟨c1, c2, c3, c4⟩ := hE
  rw [← hY] at c3 c4 a8
  rw [Int.add_mul, Int.one_mul] at c4
  have hw := wrap_left u d1 qq Y (by omega) (by omega)
  have hb' : DB (u * 4294967296 + d1 - qq * (Y : Int)) d0 y1 y0 := ⟨a1, a2, a3, a4, h0, h1, by omega, by omega⟩
  have hs := DI.start hb'
  have hr1 := hs.r0
  have hr2 := hs.r1
  refine ⟨_, _, _, hw, rfl, rfl, hb', hs, Int.mul_nonneg hs.q0 (by omega), by omega, rfl⟩

/-- what the second loop hands on. -/
theorem third {u d1 d0 v y1 y0 qq q3 : Int} {Y L k y N : Nat} (hY : (Y : Int) = y1 * 4294967296 + y0) (hL : (L : Int) = d1 * 4294967296 + d0) (hb : DB v d0 y1 y0) (hv : v = u * 4294967296 + d1 - qq * (Y : Int)) (hq : 0 ≤ qq)
    (hE : DE v d0 (y1 * 4294967296 + y0) q3) (hk : Y = y * 2 ^ k) (hN : u * 18446744073709551616 + L = (N * 2 ^ k : Nat)) (hy : 0 < y) :
    IntKind.u64.wrap (IntKind.u64.wrap (IntKind.u64.wrap (v * 4294967296) + d0) - IntKind.u64.wrap (q3 * (Y : Int))) / 2 ^ k = ((N % y : Nat) : Int) := by
  obtain ⟨a1, a2, a3, a4, a5, a6, a7, a8⟩ := hb
  obtain ⟨c1, c2, c3, c4⟩ := hE
  rw [← hY] at c3 c4 a8
  rw [Int.add_mul, Int.one_mul] at c4
  rw [wrap_left v d0 q3 Y (by omega) (by omega)]
  have e : (qq * 4294967296 + q3) * (Y : Int) + (v * 4294967296 + d0 - q3 * (Y : Int)) = (N * 2 ^ k : Nat) := by
    rw [Int.add_mul, Int.mul_right_comm]
    generalize qq * (Y : Int) = A at *
    generalize q3 * (Y : Int) = B at *
    omega
  have hR1 : 0 ≤ v * 4294967296 + d0 - q3 * (Y : Int) := by omega
  have hR2 : v * 4294967296 + d0 - q3 * (Y : Int) < Y := by omega
  have hQ : 0 ≤ qq * 4294967296 + q3 := by omega
  generalize v * 4294967296 + d0 - q3 * (Y : Int) = R at *
  generalize qq * 4294967296 + q3 = Q at *
  obtain ⟨R, rfl⟩ := Int.eq_ofNat_of_zero_le hR1
  obtain ⟨Q, rfl⟩ := Int.eq_ofNat_of_zero_le hQ
  have e' : Q * (y * 2 ^ k) + R = N * 2 ^ k := by rw [← hk]; exact_mod_cast e
  have := unshift N y k R Q hy e' (by rw [← hk]; omega)
  rw [← this]
  simp

set_option maxRecDepth 100000 in
set_option maxHeartbeats 4000000 in
theorem div64_hi (hi lo y : Nat) (hh : 0 < hi) (hy : hi < y) (hy' : y < 18446744073709551616) (hl : lo < 18446744073709551616) (w : World) :
    Calls Tryd.prog 85 #[.int .u64 (hi : Int), .int .u64 (lo : Int), .int .u64 (y : Int)] w (RemIs (((hi * 18446744073709551616 + lo) % y : Nat) : Int) w) := by
  obtain ⟨k, Y, L, u, y1, y0, d1, d0, q, r, f1, f2, f3, f4, f5, f6, f7, f8, f9, f10, f11, f12, hf, hg, hb, hs, hqy⟩ := shift_facts hi lo y hy hy' hl
  have hff := hid hf
  have hgg := hid hg
  obtain ⟨-, g2, g3, g4, g5, g6, -⟩ := hf
  obtain ⟨-, -, e3, e4⟩ := hg
  obtain ⟨b1, b2, b3, b4, b5, b6, b7, b8⟩ := id hb
  obtain ⟨s1, s2, s3, s4, s5, s6⟩ := id hs
  have hqy2 : q * y1 < 18446744073709551616 := by omega
  clear s5 s6 b8
  have h1 : ((y : Int) == 0) = false := by simp; omega
  have h2 : ((hi : Int) == 0) = false := by simp; omega
  go_enter Tryd.func85, Tryd.ntmps85
  go_wp2_with (go_at_call 96; refine (bits_LeadingZeros64 _ _ (by omega) (by omega)).mono ?_; rintro e w' ⟨rfl, rfl⟩)
  go_loop [15, 16] (fun a b => ∃ q' r' : Int, a = .int .u64 q' ∧ b = .int .u64 r' ∧ DI u d1 y1 y0 q' r') (fun a _ => (intOf a).toNat)
  case atStart => exact ⟨q, r, by rw [f11], rfl, hs⟩
  case round =>
    obtain ⟨q', r', rfl, rfl, hd⟩ := hrel
    obtain ⟨t1, t2, t3, t4, -, -⟩ := id hd
    have e1 := hgg.out.1
    have e2 := hgg.out.2.1
    by_cases hc : 4294967296 ≤ q' ∨ 4294967296 * r' + d1 < q' * y0
    · have hp := DI.pos hb hd hc
      by_cases hr : r' + y1 < 4294967296
      · have hn := DI.step hb hd hc hr
        clear e1 e2
        by_cases hq : 4294967296 ≤ q'
        · go_wp2
          go_round
          case rel => exact ⟨_, _, rfl, rfl, hn⟩
          case measure => simp [intOf]; omega
        · obtain ⟨x1, x2⟩ := DI.fits hb hd (by omega)
          have hc' : 4294967296 * r' + d1 < q' * y0 := by omega
          go_wp2
          go_round
          case rel => exact ⟨_, _, rfl, rfl, hn⟩
          case measure => simp [intOf]; omega
      · obtain ⟨v, q2, r2, m1, m2, m3, m4, m5, m6, m7, m8⟩ := second e1 hb e3 e4 (DI.last hb hd hc (by omega))
        have hE := (DI.last hb hd hc (by omega)).q0
        have fin := fun q3 hE3 => third (q3 := q3) e1 e2 m4 m8 hE hE3 hff.out.1 hff.out.2.2.2.2.2.2 (by omega)
        have M8 := hid m8
        clear m8 e1 e2
        obtain ⟨n1, n2, n3, n4, n5, n6, n7, n8⟩ := id m4
        have n9 : v < 18446744073709551616 := by omega
        clear n8
        obtain ⟨o1, o2, o3, o4, -, -⟩ := id m5
        have fin := hid fin
        by_cases hq : 4294967296 ≤ q'
        · go_wp2
          go_loop [18, 16] (fun a b => ∃ q' r' : Int, a = .int .u64 q' ∧ b = .int .u64 r' ∧ DI v d0 y1 y0 q' r') (fun a _ => (intOf a).toNat)
          case atStart => exact ⟨q2, r2, by first | rfl | rw [m2], rfl, m5⟩
          case round =>
            obtain ⟨q'', r'', rfl, rfl, hd⟩ := hrel
            obtain ⟨t1, t2, t3, t4, -, -⟩ := id hd
            by_cases hc : 4294967296 ≤ q'' ∨ 4294967296 * r'' + d0 < q'' * y0
            · have hp := DI.pos m4 hd hc
              by_cases hr : r'' + y1 < 4294967296
              · have hn := DI.step m4 hd hc hr
                by_cases hq : 4294967296 ≤ q''
                · go_wp2
                  go_round
                  case rel => exact ⟨_, _, rfl, rfl, hn⟩
                  case measure => simp [intOf]; omega
                · obtain ⟨x1, x2⟩ := DI.fits m4 hd (by omega)
                  have hc' : 4294967296 * r'' + d0 < q'' * y0 := by omega
                  go_wp2
                  go_round
                  case rel => exact ⟨_, _, rfl, rfl, hn⟩
                  case measure => simp [intOf]; omega
              · have hlast := fin.out _ (DI.last m4 hd hc (by omega))
                by_cases hq : 4294967296 ≤ q''
                · go_wp2
                  go_ret2
                  exact ⟨_, rfl, rfl⟩
                · obtain ⟨x1, x2⟩ := DI.fits m4 hd (by omega)
                  have hc' : 4294967296 * r'' + d0 < q'' * y0 := by omega
                  go_wp2
                  go_ret2
                  exact ⟨_, rfl, rfl⟩
            · have hlast := fin.out _ (DI.done hd (by omega) (by omega))
              obtain ⟨x1, x2⟩ := DI.fits m4 hd (by omega)
              go_wp2
              go_ret2
              exact ⟨_, rfl, rfl⟩
        · obtain ⟨x1, x2⟩ := DI.fits hb hd (by omega)
          have hc' : 4294967296 * r' + d1 < q' * y0 := by omega
          go_wp2
          go_loop [18, 16] (fun a b => ∃ q' r' : Int, a = .int .u64 q' ∧ b = .int .u64 r' ∧ DI v d0 y1 y0 q' r') (fun a _ => (intOf a).toNat)
          case atStart => exact ⟨q2, r2, by first | rfl | rw [m2], rfl, m5⟩
          case round =>
            obtain ⟨q'', r'', rfl, rfl, hd⟩ := hrel
            obtain ⟨t1, t2, t3, t4, -, -⟩ := id hd
            by_cases hc : 4294967296 ≤ q'' ∨ 4294967296 * r'' + d0 < q'' * y0
            · have hp := DI.pos m4 hd hc
              by_cases hr : r'' + y1 < 4294967296
              · have hn := DI.step m4 hd hc hr
                by_cases hq : 4294967296 ≤ q''
                · go_wp2
                  go_round
                  case rel => exact ⟨_, _, rfl, rfl, hn⟩
                  case measure => simp [intOf]; omega
                · obtain ⟨z1, z2⟩ := DI.fits m4 hd (by omega)
                  have hc'' : 4294967296 * r'' + d0 < q'' * y0 := by omega
                  go_wp2
                  go_round
                  case rel => exact ⟨_, _, rfl, rfl, hn⟩
                  case measure => simp [intOf]; omega
              · have hlast := fin.out _ (DI.last m4 hd hc (by omega))
                by_cases hq : 4294967296 ≤ q''
                · go_wp2
                  go_ret2
                  exact ⟨_, rfl, rfl⟩
                · obtain ⟨z1, z2⟩ := DI.fits m4 hd (by omega)
                  have hc'' : 4294967296 * r'' + d0 < q'' * y0 := by omega
                  go_wp2
                  go_ret2
                  exact ⟨_, rfl, rfl⟩
            · have hlast := fin.out _ (DI.done hd (by omega) (by omega))
              obtain ⟨z1, z2⟩ := DI.fits m4 hd (by omega)
              go_wp2
              go_ret2
              exact ⟨_, rfl, rfl⟩
    · obtain ⟨v, q2, r2, m1, m2, m3, m4, m5, m6, m7, m8⟩ := second e1 hb e3 e4 (DI.done hd (by omega) (by omega))
      have fin := fun q3 hE3 => third (q3 := q3) e1 e2 m4 m8 t1 hE3 hff.out.1 hff.out.2.2.2.2.2.2 (by omega)
      have M8 := hid m8
      clear m8 e1 e2
      obtain ⟨n1, n2, n3, n4, n5, n6, n7, n8⟩ := id m4
      have n9 : v < 18446744073709551616 := by omega
      clear n8
      obtain ⟨o1, o2, o3, o4, -, -⟩ := id m5
      have fin := hid fin
      obtain ⟨x1, x2⟩ := DI.fits hb hd (by omega)
      go_wp2
      go_loop [18, 16] (fun a b => ∃ q' r' : Int, a = .int .u64 q' ∧ b = .int .u64 r' ∧ DI v d0 y1 y0 q' r') (fun a _ => (intOf a).toNat)
      case atStart => exact ⟨q2, r2, by first | rfl | rw [m2], rfl, m5⟩
      case round =>
        obtain ⟨q'', r'', rfl, rfl, hd⟩ := hrel
        obtain ⟨t1, t2, t3, t4, -, -⟩ := id hd
        by_cases hc : 4294967296 ≤ q'' ∨ 4294967296 * r'' + d0 < q'' * y0
        · have hp := DI.pos m4 hd hc
          by_cases hr : r'' + y1 < 4294967296
          · have hn := DI.step m4 hd hc hr
            by_cases hq : 4294967296 ≤ q''
            · go_wp2
              go_round
              case rel => exact ⟨_, _, rfl, rfl, hn⟩
              case measure => simp [intOf]; omega
            · obtain ⟨z1, z2⟩ := DI.fits m4 hd (by omega)
              have hc' : 4294967296 * r'' + d0 < q'' * y0 := by omega
              go_wp2
              go_round
              case rel => exact ⟨_, _, rfl, rfl, hn⟩
              case measure => simp [intOf]; omega
          · have hlast := fin.out _ (DI.last m4 hd hc (by omega))
            by_cases hq : 4294967296 ≤ q''
            · go_wp2
              go_ret2
              exact ⟨_, rfl, rfl⟩
            · obtain ⟨z1, z2⟩ := DI.fits m4 hd (by omega)
              have hc' : 4294967296 * r'' + d0 < q'' * y0 := by omega
              go_wp2
              go_ret2
              exact ⟨_, rfl, rfl⟩
        · have hlast := fin.out _ (DI.done hd (by omega) (by omega))
          obtain ⟨z1, z2⟩ := DI.fits m4 hd (by omega)
          go_wp2
          go_ret2
          exact ⟨_, rfl, rfl⟩
set_option maxHeartbeats 400000 in
theorem div64_lo (lo y : Nat) (hy : 0 < y) (hy' : y < 18446744073709551616) (hl : lo < 18446744073709551616) (w : World) :
    Calls Tryd.prog 85 #[.int .u64 0, .int .u64 (lo : Int), .int .u64 (y : Int)] w fun e w' => (∃ q, e = .returned (.tuple #[.int .u64 q, .int .u64 ((lo % y : Nat) : Int)])) ∧ ∃ n, w' = w.drewN n := by
  have h1 : ((y : Int) == 0) = false := by simp; omega
  go_enter Tryd.func85, Tryd.ntmps85
  go_wp2
  go_quiet (fail)
  go_wp2
  go_ret2
  exact ⟨⟨_, rfl⟩, _, rfl⟩

set_option maxHeartbeats 400000 in
theorem rem64_c (hi lo y : Nat) (hh : hi < 18446744073709551616) (hy : 0 < y) (hy' : y < 18446744073709551616) (hl : lo < 18446744073709551616) (w : World) :
    Calls Tryd.prog 63 #[.int .u64 (hi : Int), .int .u64 (lo : Int), .int .u64 (y : Int)] w fun e w' => e = .returned (.int .u64 (((hi * 18446744073709551616 + lo) % y : Nat) : Int)) ∧ ∃ n, w' = w.drewN n := by
  have hm : hi % y < y := Nat.mod_lt _ hy
  have e : (hi % y * 18446744073709551616 + lo) % y = (hi * 18446744073709551616 + lo) % y := by
    rw [Nat.add_mod, Nat.mul_mod, Nat.mod_mod, ← Nat.mul_mod, ← Nat.add_mod]
  by_cases h0 : hi % y = 0
  · have hz : (hi : Int) % (y : Int) = 0 := by omega
    have e' : lo % y = (hi * 18446744073709551616 + lo) % y := by rw [← e, h0]; simp
    have E := hid e'
    clear e e'
    go_enter Tryd.func63, Tryd.ntmps63
    go_wp2_with (go_at_call 85; refine (div64_lo _ _ hy hy' hl _).mono ?_; rintro e w' ⟨⟨q, rfl⟩, n, rfl⟩)
    go_ret
    exact ⟨ret_int (by rw [← E.out]; simp), _, rfl⟩
  · obtain ⟨r, hr⟩ : ∃ r, hi % y = r := ⟨_, rfl⟩
    have hz : (hi : Int) % (y : Int) = (r : Int) := by omega
    have E := hid e
    have R := hid hr
    have r0 : 0 < r := by omega
    have r1 : r < y := by omega
    clear e hr h0
    go_enter Tryd.func63, Tryd.ntmps63
    go_wp2_with (go_at_call 85; refine (div64_hi _ _ _ r0 r1 hy' hl _).mono ?_; rintro e w' ⟨q, rfl, rfl⟩)
    go_ret
    exact ⟨ret_int (by rw [← E.out, R.out]; simp), 0, rfl⟩

end Go.Proofs.YtgdfphcggjclkaaDoor
