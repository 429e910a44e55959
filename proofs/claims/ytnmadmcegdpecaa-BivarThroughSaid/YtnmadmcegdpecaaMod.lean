/-
  The walks of package mod's sums and differences, and of the reference's.
-/
import Derived.Test.YtnmadmcegdpecaaRows
import Derived.Test.YtnmadmcegdpecaaPlain
import Derived.WalkKit
import Derived.WalkSpells
import Derived.WalkLawsBesides
import Derived.Deep.QuietTactic
import Derived.BigQuiet
namespace Go.Proofs.Ytnmadmcegdpecaa
open Go.RowKit

set_option maxHeartbeats 400000 in
theorem may_c (m : Int) (hm : U64 m) (w : World) :
    Calls Try.prog 82 #[.int .u64 m] w fun e w' => e = .returned (.bool (okm m)) ∧ w = w' := by
  obtain ⟨h0, h1⟩ := hm
  by_cases h : 0 < m
  · go_enter Try.func82, Try.ntmps82
    go_wp2
    go_ret
    exact ⟨by simp [okm, h], rfl⟩
  · have hd : decide (0 < m) = false := by simpa using h
    go_enter Try.func82, Try.ntmps82
    go_wp2
    go_ret
    exact ⟨by simp [okm, hd], rfl⟩

theorem hid {p : Prop} (h : p) : Hid p := h
theorem ret_int {k : IntKind} {a b : Int} (h : a = b) : Ending.returned (.int k a) = .returned (.int k b) := by rw [h]
theorem ret_bool {a b : Bool} (h : a = b) : Ending.returned (.bool a) = .returned (.bool b) := by rw [h]

set_option maxHeartbeats 400000 in
theorem add_c (a b m : Int) (ha : U64 a) (hb : U64 b) (hm : U64 m) (w : World) :
    Calls Try.prog 32 #[.int .u64 a, .int .u64 b, .int .u64 m] w fun e w' => e = .returned (.int .u64 (mAdd a b m)) ∧ ∃ n, w' = w.drewN n := by
  have hm' := hm
  obtain ⟨a1, a2⟩ := ha
  obtain ⟨b1, b2⟩ := hb
  obtain ⟨m1, m2⟩ := hm
  by_cases h : okm m = true
  · have h0 := okm_pos h
    have h1 := okm_le h
    have x1 := Int.emod_nonneg a (b := m) (by omega)
    have x2 := Int.emod_lt_of_pos a h0
    have y1 := Int.emod_nonneg b (b := m) (by omega)
    have y2 := Int.emod_lt_of_pos b h0
    go_enter Try.func32, Try.ntmps32
    go_wp2_with (go_at_call 82; refine (may_c _ hm' _).mono ?_; rintro e w' ⟨rfl, rfl⟩)
    go_quiet (fail)
    go_wp2
    go_ret
    refine ⟨ret_int ?_, _, rfl⟩
    rw [mAdd_ok h, ← Int.add_emod]
  · have h' : okm m = false := by simpa using h
    go_enter Try.func32, Try.ntmps32
    go_wp2_with (go_at_call 82; refine (may_c _ hm' _).mono ?_; rintro e w' ⟨rfl, rfl⟩)
    go_ret
    exact ⟨ret_int (mAdd_no h').symm, 0, rfl⟩

set_option maxHeartbeats 400000 in
theorem sub_c (a b m : Int) (ha : U64 a) (hb : U64 b) (hm : U64 m) (w : World) :
    Calls Try.prog 81 #[.int .u64 a, .int .u64 b, .int .u64 m] w fun e w' => e = .returned (.int .u64 (mSub a b m)) ∧ ∃ n, w' = w.drewN n := by
  have hm' := hm
  obtain ⟨a1, a2⟩ := ha
  obtain ⟨b1, b2⟩ := hb
  obtain ⟨m1, m2⟩ := hm
  by_cases h : okm m = true
  · have h0 := okm_pos h
    have h1 := okm_le h
    have x1 := Int.emod_nonneg a (b := m) (by omega)
    have x2 := Int.emod_lt_of_pos a h0
    have y1 := Int.emod_nonneg b (b := m) (by omega)
    have y2 := Int.emod_lt_of_pos b h0
    go_enter Try.func81, Try.ntmps81
    go_wp2_with (go_at_call 82; refine (may_c _ hm' _).mono ?_; rintro e w' ⟨rfl, rfl⟩)
    go_quiet (fail)
    go_wp2
    go_ret
    refine ⟨ret_int ?_, _, rfl⟩
    rw [mSub_ok h, Int.sub_emod a b, show a % m + m - b % m = a % m - b % m + m by omega, Int.add_emod_right]
  · have h' : okm m = false := by simpa using h
    go_enter Try.func81, Try.ntmps81
    go_wp2_with (go_at_call 82; refine (may_c _ hm' _).mono ?_; rintro e w' ⟨rfl, rfl⟩)
    go_ret
    exact ⟨ret_int (mSub_no h').symm, 0, rfl⟩

set_option maxHeartbeats 400000 in
theorem radd_c (a b m : Int) (ha : U64 a) (hb : U64 b) (hm : U64 m) (w : World) :
    Calls Try.prog 80 #[.int .u64 a, .int .u64 b, .int .u64 m] w fun e w' => e = .returned (.int .u64 (mAdd a b m)) ∧ ∃ n, w' = w.drewN n := by
  have hm' := hm
  obtain ⟨a1, a2⟩ := ha
  obtain ⟨b1, b2⟩ := hb
  obtain ⟨m1, m2⟩ := hm
  by_cases h : okm m = true
  · have h0 := okm_pos h
    have h1 := okm_le h
    have x1 := Int.emod_nonneg a (b := m) (by omega)
    have x2 := Int.emod_lt_of_pos a h0
    have y1 := Int.emod_nonneg b (b := m) (by omega)
    have y2 := Int.emod_lt_of_pos b h0
    have hd : (m == 0) = false := by simp; omega
    go_enter Try.func80, Try.ntmps80
    go_wp2
    go_quiet (fail)
    go_wp2
    · go_ret
      refine ⟨ret_int ?_, _, rfl⟩
      rw [mAdd_ok h]; exact add_hi h0 ‹_›
    · go_ret
      refine ⟨ret_int ?_, _, rfl⟩
      rw [mAdd_ok h]; exact add_lo h0 ‹_›
  · have h' : okm m = false := by simpa using h
    have hz := okm_not h' m1
    by_cases hm0 : m = 0
    · subst hm0
      go_enter Try.func80, Try.ntmps80
      go_wp2
      go_ret
      exact ⟨ret_int (mAdd_no h').symm, 0, rfl⟩
    · have hd : (m == 0) = false := by simpa using hm0
      have hg : (2305843009213693952 : Int) < m := by omega
      go_enter Try.func80, Try.ntmps80
      go_wp2
      go_ret
      exact ⟨ret_int (mAdd_no h').symm, 0, rfl⟩

set_option maxHeartbeats 400000 in
theorem rsub_c (a b m : Int) (ha : U64 a) (hb : U64 b) (hm : U64 m) (w : World) :
    Calls Try.prog 100 #[.int .u64 a, .int .u64 b, .int .u64 m] w fun e w' => e = .returned (.int .u64 (mSub a b m)) ∧ ∃ n, w' = w.drewN n := by
  have hm' := hm
  obtain ⟨a1, a2⟩ := ha
  obtain ⟨b1, b2⟩ := hb
  obtain ⟨m1, m2⟩ := hm
  by_cases h : okm m = true
  · have h0 := okm_pos h
    have h1 := okm_le h
    have x1 := Int.emod_nonneg a (b := m) (by omega)
    have x2 := Int.emod_lt_of_pos a h0
    have y1 := Int.emod_nonneg b (b := m) (by omega)
    have y2 := Int.emod_lt_of_pos b h0
    have hd : (m == 0) = false := by simp; omega
    by_cases hc : b % m ≤ a % m
    · go_enter Try.func100, Try.ntmps100
      go_wp2
      go_quiet (fail)
      go_wp2
      go_quiet (fail)
      go_wp2
      go_ret
      refine ⟨ret_int ?_, _, World.drewN_drewN _ _ _⟩
      rw [mSub_ok h]; exact sub_hi h0 hc
    · go_enter Try.func100, Try.ntmps100
      go_wp2
      go_quiet (fail)
      go_wp2
      go_quiet (fail)
      go_wp2
      go_ret
      refine ⟨ret_int ?_, _, World.drewN_drewN _ _ _⟩
      rw [mSub_ok h]; exact sub_lo h0 (by omega)
  · have h' : okm m = false := by simpa using h
    have hz := okm_not h' m1
    by_cases hm0 : m = 0
    · subst hm0
      go_enter Try.func100, Try.ntmps100
      go_wp2
      go_ret
      exact ⟨ret_int (mSub_no h').symm, 0, rfl⟩
    · have hd : (m == 0) = false := by simpa using hm0
      have hg : (2305843009213693952 : Int) < m := by omega
      go_enter Try.func100, Try.ntmps100
      go_wp2
      go_ret
      exact ⟨ret_int (mSub_no h').symm, 0, rfl⟩


end Go.Proofs.Ytnmadmcegdpecaa
