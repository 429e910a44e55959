/-
  The walks of the numbers of whole numbers, and the whole numbers of numbers.
-/
import Derived.Test.YtnmadmcegdpecaaMul
namespace Go.Proofs.Ytnmadmcegdpecaa
open Go.RowKit

theorem mSub_neg (n q : Int) : mSub 0 (-n) q = mNum n q := by
  unfold mSub mNum; split
  · rw [show (0:Int) - -n = n by omega]
  · rfl
theorem mAdd_zero (n q : Int) : mAdd n 0 q = mNum n q := by
  unfold mAdd mNum; split
  · rw [Int.add_zero]
  · rfl

set_option maxHeartbeats 400000 in
theorem num_c (n q : Int) (hn : I64 n) (hq : U64 q) (w : World) :
    Calls Try.prog 27 #[.int .i64 n, .int .u64 q] w fun e w' => e = .returned (.int .u64 (mNum n q)) ∧ Dr w w' := by
  obtain ⟨n1, n2⟩ := hn
  by_cases h : n < 0
  · have e1 : IntKind.u64.wrap (-(IntKind.u64.wrap n)) = -n := by simp only [IntKind.wrap_u64]; omega
    go_enter Try.func27, Try.ntmps27
    go_wp2_with (fail)
    refine (sub_c _ _ _ ⟨by omega, by omega⟩ ⟨by omega, by omega⟩ hq _).mono ?_; rintro e1 w1 ⟨rfl, hw⟩
    go_wp2
    go_ret
    exact ⟨ret_int (mSub_neg n q), hw⟩
  · go_enter Try.func27, Try.ntmps27
    go_wp2_with (fail)
    refine (add_c _ _ _ ⟨by omega, by omega⟩ ⟨by omega, by omega⟩ hq _).mono ?_; rintro e1 w1 ⟨rfl, hw⟩
    go_wp2
    go_ret
    exact ⟨ret_int (mAdd_zero n q), hw⟩

/-- m is no modulus: two ways. -/
theorem okm_ways {m : Int} (h : ¬ okm m = true) (h0 : 0 ≤ m) : m = 0 ∨ (2305843009213693952 < m ∧ (m == 0) = false) := by
  have := okm_not (by simpa using h) h0
  rcases this with h | h
  · exact .inl h
  · exact .inr ⟨h, by simp; omega⟩

theorem num_tmod (n q : Int) (h : 0 < q) : (0 ≤ n ∧ n.tmod q = n % q) ∨ (n % q = 0 ∧ n.tmod q = 0) ∨ (n % q ≠ 0 ∧ n < 0 ∧ n.tmod q = n % q - q) := by
  rcases Int.lt_or_le n 0 with h0 | h0
  · right
    by_cases hz : n % q = 0
    · left
      have hd := Int.dvd_of_emod_eq_zero hz
      rw [Int.tmod_eq_emod, if_pos (.inr hd), hz]
      exact ⟨rfl, by simp⟩
    · right
      refine ⟨hz, h0, ?_⟩
      rw [Int.tmod_eq_emod, if_neg]
      · omega
      · rintro (hc | hc)
        · omega
        · exact hz (Int.emod_eq_zero_of_dvd hc)
  · exact .inl ⟨h0, Int.tmod_eq_emod_of_nonneg h0⟩

set_option maxHeartbeats 400000 in
theorem rnum_c (n q : Int) (hn : I64 n) (hq : U64 q) (w : World) :
    Calls Try.prog 28 #[.int .i64 n, .int .u64 q] w fun e w' => e = .returned (.int .u64 (mNum n q)) ∧ w = w' := by
  obtain ⟨n1, n2⟩ := hn
  obtain ⟨q1, q2⟩ := hq
  by_cases hm : okm q = true
  · have h0 := okm_pos hm
    have h1 := okm_le hm
    have x1 := Int.emod_nonneg n (b := q) (by omega)
    have x2 := Int.emod_lt_of_pos n h0
    have hd : (q == 0) = false := by simp; omega
    have hconv : IntKind.i64.wrap q = q := by rw [IntKind.wrap_i64]; omega
    obtain ⟨r, hr⟩ : ∃ r, n.tmod q = r := ⟨_, rfl⟩
    have hr' := hr
    have hways := num_tmod n q h0
    rw [hr] at hways
    clear hr'
    have hr1 : r < q ∧ -q < r := by omega
    obtain ⟨hr1, hr2⟩ := hr1
    have hf := mNum_ok (n := n) hm
    have hwr : IntKind.i64.wrap r = r := by rw [IntKind.wrap_i64]; omega
    by_cases hneg : r < 0
    · have hfin : mNum n q = r + q := by rw [hf]; omega
      have HF := hid hfin
      clear hfin hf hways
      go_enter Try.func28, Try.ntmps28
      go_wp2
      go_ret
      exact ⟨ret_int HF.out.symm, rfl⟩
    · have hfin : mNum n q = r := by rw [hf]; omega
      have HF := hid hfin
      clear hfin hf hways
      go_enter Try.func28, Try.ntmps28
      go_wp2
      go_ret
      exact ⟨ret_int HF.out.symm, rfl⟩
  · have hz := mNum_no (n := n) (q := q) (by simpa using hm)
    rcases okm_ways hm q1 with rfl | ⟨h1, h2⟩
    · go_enter Try.func28, Try.ntmps28
      go_wp2
      go_ret
      exact ⟨ret_int hz.symm, rfl⟩
    · go_enter Try.func28, Try.ntmps28
      go_wp2
      go_ret
      exact ⟨ret_int hz.symm, rfl⟩

theorem mInt_ok {x q : Int} (h : okm q = true) : mInt x q = if 2 * (x % q) < q then x % q else x % q - q := by rw [mInt, if_pos h]
theorem mInt_no {x q : Int} (h : okm q = false) : mInt x q = 0 := by simp [mInt, h]
theorem mInt_i64 {x q : Int} : I64 (mInt x q) := by
  unfold mInt
  split
  · rename_i h
    have h0 := okm_pos h
    have h1 := okm_le h
    have x1 := Int.emod_nonneg x (b := q) (by omega)
    have x2 := Int.emod_lt_of_pos x h0
    split
    · exact ⟨by omega, by omega⟩
    · exact ⟨by omega, by omega⟩
  · exact ⟨by omega, by omega⟩

set_option maxHeartbeats 400000 in
theorem int_c (x q : Int) (hx : U64 x) (hq : U64 q) (w : World) :
    Calls Try.prog 29 #[.int .u64 x, .int .u64 q] w fun e w' => e = .returned (.int .i64 (mInt x q)) ∧ Dr w w' := by
  have hq' := hq
  obtain ⟨q1, q2⟩ := hq
  have hadd := mAdd_zero x q
  by_cases hm : okm q = true
  · have h0 := okm_pos hm
    have h1 := okm_le hm
    rw [mNum_ok hm] at hadd
    have x1 := Int.emod_nonneg x (b := q) (by omega)
    have x2 := Int.emod_lt_of_pos x h0
    have hd : (q == 0) = false := by simp; omega
    have hf := mInt_ok (x := x) hm
    obtain ⟨y, hy⟩ : ∃ y, x % q = y := ⟨_, rfl⟩
    rw [hy] at hadd x1 x2 hf
    have hw1 : IntKind.i64.wrap y = y := by rw [IntKind.wrap_i64]; omega
    have hw2 : IntKind.i64.wrap q = q := by rw [IntKind.wrap_i64]; omega
    by_cases hs : y ≤ (q - 1) / 2
    · have hfin : mInt x q = y := by rw [hf, if_pos (by omega)]
      have HF := hid hfin
      clear hf hfin hy
      go_enter Try.func29, Try.ntmps29
      go_wp2_with (fail)
      refine (add_c _ _ _ hx ⟨by omega, by omega⟩ hq' _).mono ?_; rintro e1 w1 ⟨rfl, hw⟩
      go_wp2
      go_ret
      exact ⟨ret_int HF.out.symm, hw⟩
    · have hfin : mInt x q = y - q := by rw [hf, if_neg (by omega)]
      have HF := hid hfin
      clear hf hfin hy
      go_enter Try.func29, Try.ntmps29
      go_wp2_with (fail)
      refine (add_c _ _ _ hx ⟨by omega, by omega⟩ hq' _).mono ?_; rintro e1 w1 ⟨rfl, hw⟩
      go_wp2
      go_ret
      exact ⟨ret_int HF.out.symm, hw⟩
  · have hz := mInt_no (x := x) (q := q) (by simpa using hm)
    rw [mNum_no (by simpa using hm)] at hadd
    have HZ := hid hz
    clear hz
    rcases okm_ways hm q1 with rfl | ⟨h1, h2⟩
    · go_enter Try.func29, Try.ntmps29
      go_wp2_with (fail)
      refine (add_c _ _ _ hx ⟨by omega, by omega⟩ hq' _).mono ?_; rintro e1 w1 ⟨rfl, hw⟩
      go_wp2
      go_ret
      exact ⟨ret_int HZ.out.symm, hw⟩
    · go_enter Try.func29, Try.ntmps29
      go_wp2_with (fail)
      refine (add_c _ _ _ hx ⟨by omega, by omega⟩ hq' _).mono ?_; rintro e1 w1 ⟨rfl, hw⟩
      go_wp2
      go_ret
      exact ⟨ret_int HZ.out.symm, hw⟩

set_option maxHeartbeats 400000 in
theorem rint_c (x q : Int) (hx : U64 x) (hq : U64 q) (w : World) :
    Calls Try.prog 30 #[.int .u64 x, .int .u64 q] w fun e w' => e = .returned (.int .i64 (mInt x q)) ∧ w = w' := by
  obtain ⟨x3, x4⟩ := hx
  obtain ⟨q1, q2⟩ := hq
  by_cases hm : okm q = true
  · have h0 := okm_pos hm
    have h1 := okm_le hm
    have x1 := Int.emod_nonneg x (b := q) (by omega)
    have x2 := Int.emod_lt_of_pos x h0
    have hd : (q == 0) = false := by simp; omega
    have hf := mInt_ok (x := x) hm
    obtain ⟨y, hy⟩ : ∃ y, x % q = y := ⟨_, rfl⟩
    rw [hy] at x1 x2 hf
    have hw1 : IntKind.i64.wrap y = y := by rw [IntKind.wrap_i64]; omega
    by_cases hs : 2 * y < q
    · have hfin : mInt x q = y := by rw [hf, if_pos (by omega)]
      have HF := hid hfin
      clear hf hfin
      go_enter Try.func30, Try.ntmps30
      go_wp2
      go_ret
      exact ⟨ret_int HF.out.symm, rfl⟩
    · have hfin : mInt x q = -(q - y) := by rw [hf, if_neg (by omega)]; omega
      have hw2 : IntKind.i64.wrap (q - y) = q - y := by rw [IntKind.wrap_i64]; omega
      have HF := hid hfin
      clear hf hfin
      go_enter Try.func30, Try.ntmps30
      go_wp2
      go_ret
      exact ⟨ret_int HF.out.symm, rfl⟩
  · have hz := mInt_no (x := x) (q := q) (by simpa using hm)
    have HZ := hid hz
    clear hz
    rcases okm_ways hm q1 with rfl | ⟨h1, h2⟩
    · go_enter Try.func30, Try.ntmps30
      go_wp2
      go_ret
      exact ⟨ret_int HZ.out.symm, rfl⟩
    · go_enter Try.func30, Try.ntmps30
      go_wp2
      go_ret
      exact ⟨ret_int HZ.out.symm, rfl⟩

/-- a whole number is no farther from 0 than that. -/
def near (n most : Int) : Bool := decide (-most ≤ n) && decide (n ≤ most)

set_option maxHeartbeats 400000 in
theorem within_c (n most : Int) (hn : I64 n) (h0 : 0 ≤ most) (h1 : most < 9223372036854775808) (w : World) :
    Calls Try.prog 93 #[.int .i64 n, .int .i64 most] w fun e w' => e = .returned (.bool (near n most)) ∧ w = w' := by
  obtain ⟨n1, n2⟩ := hn
  by_cases h : -most ≤ n
  · go_enter Try.func93, Try.ntmps93
    go_wp2
    go_ret
    exact ⟨ret_bool (by simp [near, h]), rfl⟩
  · have hd : decide (-most ≤ n) = false := by simpa using h
    go_enter Try.func93, Try.ntmps93
    go_wp2
    go_ret
    exact ⟨ret_bool (by simp [near, hd]), rfl⟩

end Go.Proofs.Ytnmadmcegdpecaa
