/-
  Plain words on numbers: no program in sight.
-/
namespace Go.Proofs.YtpdgalclnlbeaaaDoor

/-- x is a uint64. -/
def U64 (x : Int) : Prop := 0 ≤ x ∧ x < 18446744073709551616
/-- x is an int64. -/
def I64 (x : Int) : Prop := -9223372036854775808 ≤ x ∧ x < 9223372036854775808
theorem U64.lo {x : Int} (h : U64 x) : 0 ≤ x := h.1
theorem U64.hi {x : Int} (h : U64 x) : x < 18446744073709551616 := h.2
theorem I64.lo {x : Int} (h : I64 x) : -9223372036854775808 ≤ x := h.1
theorem I64.hi {x : Int} (h : I64 x) : x < 9223372036854775808 := h.2

/-- there are numbers modulo m. -/
def okm (m : Int) : Bool := decide (0 < m) && decide (m ≤ 2305843009213693952)
theorem okm_pos {m : Int} (h : okm m = true) : 0 < m := by
  simp only [okm, Bool.and_eq_true, decide_eq_true_eq] at h; exact h.1
theorem okm_le {m : Int} (h : okm m = true) : m ≤ 2305843009213693952 := by
  simp only [okm, Bool.and_eq_true, decide_eq_true_eq] at h; exact h.2
theorem okm_of {m : Int} (h : 0 < m) (h' : m ≤ 2305843009213693952) : okm m = true := by
  simp [okm, h, h']
theorem okm_not {m : Int} (h : okm m = false) (h0 : 0 ≤ m) : m = 0 ∨ 2305843009213693952 < m := by
  simp only [okm, Bool.and_eq_false_iff, decide_eq_false_iff_not] at h; omega

/-- sums, differences, products modulo m; 0 where there are no numbers modulo m. -/
def mAdd (a b m : Int) : Int := if okm m then (a + b) % m else 0
def mSub (a b m : Int) : Int := if okm m then (a - b) % m else 0
def mMul (a b m : Int) : Int := if okm m then (a * b) % m else 0

theorem mod_u64 {a m : Int} (h : okm m = true) : U64 (a % m) := by
  have h1 := okm_pos h
  have h2 := okm_le h
  exact ⟨Int.emod_nonneg _ (by omega), by have := Int.emod_lt_of_pos a h1; omega⟩
theorem mAdd_u64 (a b m : Int) : U64 (mAdd a b m) := by
  unfold mAdd; split
  · exact mod_u64 ‹_›
  · exact ⟨by omega, by omega⟩
theorem mSub_u64 (a b m : Int) : U64 (mSub a b m) := by
  unfold mSub; split
  · exact mod_u64 ‹_›
  · exact ⟨by omega, by omega⟩
theorem mMul_u64 (a b m : Int) : U64 (mMul a b m) := by
  unfold mMul; split
  · exact mod_u64 ‹_›
  · exact ⟨by omega, by omega⟩

theorem mAdd_ok {a b m : Int} (h : okm m = true) : mAdd a b m = (a + b) % m := by rw [mAdd, if_pos h]
theorem mSub_ok {a b m : Int} (h : okm m = true) : mSub a b m = (a - b) % m := by rw [mSub, if_pos h]
theorem mMul_ok {a b m : Int} (h : okm m = true) : mMul a b m = (a * b) % m := by rw [mMul, if_pos h]
theorem mAdd_no {a b m : Int} (h : okm m = false) : mAdd a b m = 0 := by simp [mAdd, h]
theorem mSub_no {a b m : Int} (h : okm m = false) : mSub a b m = 0 := by simp [mSub, h]
theorem mMul_no {a b m : Int} (h : okm m = false) : mMul a b m = 0 := by simp [mMul, h]

theorem add_hi {a b m : Int} (h0 : 0 < m) (h : m ≤ a % m + b % m) : a % m + b % m - m = (a + b) % m := by
  have x1 := Int.emod_nonneg a (b := m) (by omega)
  have x2 := Int.emod_lt_of_pos a h0
  have y1 := Int.emod_nonneg b (b := m) (by omega)
  have y2 := Int.emod_lt_of_pos b h0
  rw [Int.add_emod a b]
  generalize a % m = x at *
  generalize b % m = y at *
  rw [← Int.sub_emod_right, Int.emod_eq_of_lt (by omega) (by omega)]
theorem add_lo {a b m : Int} (h0 : 0 < m) (h : a % m + b % m < m) : a % m + b % m = (a + b) % m := by
  have x1 := Int.emod_nonneg a (b := m) (by omega)
  have y1 := Int.emod_nonneg b (b := m) (by omega)
  rw [Int.add_emod a b]
  generalize a % m = x at *
  generalize b % m = y at *
  rw [Int.emod_eq_of_lt (by omega) (by omega)]
theorem sub_hi {a b m : Int} (h0 : 0 < m) (h : b % m ≤ a % m) : a % m - b % m = (a - b) % m := by
  have x2 := Int.emod_lt_of_pos a h0
  have y1 := Int.emod_nonneg b (b := m) (by omega)
  rw [Int.sub_emod a b]
  generalize a % m = x at *
  generalize b % m = y at *
  rw [Int.emod_eq_of_lt (by omega) (by omega)]
theorem sub_lo {a b m : Int} (h0 : 0 < m) (h : a % m < b % m) : m - (b % m - a % m) = (a - b) % m := by
  have x1 := Int.emod_nonneg a (b := m) (by omega)
  have y2 := Int.emod_lt_of_pos b h0
  rw [Int.sub_emod a b]
  generalize a % m = x at *
  generalize b % m = y at *
  rw [← Int.add_emod_right, Int.emod_eq_of_lt (by omega) (by omega)]
  omega

/-- a to the power of e, modulo m. -/
def mPow (a : Int) (e : Nat) (m : Int) : Int := if okm m then a ^ e % m else 0
theorem mPow_ok {a m : Int} {e : Nat} (h : okm m = true) : mPow a e m = a ^ e % m := by rw [mPow, if_pos h]
theorem mPow_no {a m : Int} {e : Nat} (h : okm m = false) : mPow a e m = 0 := by simp [mPow, h]
theorem mPow_u64 (a : Int) (e : Nat) (m : Int) : U64 (mPow a e m) := by
  unfold mPow; split
  · exact mod_u64 ‹_›
  · exact ⟨by omega, by omega⟩
theorem mPow_zero (a m : Int) : mPow a 0 m = mAdd 1 0 m := by
  unfold mPow mAdd; simp
theorem mPow_even (a m : Int) (k : Nat) : mPow a (2 * k) m = mMul (mPow a k m) (mPow a k m) m := by
  unfold mPow mMul
  split
  · rw [Nat.two_mul, Int.pow_add, ← Int.mul_emod]
  · rfl
theorem mPow_odd (a m : Int) (k : Nat) : mPow a (2 * k + 1) m = mMul (mMul (mPow a k m) (mPow a k m) m) a m := by
  rw [← mPow_even]
  unfold mPow mMul
  split
  · rw [Int.pow_succ]; simp [Int.mul_emod]
  · rfl

/-- the round of the product by doubling. -/
theorem dbl_odd {o a b m t : Int} (hm : okm m = true) (hb : b % 2 = 1) (h : (o + a * b) % m = t) : (mAdd o a m + mAdd a a m * (b / 2)) % m = t := by
  rw [mAdd_ok hm, mAdd_ok hm, ← h]
  have e : o + a * b = (o + a) + (a + a) * (b / 2) := by
    have hb' : b = 2 * (b / 2) + 1 := by omega
    generalize b / 2 = c at *
    subst hb'
    grind
  rw [e, Int.add_emod, Int.emod_emod, Int.mul_emod, Int.emod_emod, ← Int.mul_emod, ← Int.add_emod]
theorem dbl_even {o a b m t : Int} (hm : okm m = true) (hb : b % 2 = 0) (h : (o + a * b) % m = t) : (o + mAdd a a m * (b / 2)) % m = t := by
  rw [mAdd_ok hm, ← h]
  have e : o + a * b = o + (a + a) * (b / 2) := by
    have hb' : b = 2 * (b / 2) := by omega
    generalize b / 2 = c at *
    subst hb'
    grind
  rw [e, Int.add_emod, Int.mul_emod, Int.emod_emod, ← Int.mul_emod, ← Int.add_emod]

/-- the relation of that loop. -/
def DblInv (a b m a' b' o : Int) : Prop := if okm m then (o + a' * b') % m = (a * b) % m ∧ o % m = o else o = 0
theorem DblInv.start (a b m : Int) : DblInv a b m a b 0 := by
  unfold DblInv; split
  · exact ⟨by rw [Int.zero_add], Int.zero_emod _⟩
  · rfl
theorem DblInv.odd {a b m a' b' o : Int} (h : DblInv a b m a' b' o) (hb : b' % 2 = 1) (_h0 : 0 ≤ b') : DblInv a b m (mAdd a' a' m) (b' / 2) (mAdd o a' m) := by
  unfold DblInv at *
  by_cases hm : okm m = true
  · rw [if_pos hm] at *
    exact ⟨dbl_odd hm hb h.1, by rw [mAdd_ok hm, Int.emod_emod]⟩
  · rw [if_neg hm] at *
    exact mAdd_no (by simpa using hm)
theorem DblInv.even {a b m a' b' o : Int} (h : DblInv a b m a' b' o) (hb : b' % 2 = 0) (_h0 : 0 ≤ b') : DblInv a b m (mAdd a' a' m) (b' / 2) o := by
  unfold DblInv at *
  by_cases hm : okm m = true
  · rw [if_pos hm] at *
    exact ⟨dbl_even hm hb h.1, h.2⟩
  · rw [if_neg hm] at *
    exact h
theorem DblInv.done {a b m a' b' o : Int} (h : DblInv a b m a' b' o) (hb : b' = 0) : o = mMul a b m := by
  subst hb
  unfold DblInv mMul at *
  split
  · rename_i hm
    rw [if_pos hm, Int.mul_zero, Int.add_zero] at h
    rw [← h.1, h.2]
  · rename_i hm
    rw [if_neg hm] at h
    exact h

/-- the number of a whole number, and the whole number of a number. -/
def mNum (n q : Int) : Int := if okm q then n % q else 0
def mInt (x q : Int) : Int := if okm q then (if 2 * (x % q) < q then x % q else x % q - q) else 0
theorem mNum_u64 (n q : Int) : U64 (mNum n q) := by
  unfold mNum; split
  · exact mod_u64 ‹_›
  · exact ⟨by omega, by omega⟩
theorem mNum_ok {n q : Int} (h : okm q = true) : mNum n q = n % q := by rw [mNum, if_pos h]
theorem mNum_no {n q : Int} (h : okm q = false) : mNum n q = 0 := by simp [mNum, h]

end Go.Proofs.YtpdgalclnlbeaaaDoor
