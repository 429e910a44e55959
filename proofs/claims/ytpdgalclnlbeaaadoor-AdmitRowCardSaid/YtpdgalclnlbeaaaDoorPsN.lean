/-
  No composite number up to 2^61 passes the strong test to the twelve bases 2, 3, .., 37: the kernel's runs put together.
-/
import Derived.Test.YtpdgalclnlbeaaaDoorPrP
import Derived.Test.YtpdgalclnlbeaaaDoorPsR1
import Derived.Test.YtpdgalclnlbeaaaDoorPsR2
import Derived.Test.YtpdgalclnlbeaaaDoorPsR3
import Derived.Test.YtpdgalclnlbeaaaDoorPsR4
import Derived.Test.YtpdgalclnlbeaaaDoorPsR5
import Derived.Test.YtpdgalclnlbeaaaDoorPsR6
import Derived.Test.YtpdgalclnlbeaaaDoorPsR7
import Derived.Test.YtpdgalclnlbeaaaDoorPsR8
namespace Go.Psi

theorem primL_split : primL = [2, 3, 5, 7, 11, 13, 17, 19, 23, 29, 31, 37] ++ (sl41 ++ (sl137 ++ (sl367 ++ (sl617 ++ (sl677 ++ (sl967 ++ (sl1237 ++ (sl1543 ++ (sl1847 ++ (sl2141 ++ (sl2447 ++ sl2767))))))))))) := by decide +kernel
theorem SmR.app {l k : List Nat} (h : SmR l) (h' : SmR k) : SmR (l ++ k) := fun p hp => by
  rcases List.mem_append.1 hp with hp | hp
  · exact h p hp
  · exact h' p hp
theorem small_all : ∀ p ∈ primL, 40 < p → okP p = true := by
  have h : SmR (sl41 ++ (sl137 ++ (sl367 ++ (sl617 ++ (sl677 ++ (sl967 ++ (sl1237 ++ (sl1543 ++ (sl1847 ++ (sl2141 ++ (sl2447 ++ sl2767))))))))))) := (sc41.app (sc137.app (sc367.app (sc617.app (sc677.app (sc967.app (sc1237.app (sc1543.app (sc1847.app (sc2141.app (sc2447.app sc2767)))))))))))
  intro p hp h40
  rw [primL_split] at hp
  rcases List.mem_append.1 hp with hp | hp
  · exfalso
    simp only [List.mem_cons, List.not_mem_nil, or_false] at hp
    omega
  · exact h p hp
/-- below 3001 no odd number is coprime to all primes in the list. -/
noncomputable def lowF (j : Nat) : Bool := Bool.rec true false (Nat.beq (Nat.gcd prim (Nat.succ (Nat.mul 2 (Nat.succ j)))) 1)
noncomputable def lowB (n : Nat) : Bool := Nat.rec true (fun j ih => and2 (lowF j) ih) n
theorem lowB_ok : lowB 1499 = true := by decide +kernel
theorem lowB_spec {n : Nat} (h : lowB n = true) : ∀ j, j < n → lowF j = true := rec_all h
theorem low_no {p : Nat} (h1 : p % 2 = 1) (h2 : 40 < p) (h3 : p / 2 < 1500) (h : Nat.gcd prim p = 1) : False := by
  have k := lowB_spec lowB_ok (p / 2 - 1) (by omega)
  have e : Nat.succ (Nat.mul 2 (Nat.succ (p / 2 - 1))) = p := by
    show 2 * (p / 2 - 1 + 1) + 1 = p
    omega
  unfold lowF at k
  rw [e, beq_of h] at k
  cases k
theorem big_all : BigR 1500 660600 := (B_0.trans (B_1.trans (B_2.trans (B_3.trans B_4))))
theorem odd_all' : OddR 3 3313 := (O_0.trans (O_1.trans (O_2.trans O_3)))
theorem even_all : EvR 2 3314 := (E_0.trans (E_1.trans (E_2.trans E_3)))
theorem runs : Runs where
  odd v h1 h2 h3 := odd_all' v h1 h2 (by omega)
  even k h1 h2 h3 := even_all k h1 h2 (by omega)
theorem runs3 : Runs3 where
  small := small_all
  big p h1 h2 h3 h4 h5 := by
    rcases Nat.lt_or_ge (p / 2) 1500 with h | h
    · exact (low_no h1 h2 h h5).elim
    · exact big_all p h1 h (by omega) h4 h5
  ones j hj := ones_all j hj
  one1 p h1 h2 h3 h4 := one1_all p h1 (by omega) (by omega) h4
/-- no composite number up to 2^61 passes the test to the 12 bases. -/
theorem psi_all {n : Nat} (hn : Pass n) (hN : n ≤ 2305843009213693952) : Pr n := psi runs runs3 hn hN
end Go.Psi

/-! The primes' test of the program tells just the primes. (No program in sight.) -/
namespace Go.Proofs.YtpdgalclnlbeaaaDoor
open Go Go.Psi

theorem cgI_mod (N : Nat) (x : Int) : Cg N (x % (N : Int)) x := ⟨-(x / (N : Int)), by
  have := Int.emod_add_mul_ediv x (N : Int)
  rw [Int.mul_neg]; omega⟩
theorem cg_eq {N : Nat} {x y : Int} (hx0 : 0 ≤ x) (hx : x < N) (hy0 : 0 ≤ y) (hy : y < N) (h : Cg N x y) : x = y := by
  obtain ⟨k, hk⟩ := h
  have h1 : k = 0 := by
    rcases Int.lt_trichotomy k 0 with h | h | h
    · exfalso
      have : (N : Int) * k ≤ (N : Int) * (-1) := Int.mul_le_mul_of_nonneg_left (by omega) (by omega)
      omega
    · exact h
    · exfalso
      have : (N : Int) * 1 ≤ (N : Int) * k := Int.mul_le_mul_of_nonneg_left (by omega) (by omega)
      omega
  rw [h1, Int.mul_zero] at hk
  omega
theorem cg_neg1 {N : Nat} {x : Int} (hN : 1 < N) (hx0 : 0 ≤ x) (hx : x < N) : x = (N : Int) - 1 ↔ Cg N x (-1) := by
  constructor
  · intro h
    exact ⟨1, by omega⟩
  · intro h
    exact cg_eq hx0 hx (by omega) (by omega) (h.trans ⟨-1, by omega⟩)
theorem powF_cg {N : Nat} (hm : okm (N : Int) = true) : ∀ (f : Nat) (out a : Int) (e : Nat), e < 2 ^ f → Cg N (powF N f out a e) (out * a ^ e)
  | 0, out, a, e, h => by
    have : e = 0 := by simpa using h
    subst this
    rw [powF, Int.pow_zero, Int.mul_one]; exact Cg.refl _ _
  | f + 1, out, a, e, h => by
    by_cases h0 : e = 0
    · subst h0; rw [powF_done, Int.pow_zero, Int.mul_one]; exact Cg.refl _ _
    · have hf : e / 2 < 2 ^ f := by rw [Nat.pow_succ] at h; omega
      have h2 : Cg N ((mMul a a (N : Int)) ^ (e / 2)) (a ^ (2 * (e / 2))) := by
        rw [mMul_ok hm]
        have := (cgI_mod N (a * a)).pow (e / 2)
        rw [Int.pow_mul, Int.pow_succ, Int.pow_succ, Int.pow_zero, Int.one_mul]
        exact this
      by_cases h1 : e % 2 = 1
      · rw [powF_odd h1]
        refine (powF_cg hm f _ _ _ hf).trans ?_
        have h3 := (cgI_mod N (out * a)).mul h2
        rw [mMul_ok hm]
        refine (by rw [mMul_ok hm] at h3 ⊢; exact h3 : Cg N _ _).trans ?_
        have e2 : out * a * a ^ (2 * (e / 2)) = out * a ^ e := by
          rw [Int.mul_assoc, ← Int.pow_succ', show 2 * (e / 2) + 1 = e by omega]
        rw [e2]; exact Cg.refl _ _
      · rw [powF_even h0 (by omega)]
        refine (powF_cg hm f _ _ _ hf).trans ?_
        have h3 := (Cg.refl N out).mul h2
        rwa [show 2 * (e / 2) = e by omega] at h3
theorem powF_lt {N : Nat} (hm : okm (N : Int) = true) : ∀ (f : Nat) (out a : Int) (e : Nat), 0 ≤ out → out < N → 0 ≤ powF N f out a e ∧ powF N f out a e < N
  | 0, _, _, _, h0, h1 => ⟨h0, h1⟩
  | f + 1, out, a, e, h0, h1 => by
    rw [powF]
    split
    · exact ⟨h0, h1⟩
    · have hp := okm_pos hm
      refine powF_lt hm f _ _ _ ?_ ?_
      · split
        · rw [mMul_ok hm]; exact Int.emod_nonneg _ (by omega)
        · exact h0
      · split
        · rw [mMul_ok hm]; exact Int.emod_lt_of_pos _ hp
        · exact h1
theorem powV_cg {N : Nat} (hm : okm (N : Int) = true) (a : Int) {e : Nat} (he : e < 2 ^ 64) : Cg N (powV a e N) (a ^ e) := by
  rw [powV, if_pos hm]
  refine (powF_cg hm 64 _ _ _ he).trans ?_
  have := (cgI_mod N 1).mul (Cg.refl N (a ^ e))
  rwa [Int.one_mul] at this
theorem powV_lt {N : Nat} (hm : okm (N : Int) = true) (a : Int) (e : Nat) : 0 ≤ powV a e N ∧ powV a e N < N := by
  have hp := okm_pos hm
  rw [powV, if_pos hm]
  exact powF_lt hm _ _ _ _ (Int.emod_nonneg _ (by omega)) (Int.emod_lt_of_pos _ hp)
theorem mrT_iff {N : Nat} (hm : okm (N : Int) = true) (hN : 1 < N) : ∀ (k : Nat) (x : Int), 0 ≤ x → x < N → (mrT N k x = true ↔ ∃ r, r < k ∧ Cg N (x ^ (2 ^ r)) (-1))
  | 0, x, _, _ => ⟨fun h => (by cases h), fun ⟨r, hr, _⟩ => (by omega)⟩
  | k + 1, x, h0, h1 => by
    have hp := okm_pos hm
    rw [mrT]
    by_cases hx : x = (N : Int) - 1
    · rw [if_pos hx]
      exact ⟨fun _ => ⟨0, by omega, by rw [Nat.pow_zero, Int.pow_succ, Int.pow_zero, Int.one_mul]; exact (cg_neg1 hN h0 h1).1 hx⟩, fun _ => rfl⟩
    · rw [if_neg hx]
      have ih := mrT_iff hm hN k (mMul x x N) (by rw [mMul_ok hm]; exact Int.emod_nonneg _ (by omega)) (by rw [mMul_ok hm]; exact Int.emod_lt_of_pos _ hp)
      have key : ∀ r, Cg N ((mMul x x (N : Int)) ^ (2 ^ r)) (x ^ (2 ^ (r + 1))) := by
        intro r
        rw [mMul_ok hm, show 2 ^ (r + 1) = 2 * 2 ^ r by rw [Nat.pow_succ, Nat.mul_comm], Int.pow_mul]
        have := (cgI_mod N (x * x)).pow (2 ^ r)
        rwa [show x ^ 2 = x * x by rw [Int.pow_succ, Int.pow_succ, Int.pow_zero, Int.one_mul]]
      rw [ih]
      constructor
      · rintro ⟨r, hr, h⟩
        exact ⟨r + 1, by omega, (key r).symm.trans h⟩
      · rintro ⟨r, hr, h⟩
        cases r with
        | zero =>
          exfalso
          rw [Nat.pow_zero, Int.pow_succ, Int.pow_zero, Int.one_mul] at h
          exact hx ((cg_neg1 hN h0 h1).2 h)
        | succ r => exact ⟨r, by omega, (key r).trans h⟩
/-- a power of 2, and an odd rest. -/
theorem ctz_split {x : Nat} (h0 : 0 < x) (h : x < 2 ^ 64) : x = 2 ^ Lib.ctz 64 x * (x / 2 ^ Lib.ctz 64 x) ∧ (x / 2 ^ Lib.ctz 64 x) % 2 = 1 := by
  obtain ⟨m, hm, _⟩ := Lib.ctzFrom_spec 64 x h0 h
  have e : Lib.ctz 64 x = Lib.ctzFrom 64 x := by
    unfold Lib.ctz
    first
      | rfl
      | rw [if_neg (by omega)]
  rw [e]
  have hp : 0 < 2 ^ Lib.ctzFrom 64 x := Nat.pow_pos (by omega)
  generalize Lib.ctzFrom 64 x = c at hm hp
  have e2 : x / 2 ^ c = 2 * m + 1 := by
    rw [hm]
    exact Nat.mul_div_cancel_left _ hp
  rw [e2]
  exact ⟨hm, by omega⟩
/-- what one number tells. -/
theorem mrOne_none {N : Nat} {a : Int} {tw d : Nat} (hm : okm (N : Int) = true) (hN : 1 < N) (hd : ((N : Int) - 1).toNat / 2 ^ tw = d) (hd64 : d < 2 ^ 64) (h : mrOne N a tw = none) :
    (N : Int) % a ≠ 0 ∧ (Cg N (a ^ d) 1 ∨ ∃ r, r < tw ∧ Cg N (a ^ (2 ^ r * d)) (-1)) := by
  unfold mrOne at h
  rw [hd] at h
  by_cases h0 : (N : Int) % a = 0
  · rw [if_pos h0] at h; cases h
  rw [if_neg h0] at h
  refine ⟨h0, ?_⟩
  have hc := powV_cg hm a hd64
  by_cases h1 : powV a d N = 1
  · left
    rw [h1] at hc; exact hc.symm
  rw [if_neg h1] at h
  right
  by_cases h2 : mrT N tw (powV a d N) = true
  · obtain ⟨r, hr, h3⟩ := (mrT_iff hm hN tw _ (powV_lt hm a d).1 (powV_lt hm a d).2).1 h2
    refine ⟨r, hr, ?_⟩
    have := (hc.pow (2 ^ r)).symm.trans h3
    rwa [← Int.pow_mul, Nat.mul_comm] at this
  · rw [if_neg h2] at h; cases h
theorem mrOne_of {N : Nat} {a : Int} {tw d : Nat} (hm : okm (N : Int) = true) (hN : 1 < N) (hd : ((N : Int) - 1).toNat / 2 ^ tw = d) (hd64 : d < 2 ^ 64)
    (h0 : (N : Int) % a ≠ 0) (h : Cg N (a ^ d) 1 ∨ ∃ r, r < tw ∧ Cg N (a ^ (2 ^ r * d)) (-1)) : mrOne N a tw = none := by
  unfold mrOne
  rw [hd, if_neg h0]
  have hc := powV_cg hm a hd64
  by_cases h1 : powV a d N = 1
  · rw [if_pos h1]
  rw [if_neg h1, if_pos]
  refine (mrT_iff hm hN tw _ (powV_lt hm a d).1 (powV_lt hm a d).2).2 ?_
  rcases h with h | ⟨r, hr, h⟩
  · exact absurd (cg_eq (powV_lt hm a d).1 (powV_lt hm a d).2 (by omega) (by omega) (hc.trans h)) h1
  · refine ⟨r, hr, (hc.pow (2 ^ r)).trans ?_⟩
    rwa [← Int.pow_mul, Nat.mul_comm]
theorem mrAll_true {n : Int} {tw : Nat} : ∀ {l : List Int}, mrAll n tw l = true → (∃ a ∈ l, n % a = 0 ∧ n = a) ∨ ∀ a ∈ l, mrOne n a tw = none
  | [], _ => .inr fun a ha => by cases ha
  | a :: l, h => by
    rw [mrAll] at h
    cases hc : mrOne n a tw with
    | none =>
      rw [hc] at h
      rcases mrAll_true (l := l) h with ⟨b, hb, h1⟩ | h1
      · exact .inl ⟨b, List.mem_cons_of_mem _ hb, h1⟩
      · refine .inr fun b hb => ?_
        rcases List.mem_cons.1 hb with rfl | hb
        · exact hc
        · exact h1 b hb
    | some b =>
      rw [hc] at h
      have hb : b = true := h
      subst hb
      left
      unfold mrOne at hc
      by_cases h0 : n % a = 0
      · rw [if_pos h0] at hc
        have := Option.some.inj hc
        exact ⟨a, List.mem_cons_self, h0, of_decide_eq_true this⟩
      · rw [if_neg h0] at hc
        split at hc
        · cases hc
        · split at hc
          · cases hc
          · cases hc
theorem mrAll_of {n : Int} {tw : Nat} : ∀ {l : List Int}, (∀ a ∈ l, mrOne n a tw = none) → mrAll n tw l = true
  | [], _ => rfl
  | a :: l, h => by
    rw [mrAll, h a List.mem_cons_self]
    exact mrAll_of fun b hb => h b (List.mem_cons_of_mem _ hb)
/-- small primes. -/
def trialB (n : Nat) : Bool := (List.range n).all fun d => decide (d < 2) || decide (n % d ≠ 0)
theorem pr_trial {n : Nat} (h2 : 2 ≤ n) : Pr n ↔ trialB n = true := by
  constructor
  · intro h
    refine List.all_eq_true.2 fun d hd => ?_
    have hlt := List.mem_range.1 hd
    rw [Bool.or_eq_true, decide_eq_true_eq, decide_eq_true_eq]
    rcases Nat.lt_or_ge d 2 with h3 | h3
    · exact .inl h3
    · refine .inr fun h4 => ?_
      rcases h.2 d (Nat.dvd_of_mod_eq_zero h4) with e | e <;> omega
  · intro h
    refine pr_of h2 fun d hd hd2 h0 => ?_
    have := List.all_eq_true.1 h d (List.mem_range.2 hd)
    rw [Bool.or_eq_true, decide_eq_true_eq, decide_eq_true_eq] at this
    rcases this with h3 | h3
    · omega
    · exact h3 h0
def smallPrimes : Bool := (List.range 41).all fun n => decide (n < 2) || (primeV (n : Int) == trialB n)
theorem smallPrimes_ok : smallPrimes = true := by decide +kernel
theorem small_prime {n : Nat} (h2 : 2 ≤ n) (h : n < 41) : primeV (n : Int) = true ↔ Pr n := by
  have := List.all_eq_true.1 smallPrimes_ok n (List.mem_range.2 h)
  rw [Bool.or_eq_true, decide_eq_true_eq] at this
  rcases this with h3 | h3
  · omega
  · rw [pr_trial h2, eq_of_beq h3]
/-- what the test lets pass is a prime. -/
theorem primeV_prN (P : ∀ {n : Nat}, Pass n → n ≤ 2305843009213693952 → Pr n) {N : Nat} (h : primeV (N : Int) = true) : Pr N := by
  obtain ⟨h2, hle⟩ := primeV_ge h
  rcases Nat.lt_or_ge N 41 with hs | hs
  · exact (small_prime (by omega) hs).1 h
  have hm : okm (N : Int) = true := okm_of (by omega) hle
  unfold primeV at h
  rw [if_neg (by omega)] at h
  have e1 : ((N : Int) - 1).toNat = N - 1 := by omega
  obtain ⟨hs1, hs2⟩ := ctz_split (x := N - 1) (by omega) (by omega)
  generalize htw : Lib.ctz 64 ((N : Int) - 1).toNat = tw at h
  rw [e1] at htw
  rw [htw] at hs1 hs2
  rcases mrAll_true h with ⟨a, ha, h1, h3⟩ | hall
  · exfalso
    simp only [triedL, List.mem_cons, List.not_mem_nil, or_false] at ha
    omega
  · have hd64 : (N - 1) / 2 ^ tw < 2 ^ 64 := Nat.lt_of_le_of_lt (Nat.div_le_self _ _) (by omega)
    have hodd : N % 2 = 1 := by
      have := (mrOne_none hm (by omega) (d := (N - 1) / 2 ^ tw) (by rw [e1]) hd64 (hall 2 (by simp [triedL]))).1
      omega
    refine P ⟨by omega, hodd, tw, (N - 1) / 2 ^ tw, hs1, hs2, fun a ha => ?_⟩ (by omega)
    have hat : (a : Int) ∈ triedL := by
      simp only [p12, odds, List.mem_cons, List.not_mem_nil, or_false] at ha
      simp only [triedL, List.mem_cons, List.not_mem_nil, or_false]
      omega
    exact (mrOne_none hm (by omega) (d := (N - 1) / 2 ^ tw) (by rw [e1]) hd64 (hall _ hat)).2
/-- a prime passes to one base. -/
theorem pr_strong {p a s d : Nat} (hp : Pr p) (ho : p % 2 = 1) (ha : ¬ p ∣ a) (h : p - 1 = 2 ^ s * d) : Cg p ((a : Int) ^ d) 1 ∨ ∃ r, r < s ∧ Cg p ((a : Int) ^ (2 ^ r * d)) (-1) := by
  have hf := fermat hp ho ha
  rw [h] at hf
  clear h
  induction s with
  | zero => left; rwa [Nat.pow_zero, Nat.one_mul] at hf
  | succ s ih =>
    have e : 2 ^ (s + 1) * d = 2 ^ s * d * 2 := by rw [Nat.pow_succ]; simp only [Nat.mul_comm, Nat.mul_left_comm]
    rw [e, Int.pow_mul] at hf
    generalize hx : (a : Int) ^ (2 ^ s * d) = x at hf
    have h1 : (p : Int) ∣ (x - 1) * (x + 1) := by
      obtain ⟨k, hk⟩ := hf
      refine ⟨k, ?_⟩
      rw [← hk, Int.pow_succ, Int.pow_succ, Int.pow_zero, Int.one_mul, Int.sub_mul, Int.mul_add, Int.mul_add, Int.mul_one, Int.one_mul, Int.one_mul]
      omega
    have h2 : p ∣ (x - 1).natAbs * (x + 1).natAbs := by
      rw [← Int.natAbs_mul]
      exact Int.ofNat_dvd_left.1 h1
    rcases hp.dvd_mul h2 with h3 | h3
    · have h4 : Cg p x 1 := Int.ofNat_dvd_left.2 h3
      rw [← hx] at h4
      rcases ih h4 with h5 | ⟨r, hr, h5⟩
      · exact .inl h5
      · exact .inr ⟨r, by omega, h5⟩
    · have h4 : (p : Int) ∣ x + 1 := Int.ofNat_dvd_left.2 h3
      refine .inr ⟨s, by omega, ?_⟩
      rw [hx]
      show (p : Int) ∣ x - (-1)
      rwa [Int.sub_neg]
theorem primeV_of {N : Nat} (hp : Pr N) (hle : N ≤ 2305843009213693952) : primeV (N : Int) = true := by
  rcases Nat.lt_or_ge N 41 with hs | hs
  · exact (small_prime hp.1 hs).2 hp
  have hm : okm (N : Int) = true := okm_of (by omega) (by omega)
  have ho := hp.odd (by omega)
  unfold primeV
  rw [if_neg (by omega)]
  have e1 : ((N : Int) - 1).toNat = N - 1 := by omega
  obtain ⟨hs1, hs2⟩ := ctz_split (x := N - 1) (by omega) (by omega)
  rw [e1]
  generalize Lib.ctz 64 (N - 1) = tw at *
  refine mrAll_of fun a ha => ?_
  have hd64 : (N - 1) / 2 ^ tw < 2 ^ 64 := Nat.lt_of_le_of_lt (Nat.div_le_self _ _) (by omega)
  have ha2 : 2 ≤ a ∧ a < 41 := by
    simp only [triedL, List.mem_cons, List.not_mem_nil, or_false] at ha
    omega
  obtain ⟨b, rfl⟩ := Int.eq_ofNat_of_zero_le (show 0 ≤ a by omega)
  have hb : ¬ N ∣ b := Pr.not_dvd_lt (by omega) (by omega)
  refine mrOne_of hm (by omega) (d := (N - 1) / 2 ^ tw) (by rw [e1]) hd64 ?_ (pr_strong hp ho hb hs1)
  intro h0
  have : b ∣ N := by
    exact Int.natCast_dvd_natCast.1 (Int.dvd_of_emod_eq_zero h0)
  rcases hp.2 b this with e | e <;> omega
theorem prime_pr {q : Int} (h : primeV q = true) : Pr q.toNat := by
  have h2 := (primeV_ge h).1
  obtain ⟨N, rfl⟩ := Int.eq_ofNat_of_zero_le (show 0 ≤ q by omega)
  rw [Int.toNat_natCast]
  exact primeV_prN psi_all h
end Go.Proofs.YtpdgalclnlbeaaaDoor
