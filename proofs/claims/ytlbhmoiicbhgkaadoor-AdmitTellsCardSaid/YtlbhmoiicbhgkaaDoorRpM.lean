/-
  The document's test of primes.
-/
import Derived.Test.YtlbhmoiicbhgkaaDoorAdmQ1
import Derived.Test.YtlbhmoiicbhgkaaDoorAdmQ2
import Derived.Test.YtlbhmoiicbhgkaaDoorAdmQ3
import Derived.Test.YtlbhmoiicbhgkaaDoorAdmQ4
import Derived.Test.YtlbhmoiicbhgkaaDoorAdmQ5
import Derived.Test.YtlbhmoiicbhgkaaDoorAdmQ6
import Derived.Test.YtlbhmoiicbhgkaaDoorAdmQ7
import Derived.Test.YtlbhmoiicbhgkaaDoorAdmQ8
import Derived.Test.YtlbhmoiicbhgkaaDoorAdM
import Derived.Test.YtlbhmoiicbhgkaaDoorPsN
namespace Go.Proofs.YtlbhmoiicbhgkaaDoor
open Go Go.RowKit Go.Maps Go.Shelf Go.Proofs Go.Psi

attribute [local go_sem] Oper.semAt_some

theorem two_split : ∀ (a b o m : Nat), o % 2 = 1 → m % 2 = 1 → 2 ^ a * o = 2 ^ b * m → a = b ∧ o = m
  | 0, 0, o, m, _, _, h => by simpa using h
  | 0, b + 1, o, m, ho, _, h => by rw [Nat.pow_succ, Nat.pow_zero, Nat.one_mul] at h; rw [h, Nat.mul_comm (2 ^ b) 2, Nat.mul_assoc] at ho; omega
  | a + 1, 0, o, m, _, hm, h => by rw [Nat.pow_succ, Nat.pow_zero, Nat.one_mul] at h; rw [← h, Nat.mul_comm (2 ^ a) 2, Nat.mul_assoc] at hm; omega
  | a + 1, b + 1, o, m, ho, hm, h => by
    rw [Nat.pow_succ, Nat.pow_succ, Nat.mul_comm (2 ^ a) 2, Nat.mul_comm (2 ^ b) 2, Nat.mul_assoc, Nat.mul_assoc] at h
    obtain ⟨h1, h2⟩ := two_split a b o m ho hm (by omega)
    exact ⟨by omega, h2⟩
theorem powV_eq {N : Nat} (hm : okm (N : Int) = true) (a : Int) {e : Nat} (he : e < 2 ^ 64) : mPow a e N = powV a e N := by
  obtain ⟨h1, h2⟩ := powV_lt hm a e
  have hp := okm_pos hm
  rw [mPow_ok hm]
  exact (cg_eq h1 h2 (Int.emod_nonneg _ (by omega)) (Int.emod_lt_of_pos _ hp) ((powV_cg hm a he).trans (cgI_mod N (a ^ e)).symm)).symm
/-- does a number tell that n is no prime? -/
def agV (a n : Int) (tw : Nat) : Bool := !(decide (powV a ((n - 1).toNat / 2 ^ tw) n = 1) || mrT n tw (powV a ((n - 1).toNat / 2 ^ tw) n))
theorem agV_yes {a n : Int} {tw : Nat} (h : agV a n tw = true) (h0 : n % a ≠ 0) : mrOne n a tw = some false := by
  unfold agV at h
  rw [Bool.not_eq_true', Bool.or_eq_false_iff, decide_eq_false_iff_not] at h
  unfold mrOne
  rw [if_neg h0, if_neg h.1, h.2]
  rfl
theorem agV_no {a n : Int} {tw : Nat} (h : agV a n tw = false) (h0 : n % a ≠ 0) : mrOne n a tw = none := by
  unfold agV at h
  rw [Bool.not_eq_false', Bool.or_eq_true, decide_eq_true_eq] at h
  unfold mrOne
  rw [if_neg h0]
  by_cases h1 : powV a ((n - 1).toNat / 2 ^ tw) n = 1
  · rw [if_pos h1]
  · rw [if_neg h1]
    rcases h with h | h
    · exact absurd h h1
    · rw [h]; rfl
/-- a divisor is found. -/
theorem prime_div {n d : Nat} (hd : 2 ≤ d) (hdd : d * d ≤ n) (h : n % d = 0) : primeV (n : Int) = false := by
  cases hp : primeV (n : Int) with
  | false => rfl
  | true =>
    exfalso
    have hP := prime_pr hp
    have h1 : d ∣ n := Nat.dvd_of_mod_eq_zero h
    have hn : ((n : Int)).toNat = n := by omega
    rw [hn] at hP
    have h2 : d * 2 ≤ d * d := Nat.mul_le_mul_left _ hd
    rcases hP.2 d h1 with e | e <;> omega
/-- none is found below. -/
theorem prime_small {n d : Nat} (hn : n < 1000000) (h2 : 2 ≤ n) (hd : 1000 ≤ d ∨ n < d * d) (h : ∀ e, 2 ≤ e → e < d → n % e ≠ 0) : primeV (n : Int) = true := by
  refine primeV_of ⟨h2, fun a ha => ?_⟩ (by omega)
  obtain ⟨b, rfl⟩ := ha
  rcases Nat.lt_or_ge a 2 with h3 | h3
  · left
    rcases Nat.eq_zero_or_pos a with e | e
    · subst e; omega
    · omega
  rcases Nat.lt_or_ge b 2 with h4 | h4
  · right
    rcases Nat.eq_zero_or_pos b with e | e
    · subst e; omega
    · have : b = 1 := by omega
      subst this; omega
  exfalso
  rcases Nat.le_total a b with h5 | h5
  · have h6 : a * a ≤ a * b := Nat.mul_le_mul_left _ h5
    have h7 : a < d := by
      rcases Nat.lt_or_ge a d with h8 | h8
      · exact h8
      · exfalso
        have h9 : d * d ≤ a * a := Nat.mul_le_mul h8 h8
        rcases hd with h10 | h10
        · have : 1000 * 1000 ≤ d * d := Nat.mul_le_mul h10 h10
          omega
        · omega
    exact h a h3 h7 (Nat.mul_mod_right a b)
  · have h6 : b * b ≤ a * b := Nat.mul_le_mul_right _ h5
    have h7 : b < d := by
      rcases Nat.lt_or_ge b d with h8 | h8
      · exact h8
      · exfalso
        have h9 : d * d ≤ b * b := Nat.mul_le_mul h8 h8
        rcases hd with h10 | h10
        · have : 1000 * 1000 ≤ d * d := Nat.mul_le_mul h10 h10
          omega
        · omega
    exact h b h4 h7 (Nat.mul_mod_left a b)
theorem mrT_step (n : Int) (k : Nat) (x : Int) : mrT n (k + 1) x = if x = n - 1 then true else mrT n k (mMul x x n) := rfl
set_option maxRecDepth 100000 in
set_option maxHeartbeats 2000000 in
theorem against_c (a : Int) (N : Nat) (w : World) (ha : U64 a) (h1 : 2 ≤ N) (hN : N ≤ 2305843009213693952) (ho : N % 2 = 1) :
    Calls Tryd.prog 95 #[.int .u64 a, .int .u64 (N : Int)] w fun r w' => r = .returned (.bool (agV a N (Lib.ctz 64 (N - 1)))) ∧ Dr w w' := by
  have hm : okm (N : Int) = true := okm_of (by omega) (by omega)
  have HM := hid hm
  obtain ⟨hs1, hs2⟩ := ctz_split (x := N - 1) (by omega) (by omega)
  have HS1 := hid hs1
  have HS2 := hid hs2
  have HAG := hid (show agV a N (Lib.ctz 64 (N - 1)) = !(decide (powV a ((N - 1) / 2 ^ Lib.ctz 64 (N - 1)) N = 1) || mrT N (Lib.ctz 64 (N - 1)) (powV a ((N - 1) / 2 ^ Lib.ctz 64 (N - 1)) N)) by
    unfold agV
    rw [show ((N : Int) - 1).toNat = N - 1 by omega])
  have hqU : U64 (N : Int) := ⟨by omega, by omega⟩
  clear hs1 hs2 hm
  generalize Lib.ctz 64 (N - 1) = tw at *
  have HTW := hid (show 1 ≤ tw by
    rcases Nat.eq_zero_or_pos tw with h | h
    · exfalso
      have k1 := HS1.out
      have k2 := HS2.out
      rw [h, Nat.pow_zero, Nat.div_one] at k2
      omega
    · exact h)
  have hD64 : (N - 1) / 2 ^ tw < 18446744073709551616 := Nat.lt_of_le_of_lt (Nat.div_le_self _ _) (by omega)
  generalize (N - 1) / 2 ^ tw = D at *
  have HPW := hid (fun wx => rpow_c a N ha hqU D D (Nat.le_refl _) (by omega) wx)
  rw [powV_eq HM.out a (by simpa using hD64)] at HPW
  have hx0 := powV_lt HM.out a D
  generalize powV a D N = x0 at *
  generalize agV a N tw = R at *
  obtain ⟨hx1, hx2⟩ := hx0
  go_enter Tryd.func95, Tryd.ntmps95
  go_wp2
  go_loopw [5, 6] (fun x y wr => ∃ o k : Nat, x = .int .u64 (o : Int) ∧ y = .int .i64 (k : Int) ∧ 0 < o ∧ o ≤ N - 1 ∧ k < N ∧ Hid (2 ^ k * o = N - 1 ∧ wr = w)) (fun x _ _ => (intOf x).toNat)
  case atStart => exact ⟨N - 1, 0, by congr 1; omega, rfl, by omega, by omega, by omega, hid ⟨by omega, rfl⟩⟩
  case round =>
  obtain ⟨o, k, rfl, rfl, o0, oN, kN, HI⟩ := hrel
  by_cases he : o % 2 = 0
  · have he' : ((o : Int) % 2 == 0) = true := by rw [beq_iff_eq]; omega
    have ht := Int.tmod_eq_emod_of_nonneg (b := 2) (show (0 : Int) ≤ (o : Int) by omega)
    have hd := Int.tdiv_eq_ediv_of_nonneg (b := 2) (show (0 : Int) ≤ (o : Int) by omega)
    have hk : 2 ^ (k + 1) * (o / 2) = N - 1 := by
      rw [← HI.out.1, Nat.pow_succ, Nat.mul_assoc, show 2 * (o / 2) = o by omega]
    have hk2 : k + 1 < N := by
      have h3 : k + 1 < 2 ^ (k + 1) := Nat.lt_two_pow_self
      have h4 : 2 ^ (k + 1) * 1 ≤ 2 ^ (k + 1) * (o / 2) := Nat.mul_le_mul_left _ (by omega)
      omega
    have HN := hid (⟨hk, HI.out.2⟩ : 2 ^ (k + 1) * (o / 2) = N - 1 ∧ _)
    have hpos : 0 < o / 2 := by omega
    clear he hk HI
    go_wp2
    go_roundw
    case rel => exact ⟨o / 2, k + 1, by congr 1, by go_num, hpos, by omega, hk2, HN⟩
    case measure => simp [intOf]; omega
  have he' : ((o : Int) % 2 == 0) = false := by rw [beq_eq_false_iff_ne]; omega
  have ht := Int.tmod_eq_emod_of_nonneg (b := 2) (show (0 : Int) ≤ (o : Int) by omega)
  obtain ⟨rfl, rfl⟩ := two_split k tw o D (by omega) HS2.out (by rw [HI.out.1]; exact HS1.out)
  have hww := HI.out.2.symm
  subst hww
  have HTM := hid (show (o : Int).tmod 2 = (o : Int) % 2 from ht)
  clear HI he
  go_wp2_with (fail)
  refine (HPW.out _).mono ?_
  rintro e w2 ⟨rfl, hd2⟩
  clear HTM HPW
  by_cases e1 : x0 = 1
  · have hR : R = false := by rw [HAG.out, decide_eq_true e1]; rfl
    subst e1
    subst hR
    clear HAG
    go_wp2
    go_ret
    exact ⟨rfl, hd2⟩
  obtain ⟨k, rfl⟩ : ∃ k', k = k' + 1 := ⟨k - 1, by have := HTW.out; omega⟩
  by_cases e2 : x0 = (N : Int) - 1
  · have hR : R = false := by rw [HAG.out, mrT_step, if_pos e2]; simp
    have f1 : (x0 == 1) = false := by rw [beq_eq_false_iff_ne]; exact e1
    have f2 : (x0 == (N : Int) - 1) = true := by rw [beq_iff_eq]; exact e2
    subst hR
    clear HAG e1 e2
    go_wp2
    go_ret
    exact ⟨rfl, hd2⟩
  have f1 : (x0 == 1) = false := by rw [beq_eq_false_iff_ne]; exact e1
  have f2 : (x0 == (N : Int) - 1) = false := by rw [beq_eq_false_iff_ne]; exact e2
  have HR := hid (show R = !(mrT N k (mMul x0 x0 N)) by rw [HAG.out, decide_eq_false e1, mrT_step, if_neg e2]; simp)
  have hUx : U64 x0 := ⟨by omega, by omega⟩
  clear HAG e1 e2
  go_wp2
  go_loopw [7, 8] (fun x y wr => ∃ (z : Int) (i : Nat), x = .int .u64 z ∧ y = .int .i64 (i : Int) ∧ 1 ≤ i ∧ i ≤ k + 1 ∧ U64 z ∧ Hid ((R = !(mrT N (k + 1 - i) (mMul z z N))) ∧ Dr w wr)) (fun _ y _ => k + 1 - (intOf y).toNat)
  case atStart => exact ⟨x0, 1, rfl, rfl, by omega, by omega, hUx, hid ⟨HR.out, hd2⟩⟩
  case round =>
  obtain ⟨z, i, rfl, rfl, i1, i2, hUz, HI⟩ := hrel
  by_cases hlt : i < k + 1
  · have hlt' : (i : Int) < (k : Int) + 1 := by omega
    have HML := hid (fun wx => rmul_c z z N hUz hUz hqU wx)
    have hUm := mMul_u64 z z N
    have HD := hid (show mrT N (k + 1 - i) (mMul z z N) = if mMul z z N = (N : Int) - 1 then true else mrT N (k + 1 - (i + 1)) (mMul (mMul z z N) (mMul z z N) N) by
      rw [show k + 1 - i = (k + 1 - (i + 1)) + 1 by omega, mrT_step])
    generalize mMul z z N = z2 at *
    by_cases e3 : z2 = (N : Int) - 1
    · have hR : R = false := by rw [HI.out.1, HD.out, if_pos e3]; rfl
      have f3 : (z2 == (N : Int) - 1) = true := by rw [beq_iff_eq]; exact e3
      have HDR := hid HI.out.2
      subst hR
      clear HI HD e3
      go_wp2_with (fail)
      refine (HML.out _).mono ?_
      rintro e w3 ⟨rfl, hd3⟩
      go_wp2
      go_ret
      exact ⟨rfl, HDR.out.trans hd3⟩
    · have f3 : (z2 == (N : Int) - 1) = false := by rw [beq_eq_false_iff_ne]; exact e3
      have HN := hid (show (R = !(mrT N (k + 1 - (i + 1)) (mMul z2 z2 N))) ∧ Dr w wr by
        refine ⟨?_, HI.out.2⟩
        rw [HI.out.1, HD.out, if_neg e3])
      clear HI HD e3
      go_wp2_with (fail)
      refine (HML.out _).mono ?_
      rintro e w3 ⟨rfl, hd3⟩
      have HN2 := hid (show (R = !(mrT N (k + 1 - (i + 1)) (mMul z2 z2 N))) ∧ Dr w w3 from ⟨HN.out.1, HN.out.2.trans hd3⟩)
      clear HN
      go_wp2
      go_roundw
      case rel => exact ⟨z2, i + 1, rfl, by go_num, by omega, by omega, hUm, HN2⟩
      case measure => simp [intOf]; omega
  · obtain rfl : i = k + 1 := by omega
    have hlt' : ¬ ((k : Int) + 1 < (k : Int) + 1) := by omega
    have hR : R = true := by rw [HI.out.1, Nat.sub_self]; rfl
    have HDR := hid HI.out.2
    subst hR
    clear HI
    go_wp2
    go_ret
    exact ⟨rfl, HDR.out⟩
set_option maxRecDepth 100000 in
set_option maxHeartbeats 2000000 in
theorem rprime_c (n : Int) (hn : U64 n) (w : World) :
    Calls Tryd.prog 64 #[.int .u64 n] w fun r w' => r = .returned (.bool (primeV n)) ∧ Below w.heap.size w w' := by
  obtain ⟨n1, n2⟩ := hn
  by_cases hlo : n < 2
  · have HR := hid (show primeV n = false by unfold primeV; rw [if_pos (.inl hlo)])
    have hd1 : decide (n < 2) = true := by simpa using hlo
    generalize primeV n = R at *
    go_enter Tryd.func64, Tryd.ntmps64
    go_wp2
    go_ret
    exact ⟨by rw [HR.out]; rfl, Below.refl _ _⟩
  have hd1 : decide (n < 2) = false := by simpa using hlo
  by_cases hhi : 2305843009213693952 < n
  · have HR := hid (show primeV n = false by unfold primeV; rw [if_pos (.inr hhi)])
    have hd2 : decide (2305843009213693952 < n) = true := by simpa using hhi
    generalize primeV n = R at *
    go_enter Tryd.func64, Tryd.ntmps64
    go_wp2
    go_ret
    exact ⟨by rw [HR.out]; rfl, Below.refl _ _⟩
  have hd2 : decide (2305843009213693952 < n) = false := by simpa using hhi
  obtain ⟨N, rfl⟩ : ∃ N : Nat, n = (N : Int) := ⟨n.toNat, by omega⟩
  have HDIV := hid (fun d => @prime_div N d)
  have HSM := hid (fun d => @prime_small N d)
  have HR := hid (show primeV (N : Int) = mrAll N (Lib.ctz 64 (N - 1)) (triedL.drop 0) by unfold primeV; rw [if_neg (by omega), show ((N : Int) - 1).toNat = N - 1 by omega]; rfl)
  have HAG := hid (fun (a : Int) (wx : World) (ha : U64 a) (ho : N % 2 = 1) => against_c a N wx ha (by omega) (by omega) ho)
  generalize Lib.ctz 64 (N - 1) = tw at *
  generalize primeV (N : Int) = R at *
  go_enter Tryd.func64, Tryd.ntmps64
  go_wp2
  go_loopw [3] (fun x wr => ∃ d : Nat, x = .int .u64 (d : Int) ∧ 2 ≤ d ∧ d ≤ 1000 ∧ Hid ((∀ e, 2 ≤ e → e < d → N % e ≠ 0) ∧ w = wr)) (fun x _ => 1000 - (intOf x).toNat)
  case atStart => exact ⟨2, rfl, by omega, by omega, hid ⟨fun e h1 h2 => by omega, rfl⟩⟩
  case round =>
  obtain ⟨d, rfl, d2, dT, HI⟩ := hrel
  by_cases hgo : d < 1000 ∧ d * d ≤ N
  · obtain ⟨g1, g2⟩ := hgo
    have hb1 : d * d ≤ 999 * 999 := Nat.mul_le_mul (by omega) (by omega)
    obtain ⟨D2, hD2⟩ : ∃ D2 : Nat, d * d = D2 := ⟨_, rfl⟩
    have hdd : (d : Int) * (d : Int) = (D2 : Int) := by rw [← hD2]; exact (Int.natCast_mul d d).symm
    have HD2 := hid hD2
    have g3 : D2 ≤ N := by omega
    have b3 : D2 ≤ 998001 := by omega
    have k1 : decide ((d : Int) < 1000) = true := by rw [decide_eq_true_eq]; omega
    have k2 : decide ((D2 : Int) ≤ (N : Int)) = true := by rw [decide_eq_true_eq]; omega
    have ht := Int.tmod_eq_emod_of_nonneg (b := (d : Int)) (show (0 : Int) ≤ (N : Int) by omega)
    have hd0 : ((d : Int) == 0) = false := by rw [beq_eq_false_iff_ne]; omega
    by_cases hm : N % d = 0
    · have hRf : R = false := HDIV.out d d2 g2 hm
      have f1 : ((N : Int) % (d : Int) == 0) = true := by rw [beq_iff_eq]; omega
      subst hRf
      have HW := hid HI.out.2
      clear HI hD2 hm hb1 g2
      go_wp2
      go_ret
      exact ⟨rfl, by rw [HW.out]; exact Below.refl _ _⟩
    · have f1 : ((N : Int) % (d : Int) == 0) = false := by rw [beq_eq_false_iff_ne]; omega
      have HN := hid (show (∀ e, 2 ≤ e → e < d + 1 → N % e ≠ 0) ∧ w = wr from ⟨fun e h1 h2 => by
        rcases Nat.lt_succ_iff_lt_or_eq.1 h2 with h | rfl
        · exact HI.out.1 e h1 h
        · exact hm, HI.out.2⟩)
      clear HI hD2 hm hb1 g2
      go_wp2
      go_roundw
      case rel => exact ⟨d + 1, by go_num, by omega, by omega, HN⟩
      case measure => simp [intOf]; omega
  have HEND := hid (show 1000 ≤ d ∨ N < d * d by omega)
  have hww := HI.out.2
  subst hww
  have HNO := hid HI.out.1
  have HT := hid (show N < 1000000 → R = true from fun h => HSM.out d h (by omega) HEND.out HNO.out)
  have HBIG := hid (show ¬ N < 1000000 → d = 1000 by
    intro h
    rcases HEND.out with h1 | h1
    · omega
    · rcases Nat.lt_or_ge d 1000 with h2 | h2
      · have : d * d ≤ 999 * 999 := Nat.mul_le_mul (by omega) (by omega)
        omega
      · omega)
  rcases Nat.lt_or_ge d 1000 with hd | hd
  · have h2 : N < d * d := by rcases HEND.out with h1 | h1 <;> omega
    have hb1 : d * d ≤ 999 * 999 := Nat.mul_le_mul (by omega) (by omega)
    have hRt : R = true := HT.out (by omega)
    obtain ⟨D2, hD2⟩ : ∃ D2 : Nat, d * d = D2 := ⟨_, rfl⟩
    have hdd : (d : Int) * (d : Int) = (D2 : Int) := by rw [← hD2]; exact (Int.natCast_mul d d).symm
    have g3 : N < D2 := by omega
    have b3 : D2 ≤ 998001 := by omega
    have k1 : decide ((d : Int) < 1000) = true := by rw [decide_eq_true_eq]; omega
    have k2 : ¬ ((D2 : Int) ≤ (N : Int)) := by omega
    have k3 : decide ((N : Int) < 1000000) = true := by rw [decide_eq_true_eq]; omega
    subst hRt
    clear HI hgo h2 hb1 hD2 g3
    go_wp2
    go_ret
    exact ⟨rfl, Below.refl _ _⟩
  have k1 : decide ((d : Int) < 1000) = false := by rw [decide_eq_false_iff_not]; omega
  rcases Nat.lt_or_ge N 1000000 with hN6 | hN6
  · have hRt : R = true := HT.out hN6
    have k3 : decide ((N : Int) < 1000000) = true := by rw [decide_eq_true_eq]; omega
    subst hRt
    clear HI hgo hN6 hd HT HSM HBIG
    go_wp2
    go_ret
    exact ⟨rfl, Below.refl _ _⟩
  have k3 : decide ((N : Int) < 1000000) = false := by rw [decide_eq_false_iff_not]; omega
  have HD1000 := hid (HBIG.out (by omega))
  have HNZ := hid (show ∀ a : Int, 2 ≤ a → a ≤ 37 → (N : Int) % a ≠ 0 by
    intro a a1 a2 h
    have := HNO.out a.toNat (by omega) (by have := HD1000.out; omega)
    obtain ⟨b, rfl⟩ : ∃ b : Nat, a = (b : Int) := ⟨a.toNat, by omega⟩
    rw [Int.toNat_natCast] at this
    omega)
  have HODD := hid (show N % 2 = 1 by
    have := HNO.out 2 (by omega) (by have := HD1000.out; omega)
    omega)
  have hB := Bun.nil w
  clear HI hgo HNO HBIG HT HEND HSM HDIV
  go_wp2_with (first | (refine wpList_named hB rfl ?_; clear hB; intro wn gn hB hbn hg; (try rw [hg]); clear hg hbn) | fail)
  go_loopw [31] (fun x wr => ∃ k : Nat, x = .int .i64 (k : Int) ∧ k ≤ 12 ∧ Hid (mrAll N tw (triedL.drop k) = R ∧ Dr wn wr)) (fun x _ => 12 - (intOf x).toNat)
  case atStart => exact ⟨0, rfl, by omega, hid ⟨HR.out.symm, Dr.refl _⟩⟩
  case round =>
  obtain ⟨k, rfl, k12, HI⟩ := hrel
  by_cases hlt : k < 12
  · have hlt' : (k : Int) < 12 := by omega
    obtain ⟨z, hz⟩ : ∃ z, triedL[k]? = some z := get_of_lt (l := triedL) hlt
    obtain ⟨hz2, hz3⟩ := tried_ge (List.mem_of_getElem? hz)
    have HTL := hid (show (triedL.map (fun z => Value.int .u64 z))[k]? = some (Value.int .u64 z) by rw [List.getElem?_map, hz]; rfl)
    have cz0 := (hB.row (i := 0) rfl).cell (k := k) (u := .int .u64 z) HTL.out
    have HD := hid (show mrAll N tw (triedL.drop k) = match mrOne N z tw with | some b => b | none => mrAll N tw (triedL.drop (k + 1)) by
      have h1 := (List.getElem?_eq_some_iff.1 hz).1
      rw [List.drop_eq_getElem_cons h1, (List.getElem?_eq_some_iff.1 hz).2, mrAll]; rfl)
    have hdr := HI.out.2
    have cz := (show wr.cell? ⟨gn, k, none⟩ = wn.cell? ⟨gn, k, none⟩ by obtain ⟨m, rfl⟩ := hdr; rfl).trans cz0
    have HAz := hid (HAG.out z wr ⟨by omega, by omega⟩ HODD.out)
    have hbw := below_dr hB.b hdr
    have h0 := HNZ.out z hz2 hz3
    cases hag : agV z N tw with
    | true =>
      have hRf : R = false := by rw [← HI.out.1, HD.out, agV_yes hag h0]
      rw [hag] at HAz
      subst hRf
      clear HD HI hz cz0 hdr h0
      go_wp2_with (fail)
      refine HAz.out.mono ?_
      rintro e w5 ⟨rfl, hd5⟩
      have hb5 := below_dr hbw hd5
      clear hbw
      go_wp2
      go_ret
      exact ⟨rfl, hb5⟩
    | false =>
      have HN := hid (show mrAll N tw (triedL.drop (k + 1)) = R by rw [← HI.out.1, HD.out, agV_no hag h0])
      rw [hag] at HAz
      clear HD HI hz cz0 h0
      go_wp2_with (fail)
      refine HAz.out.mono ?_
      rintro e w5 ⟨rfl, hd5⟩
      have HN2 := hid (show mrAll N tw (triedL.drop (k + 1)) = R ∧ Dr wn w5 from ⟨HN.out, hdr.trans hd5⟩)
      clear HN hbw hdr
      go_wp2
      go_roundw
      case rel => exact ⟨k + 1, by go_num, by omega, HN2⟩
      case measure => simp [intOf]; omega
  · obtain rfl : k = 12 := by omega
    have hRt : R = true := by rw [← HI.out.1]; rfl
    have hbw := below_dr hB.b HI.out.2
    subst hRt
    clear HI
    go_wp2
    go_ret
    exact ⟨rfl, hbw⟩
end Go.Proofs.YtlbhmoiicbhgkaaDoor
