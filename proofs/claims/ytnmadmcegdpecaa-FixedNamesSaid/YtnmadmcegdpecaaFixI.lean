/-
  A model's scores.
-/
import Derived.Test.YtnmadmcegdpecaaFixH
namespace Go.Proofs.Ytnmadmcegdpecaa
open Go.RowKit

/-- the sum of the first products of whole numbers. -/
def isum (row x : List Int) : Nat → Int
  | 0 => 0
  | i + 1 => isum row x i + row.getD i 0 * x.getD i 0
/-- one score. -/
def score1 (x : List Int) (s : Int) (row : List Int) : Int := s + isum row x row.length
def scoresS (p : Par) (W : List (List Int)) (b x : List Int) : List Int := if mayB p W b = true ∧ queryE p x = 0 then List.zipWith (score1 x) b W else []

/-- what is known of a model and a query that may be. -/
structure Fair (p : Par) (W : List (List Int)) (b : List Int) : Prop where
  fits : Fits p
  lw : (W.length : Int) = p.K
  lb : (b.length : Int) = p.K
  rows : ∀ l ∈ W, (l.length : Int) = p.D ∧ ∀ n ∈ l, -p.M ≤ n ∧ n ≤ p.M
  shifts : ∀ n ∈ b, -p.M ≤ n ∧ n ≤ p.M
theorem near_iff (n m : Int) : near n m = true ↔ -m ≤ n ∧ n ≤ m := by simp [near]
theorem mayB_iff (p : Par) (W : List (List Int)) (b : List Int) : mayB p W b = true ↔ Fair p W b := by
  simp only [mayB, Bool.and_eq_true, Bool.not_eq_true', bne_eq_false_iff_eq, allLen, allNear, nears, List.all_eq_true, beq_iff_eq, near_iff, fits_iff]
  constructor
  · rintro ⟨a, b, c, d, e, f⟩
    exact ⟨a, b, c, fun l hl => ⟨d l hl, e l hl⟩, f⟩
  · intro h
    exact ⟨h.fits, h.lw, h.lb, fun l hl => (h.rows l hl).1, fun l hl => (h.rows l hl).2, h.shifts⟩
structure FairQ (p : Par) (x : List Int) : Prop where
  fits : Fits p
  len : (x.length : Int) = p.D
  near : ∀ n ∈ x, -p.X ≤ n ∧ n ≤ p.X
theorem query_iff (p : Par) (x : List Int) : queryE p x = 0 ↔ FairQ p x := by
  unfold queryE
  constructor
  · intro h
    split at h
    · cases h
    · rename_i h1
      split at h
      · rename_i h2
        simp only [Bool.or_eq_true, Bool.not_eq_true', not_or, Bool.not_eq_false, bne_iff_ne, ne_eq, Decidable.not_not] at h1
        refine ⟨(fits_iff p).1 h1.1, h1.2, fun n hn => ?_⟩
        simp only [nears, List.all_eq_true, near_iff] at h2
        exact h2 n hn
      · cases h
  · intro h
    rw [if_neg, if_pos]
    · simp only [nears, List.all_eq_true, near_iff]; exact h.near
    · simp only [Bool.or_eq_true, Bool.not_eq_true', not_or, Bool.not_eq_false, bne_iff_ne, ne_eq, Decidable.not_not]
      exact ⟨(fits_iff p).2 h.fits, h.len⟩

theorem prod_bound (a b m k : Int) (ha : -m ≤ a ∧ a ≤ m) (hb : -k ≤ b ∧ b ≤ k) : -(m * k) ≤ a * b ∧ a * b ≤ m * k := by
  have h1 : a.natAbs ≤ m.toNat := by omega
  have h2 : b.natAbs ≤ k.toNat := by omega
  have h3 : (a * b).natAbs ≤ m.toNat * k.toNat := by rw [Int.natAbs_mul]; exact Nat.mul_le_mul h1 h2
  have h4 : ((m.toNat * k.toNat : Nat) : Int) = m * k := by
    rw [Int.natCast_mul, Int.toNat_of_nonneg (by omega), Int.toNat_of_nonneg (by omega)]
  omega
theorem getD_mem_or {l : List Int} {i : Nat} : l.getD i 0 = 0 ∨ l.getD i 0 ∈ l := by
  rw [List.getD_eq_getElem?_getD]
  cases h : l[i]? with
  | none => exact .inl rfl
  | some x => exact .inr (List.mem_of_getElem? h)
theorem isum_bound (row x : List Int) (m k : Int) (hm : 0 ≤ m) (hk : 0 ≤ k) (h1 : ∀ n ∈ row, -m ≤ n ∧ n ≤ m) (h2 : ∀ n ∈ x, -k ≤ n ∧ n ≤ k) (i : Nat) : -((i : Int) * (m * k)) ≤ isum row x i ∧ isum row x i ≤ (i : Int) * (m * k) := by
  induction i with
  | zero => simp [isum]
  | succ i ih =>
    have ha : -m ≤ row.getD i 0 ∧ row.getD i 0 ≤ m := by
      rcases getD_mem_or (l := row) (i := i) with h | h
      · rw [h]; omega
      · exact h1 _ h
    have hb : -k ≤ x.getD i 0 ∧ x.getD i 0 ≤ k := by
      rcases getD_mem_or (l := x) (i := i) with h | h
      · rw [h]; omega
      · exact h2 _ h
    have := prod_bound _ _ m k ha hb
    simp only [isum]
    have e : ((i + 1 : Nat) : Int) * (m * k) = (i : Int) * (m * k) + m * k := by
      rw [Int.natCast_add, Int.add_mul]; simp
    omega

/-- of the scores the first k are reckoned. -/
def mix (sc b : List Int) (k : Nat) : List Int := sc.take k ++ b.drop k
theorem mix_len {sc b : List Int} (h : sc.length = b.length) {k : Nat} (hk : k ≤ b.length) : (mix sc b k).length = b.length := by simp [mix]; omega
theorem mix_at {sc b : List Int} (h : sc.length = b.length) {k : Nat} (hk : k < b.length) : (mix sc b k)[k]? = b[k]? := by
  unfold mix
  rw [List.getElem?_append_right (by simp; omega)]
  simp only [List.length_take, List.getElem?_drop]
  congr 1; omega
theorem mix_set {sc b : List Int} (h : sc.length = b.length) {k : Nat} (hk : k < b.length) {s : Int} (hs : sc[k]? = some s) : (mix sc b k).set k s = mix sc b (k + 1) := by
  apply List.ext_getElem?
  intro i
  unfold mix
  rcases Nat.lt_trichotomy i k with hi | hi | hi
  · rw [List.getElem?_set_ne (by omega), List.getElem?_append_left (by simp; omega), List.getElem?_append_left (by simp; omega)]
    simp only [List.getElem?_take]; rw [if_pos hi, if_pos (by omega)]
  · subst hi
    rw [List.getElem?_set_self (by simp; omega), List.getElem?_append_left (by simp; omega)]
    simp [List.getElem?_take, hs]
  · rw [List.getElem?_set_ne (by omega), List.getElem?_append_right (by simp; omega), List.getElem?_append_right (by simp; omega)]
    simp only [List.length_take, List.getElem?_drop]
    congr 1; omega
theorem mix_zero (sc b : List Int) : mix sc b 0 = b := by simp [mix]
theorem mix_all {sc b : List Int} (h : sc.length = b.length) : mix sc b b.length = sc := by unfold mix; rw [List.drop_length, List.append_nil, List.take_of_length_le (by omega)]

end Go.Proofs.Ytnmadmcegdpecaa
