/-
  RobustLies, in plain terms. (No program in sight.)
-/
import Derived.Test.YtmmmdidbnjcooaaDoorRobI
namespace Go.Proofs.YtmmmdidbnjcooaaDoor
open Go.RowKit

theorem un_of {x d k q : Int} (h : x * d = k * q + 1) : Un d q := ⟨x, by rw [h, Int.add_comm, Int.add_mul_emod_self_right]⟩
theorem mrAll_cons {n a : Int} {tw : Nat} {l : List Int} (h : mrAll n tw (a :: l) = true) (hne : n ≠ a) : n % a ≠ 0 ∧ mrAll n tw l = true := by
  unfold mrAll at h
  unfold mrOne at h
  by_cases h0 : n % a = 0
  · rw [if_pos h0] at h
    simp [hne] at h
  · rw [if_neg h0] at h
    refine ⟨h0, ?_⟩
    split at h
    · rename_i b hb
      split at hb
      · cases hb
      · split at hb
        · cases hb
        · obtain rfl := Option.some.inj hb; cases h
    · exact h
theorem prime_parts {q : Int} (h : primeV q = true) (h7 : 7 < q) : q % 2 ≠ 0 ∧ q % 3 ≠ 0 ∧ q % 5 ≠ 0 := by
  unfold primeV at h
  split at h
  · cases h
  · unfold triedL at h
    obtain ⟨h2, h⟩ := mrAll_cons h (by omega)
    obtain ⟨h3, h⟩ := mrAll_cons h (by omega)
    obtain ⟨h5, h⟩ := mrAll_cons h (by omega)
    exact ⟨h2, h3, h5⟩
theorem small_un {q : Int} (h : primeV q = true) (h7 : 7 < q) {d : Int} (h1 : 1 ≤ d) (h6 : d ≤ 6) : Un d q := by
  obtain ⟨q2, q3, q5⟩ := prime_parts h h7
  have u1 : Un 1 q := Un.one q
  have u2 : Un 2 q := un_of (x := (q + 1) / 2) (k := 1) (by omega)
  have u3 : Un 3 q := by
    rcases (show q % 3 = 1 ∨ q % 3 = 2 by omega) with e | e
    · exact un_of (x := (2 * q + 1) / 3) (k := 2) (by omega)
    · exact un_of (x := (q + 1) / 3) (k := 1) (by omega)
  have u5 : Un 5 q := by
    rcases (show q % 5 = 1 ∨ q % 5 = 2 ∨ q % 5 = 3 ∨ q % 5 = 4 by omega) with e | e | e | e
    · exact un_of (x := (4 * q + 1) / 5) (k := 4) (by omega)
    · exact un_of (x := (2 * q + 1) / 5) (k := 2) (by omega)
    · exact un_of (x := (3 * q + 1) / 5) (k := 3) (by omega)
    · exact un_of (x := (q + 1) / 5) (k := 1) (by omega)
  rcases (show d = 1 ∨ d = 2 ∨ d = 3 ∨ d = 4 ∨ d = 5 ∨ d = 6 by omega) with rfl | rfl | rfl | rfl | rfl | rfl
  · exact u1
  · exact u2
  · exact u3
  · exact u2.mul u2
  · exact u5
  · exact u2.mul u3
theorem places_apart {q : Int} (h : primeV q = true) (h7 : 7 < q) {xs : List Int} (hb : ∀ x ∈ xs, 1 ≤ x ∧ x ≤ 7) (hd : ∀ (i k : Nat) (x y : Int), k < i → xs[i]? = some x → xs[k]? = some y → x ≠ y) : Apart xs q := by
  unfold Apart
  rw [List.pairwise_iff_getElem]
  intro i j hi hj hij
  have h1 := hb _ (List.getElem_mem hi)
  have h2 := hb _ (List.getElem_mem hj)
  have h3 := hd j i _ _ hij (List.getElem?_eq_getElem hj) (List.getElem?_eq_getElem hi)
  rcases Int.lt_or_gt_of_ne h3 with h4 | h4
  · exact Un.neg (small_un h h7 (by omega) (by omega))
  · exact small_un h h7 (by omega) (by omega)

/-- what holds while values are changed. -/
structure LieS (xs C : List Int) (q : Int) (M k : Nat) (ys : List Int) (W : List Nat) : Prop where
  len : ys.length = xs.length
  eq : W = offK xs ys C q k
  on : ∀ i, k ≤ i → i < xs.length → ys.getD i 0 = mEval C (xs.getD i 0) q
  few : W.length ≤ M
  u : U64s ys
theorem offK_congr {l m m' c : List Int} {q : Int} {k : Nat} (h : ∀ i, i < k → m.getD i 0 = m'.getD i 0) : offK l m c q k = offK l m' c q k := by
  unfold offK
  refine List.filter_congr fun i hi => ?_
  unfold offB
  rw [h i (List.mem_range.1 hi)]
theorem mEval_mod {C : List Int} {x q : Int} (hq : okm q = true) : mEval C x q % q = mEval C x q := by rw [mEval_ok hq, Int.emod_emod]
theorem LieS.keep {xs C : List Int} {q : Int} {M k : Nat} {ys : List Int} {W : List Nat} (h : LieS xs C q M k ys W) (hq : okm q = true) (hk : k < xs.length) : LieS xs C q M (k + 1) ys W :=
  ⟨h.len, by
    rw [offK_succ, ← h.eq]
    have : offB xs ys C q k = false := by
      unfold offB
      rw [h.on k (Nat.le_refl _) hk, mEval_mod hq]; simp
    rw [this]; simp, fun i hi hl => h.on i (by omega) hl, h.few, h.u⟩
theorem LieS.lie {xs C : List Int} {q : Int} {M k : Nat} {ys : List Int} {W : List Nat} (h : LieS xs C q M k ys W) (hq : okm q = true) (hk : k < xs.length) {z y : Int} (hy : ys[k]? = some y) (hz : z % q ≠ 0) (hf : W.length < M) : LieS xs C q M (k + 1) (ys.set k (mAdd y z q)) (W ++ [k]) := by
  have hyl := (List.getElem?_eq_some_iff.1 hy).1
  have hg : ∀ i, (ys.set k (mAdd y z q)).getD i 0 = if i = k then mAdd y z q else ys.getD i 0 := by
    intro i
    rw [List.getD_eq_getElem?_getD, List.getElem?_set]
    by_cases e : k = i
    · subst e; rw [if_pos rfl, if_pos hyl, if_pos rfl]; rfl
    · rw [if_neg e, if_neg (Ne.symm e), List.getD_eq_getElem?_getD]
  refine ⟨by rw [List.length_set, h.len], ?_, fun i hi hl => by rw [hg, if_neg (by omega)]; exact h.on i (by omega) hl, by simp; omega, fun x hx => ?_⟩
  · rw [offK_succ, offK_congr (m' := ys) (fun i hi => by rw [hg, if_neg (by omega)]), ← h.eq]
    have : offB xs (ys.set k (mAdd y z q)) C q k = true := by
      unfold offB
      rw [hg, if_pos rfl]
      have e := h.on k (Nat.le_refl _) hk
      rw [List.getD_eq_getElem?_getD, hy] at e
      simp only [Option.getD_some] at e
      subst e
      rw [mAdd_ok hq, Int.emod_emod, decide_eq_true_eq]
      intro he
      have he2 := he.symm.trans (mEval_mod hq).symm
      generalize mEval C (xs.getD k 0) q = E at he2
      have h3 : (E + z - E) % q = (E - E) % q := emod_sub_congr he2 rfl
      rw [Int.sub_self, Int.zero_emod, show E + z - E = z by omega] at h3
      exact hz h3
    rw [this]; simp
  · rcases List.mem_or_eq_of_mem_set hx with hx | rfl
    · exact h.u x hx
    · exact mAdd_u64 _ _ _
theorem LieS.start {xs C : List Int} {q : Int} (M : Nat) : LieS xs C q M 0 (xs.map fun x => mEval C x q) [] :=
  ⟨by simp, rfl, fun i _ hl => by rw [List.getD_eq_getElem?_getD, List.getD_eq_getElem?_getD, List.getElem?_map, List.getElem?_eq_getElem hl]; rfl, by simp, fun z hz => by obtain ⟨x, _, rfl⟩ := List.mem_map.1 hz; exact mEval_u64 _ _ _⟩
theorem LieS.last {xs C : List Int} {q : Int} {M k : Nat} {ys : List Int} {W : List Nat} (h : LieS xs C q M k ys W) (hq : okm q = true) : ∀ d, k + d = xs.length → W = offL xs ys C q
  | 0, e => by unfold offL; rw [← e, h.eq]; rfl
  | d + 1, e => LieS.last (h.keep hq (by omega)) hq d (by omega)
theorem LieS.told {xs C : List Int} {t : Nat} {q : Int} {k : Nat} {ys : List Int} {W : List Nat} (h : LieS xs C q (min t (xs.length - 2 * t - 1)) k ys W) (hk : k ≤ xs.length) (ht : t ≤ 2) (hp : primeV q = true) (ha : Apart xs q) (hl : xs.length ≤ 7) (hn : 2 * t + 1 ≤ xs.length) (hc : C.length = t + 1) (hr : C.map (· % q) = C) :
    isB xs ys t q C W = true := by
  have hW := h.last (okm_prime hp).1 (xs.length - k) (by omega)
  have hf := h.few
  rw [hW] at hf ⊢
  exact isB_at (dec_one ht hp ha hl h.len.symm hc hr (by omega) (by omega))
end Go.Proofs.YtmmmdidbnjcooaaDoor
