/-
  Robust, as the document tells it, plainly: of all sets of 2 t + 1 points the first one through which a polynomial goes tells what 'Decode' tells.
-/
import Derived.Test.YtlbhmoiicbhgkaaDoorRobQ1
import Derived.Test.YtlbhmoiicbhgkaaDoorRobQ2
import Derived.Test.YtlbhmoiicbhgkaaDoorRobQ3
import Derived.Test.YtlbhmoiicbhgkaaDoorRobQ4
import Derived.Test.YtlbhmoiicbhgkaaDoorRobQ5
import Derived.Test.YtlbhmoiicbhgkaaDoorRobQ6
import Derived.Test.YtlbhmoiicbhgkaaDoorRobQ7
import Derived.Test.YtlbhmoiicbhgkaaDoorRobQ8
import Derived.Test.YtlbhmoiicbhgkaaDoorRobQ9
import Derived.Test.YtlbhmoiicbhgkaaDoorRobQ10
import Derived.Test.YtlbhmoiicbhgkaaDoorRobQ11
import Derived.Test.YtlbhmoiicbhgkaaDoorRoP
namespace Go.Proofs.YtlbhmoiicbhgkaaDoor
open Go Go.Psi

/-- the polynomial through the first t + 1 of some points, if it goes through all of them. -/
noncomputable def allS (X Y : List Int) (t : Nat) (q : Int) (s : List Nat) : Option (List Int) :=
  if s.all (fun i => onB X Y (tVal (pick X (s.take (t + 1))) (pick Y (s.take (t + 1))) q) q i) = true then some (tVal (pick X (s.take (t + 1))) (pick Y (s.take (t + 1))) q) else none
theorem sets_take {X : List Int} {t : Nat} {s : List Nat} (hs : s ∈ setsL (2 * t + 1) 0 X.length) : (s.take (t + 1)).length = t + 1 ∧ (s.take (t + 1)).Pairwise (· < ·) ∧ (∀ i ∈ s.take (t + 1), i < X.length) ∧ s.length = 2 * t + 1 ∧ s.Pairwise (· < ·) ∧ ∀ i ∈ s, i < X.length := by
  obtain ⟨s1, s2, s3⟩ := (setsL_mem _ _ _ _).1 hs
  exact ⟨by rw [List.length_take]; omega, s2.sublist (List.take_sublist _ _), fun i hi => (s3 i (List.mem_of_mem_take hi)).2, s1, s2, fun i hi => (s3 i hi).2⟩
theorem rising_sub : ∀ {n : Nat} {s : List Nat}, s.Pairwise (· < ·) → (∀ i ∈ s, i < n) → s.Sublist (List.range n) := by
  have key : ∀ (d fr : Nat) (s : List Nat), s.Pairwise (· < ·) → (∀ i ∈ s, fr ≤ i ∧ i < fr + d) → s.Sublist (List.range' fr d) := by
    intro d
    induction d with
    | zero =>
      intro fr s _ h
      cases s with
      | nil => exact List.Sublist.refl _
      | cons a s => have := h a (by simp); omega
    | succ d ih =>
      intro fr s hs h
      rw [List.range'_succ]
      cases s with
      | nil => exact List.nil_sublist _
      | cons a s =>
        obtain ⟨h1, h2⟩ := List.pairwise_cons.1 hs
        by_cases ha : a = fr
        · subst ha
          exact (ih _ s h2 fun i hi => by have := h1 i hi; have := h i (by simp [hi]); omega).cons_cons _
        · refine (ih _ (a :: s) hs fun i hi => ?_).cons _
          have h3 := h i hi
          have h4 := h a (by simp)
          rcases List.mem_cons.1 hi with rfl | hi
          · omega
          · have := h1 i hi; omega
  intro n s hs h
  rw [List.range_eq_range']
  exact key n 0 s hs fun i hi => ⟨Nat.zero_le _, by have := h i hi; omega⟩
/-- what a set of points tells. -/
theorem allS_some {X Y : List Int} {t : Nat} {q : Int} (ht : t ≤ 2) (hp : primeV q = true) (ha : Apart X q) (hl : X.length ≤ 7) {s : List Nat} (hs : s ∈ setsL (2 * t + 1) 0 X.length) {C : List Int} (h : allS X Y t q s = some C) :
    C.length = t + 1 ∧ C.map (· % q) = C ∧ (∀ i ∈ s, onB X Y C q i = true) ∧ 2 * t + 1 ≤ (onL X Y C q).length := by
  obtain ⟨hq, h2⟩ := okm_prime hp
  obtain ⟨k1, k2, k3, k4, k5, k6⟩ := sets_take hs
  obtain ⟨_, v1, v2, _⟩ := tVal_spec (ys := Y) hq h2 ha (by omega) k2 k3 (by omega)
  unfold allS at h
  generalize tVal (pick X (s.take (t + 1))) (pick Y (s.take (t + 1))) q = V at *
  split at h
  · rename_i hall
    obtain rfl := Option.some.inj h
    have hon : ∀ i ∈ s, onB X Y V q i = true := fun i hi => List.all_eq_true.1 hall i hi
    refine ⟨by omega, v2, hon, ?_⟩
    have h3 : (s.filter (onB X Y V q)).Sublist (onL X Y V q) := (rising_sub k5 k6).filter _
    rw [List.filter_eq_self.2 hon] at h3
    have := h3.length_le
    omega
  · cases h
/-- the first points of one that fits tell it. -/
theorem allS_own {X Y C : List Int} {t : Nat} {q : Int} (ht : t ≤ 2) (hp : primeV q = true) (ha : Apart X q) (hl : X.length ≤ 7) (hc : C.length = t + 1) (hr : C.map (· % q) = C) (hon : 2 * t + 1 ≤ (onL X Y C q).length) :
    (onL X Y C q).take (2 * t + 1) ∈ setsL (2 * t + 1) 0 X.length ∧ allS X Y t q ((onL X Y C q).take (2 * t + 1)) = some C := by
  obtain ⟨hq, h2⟩ := okm_prime hp
  obtain ⟨s1, s2, s3⟩ := onL_take (n := 2 * t + 1) hon
  have hmem : (onL X Y C q).take (2 * t + 1) ∈ setsL (2 * t + 1) 0 X.length := (setsL_mem _ _ _ _).2 ⟨s1, s2, fun i hi => ⟨Nat.zero_le _, (s3 i hi).1⟩⟩
  have hO := onL_off X Y C q
  refine ⟨hmem, ?_⟩
  obtain ⟨k1, k2, k3, _⟩ := sets_take hmem
  obtain ⟨v0, v1, v2, v3⟩ := tVal_spec (ys := Y) hq h2 ha (by omega) k2 k3 (by omega)
  have hV : tVal (pick X (((onL X Y C q).take (2 * t + 1)).take (t + 1))) (pick Y (((onL X Y C q).take (2 * t + 1)).take (t + 1))) q = C :=
    one_fit hq ha k2 k3 v1 (by omega) v2 hr v3 fun i hi => (s3 i (List.mem_of_mem_take hi)).2
  unfold allS
  rw [hV, if_pos (List.all_eq_true.2 fun i hi => (s3 i hi).2)]
/-- **The document's first set tells what 'Decode' tells.** -/
theorem first_law {X Y : List Int} {t : Nat} {q : Int} (ht : t ≤ 2) (hp : primeV q = true) (ha : Apart X q) (hl : X.length ≤ 7) (hlm : X.length = Y.length) {C : List Int} {W : List Nat} {er : Int} (h : decR X Y t q = (C, W, er)) :
    (setsL (2 * t + 1) 0 X.length).findSome? (allS X Y t q) = if er = 0 then some C else none := by
  cases hf : (setsL (2 * t + 1) 0 X.length).findSome? (allS X Y t q) with
  | none =>
    rcases dec_cases ht hp ha hl hlm h with ⟨rfl, _, _, _⟩ | ⟨rfl, hW, hC, hCr, hCw, _⟩
    · rfl
    · exfalso
      have hO := onL_off X Y C q
      obtain ⟨o1, o2⟩ := allS_own ht hp ha hl hC hCr (show 2 * t + 1 ≤ (onL X Y C q).length by rw [hW] at hCw; omega)
      have := List.findSome?_eq_none_iff.1 hf _ o1
      rw [o2] at this
      cases this
  | some D =>
    obtain ⟨l1, s, l2, hL, hs, hn⟩ := List.findSome?_eq_some_iff.1 hf
    have hsm : s ∈ setsL (2 * t + 1) 0 X.length := by rw [hL]; simp
    obtain ⟨d1, d2, d3, d4⟩ := allS_some ht hp ha hl hsm hs
    obtain ⟨k1, k2, k3, k4, k5, k6⟩ := sets_take hsm
    obtain ⟨rfl, hCo, hcmp⟩ := dec_ahead ht hp ha hl hlm d1 d2 d4 h
    rw [if_pos rfl]
    rcases hcmp with rfl | ⟨j, a, b, hj, h1, h2, h3, h4⟩
    · rfl
    · exfalso
      -- the first points of C are a set ahead of s
      rcases dec_cases ht hp ha hl hlm h with ⟨h5, _⟩ | ⟨_, hW, hC, hCr, hCw, _⟩
      · exact absurd h5 (by decide)
      obtain ⟨o1, o2⟩ := allS_own ht hp ha hl hC hCr hCo
      have hlex := sets_lex (2 * t + 1) X.length 0 X.length (by omega)
      have hsub : ∀ i ∈ s, i ∈ onL X Y D q := fun i hi => List.mem_filter.2 ⟨List.mem_range.2 (k6 i hi), d3 i hi⟩
      have hafter : (onL X Y C q).take (2 * t + 1) = s ∨ Lx s ((onL X Y C q).take (2 * t + 1)) := by
        rw [hL] at o1 hlex
        rcases List.mem_append.1 o1 with h6 | h6
        · have := hn _ h6
          rw [o2] at this
          cases this
        · rcases List.mem_cons.1 h6 with h6 | h6
          · exact .inl h6
          · exact .inr ((List.pairwise_cons.1 (List.pairwise_append.1 hlex).2.1).1 _ h6)
      have hjs : ∃ b', s[j]? = some b' ∧ b ≤ b' := by
        obtain ⟨b', hb'⟩ : ∃ b', s[j]? = some b' := ⟨_, List.getElem?_eq_getElem (by omega)⟩
        exact ⟨b', hb', rising_le (B := onL X Y D q) (range_rising _ _) k5 hsub h3 hb'⟩
      obtain ⟨b', hb1, hb2⟩ := hjs
      have htk : ∀ i, i < 2 * t + 1 → ((onL X Y C q).take (2 * t + 1))[i]? = (onL X Y C q)[i]? := fun i hi => by rw [List.getElem?_take, if_pos hi]
      rcases hafter with h6 | ⟨j', a', b'', e1, e2, e3, e4⟩
      · have := htk j (by omega)
        rw [h6, h2, hb1] at this
        have := Option.some.inj this
        omega
      · have hj' : j' < 2 * t + 1 := by have := (List.getElem?_eq_some_iff.1 e2).1; omega
        rw [htk j' hj'] at e3
        rcases Nat.lt_trichotomy j j' with h7 | rfl | h7
        · have := e1 j h7
          rw [htk j (by omega), h2, hb1] at this
          have := Option.some.inj this
          omega
        · rw [h2] at e3
          rw [hb1] at e2
          obtain rfl := Option.some.inj e3
          obtain rfl := Option.some.inj e2
          omega
        · -- ahead of j both lists of points are one; s is nowhere ahead of D's points
          have h8 := h1 j' h7
          rw [e3] at h8
          have := rising_le (B := onL X Y D q) (range_rising _ _) k5 hsub h8.symm e2
          omega
end Go.Proofs.YtlbhmoiicbhgkaaDoor
