/-
  Robust by a prime, plainly: what is told fits; none that fits is ahead of it; along a polynomial.
-/
import Derived.Test.YtlbhmoiicbhgkaaDoorRobQ10
import Derived.Test.YtlbhmoiicbhgkaaDoorRobQ11

namespace Go.Proofs.YtlbhmoiicbhgkaaDoor
open Go Go.Psi
/-- the numbers of the points through which a polynomial goes, of the first k. -/
def onK (l m c : List Int) (q : Int) (k : Nat) : List Nat := (List.range k).filter (onB l m c q)
def onL (l m c : List Int) (q : Int) : List Nat := onK l m c q l.length
theorem onK_succ (l m c : List Int) (q : Int) (k : Nat) : onK l m c q (k + 1) = onK l m c q k ++ if onB l m c q k then [k] else [] := by
  unfold onK
  rw [List.range_succ, List.filter_append]
  simp only [List.filter_cons, List.filter_nil]
theorem onK_len (l m c : List Int) (q : Int) (k : Nat) : (onK l m c q k).length ≤ k := by
  have := List.length_filter_le (onB l m c q) (List.range k)
  rw [List.length_range] at this
  exact this
/-- what 'Decode' tells. -/
theorem dec_cases {X Y : List Int} {t : Nat} {q : Int} (ht : t ≤ 2) (hp : primeV q = true) (ha : Apart X q) (hl : X.length ≤ 7) (hlm : X.length = Y.length) {C : List Int} {W : List Nat} {er : Int} (h : decR X Y t q = (C, W, er)) :
    (er = 5 ∧ C = [] ∧ W = [] ∧ ∀ s ∈ setsL (t + 1) 0 X.length, tryS X Y t q s = none) ∨
    (er = 0 ∧ W = offL X Y C q ∧ C.length = t + 1 ∧ C.map (· % q) = C ∧ 2 * t + 1 + W.length ≤ X.length ∧
      ∃ l1 s l2, setsL (t + 1) 0 X.length = l1 ++ s :: l2 ∧ (∀ u ∈ l1, tryS X Y t q u = none) ∧ C = tVal (pick X s) (pick Y s) q ∧ ∀ i ∈ s, onB X Y C q i = true) := by
  obtain ⟨hq, h2⟩ := okm_prime hp
  unfold decR at h
  rw [if_neg (by rw [hp, hlm]; simp; omega), if_neg (by omega), if_neg (by rw [eAll_apart hq h2 ha (by omega)]; simp), show ((t : Int).toNat) = t from rfl] at h
  cases hf : (setsL (t + 1) 0 X.length).findSome? (tryS X Y t q) with
  | none =>
    rw [hf] at h
    simp only [Option.getD_none, Prod.mk.injEq] at h
    obtain ⟨rfl, rfl, rfl⟩ := h
    exact .inl ⟨rfl, rfl, rfl, fun s hs => List.findSome?_eq_none_iff.1 hf s hs⟩
  | some r =>
    rw [hf] at h
    simp only [Option.getD_some] at h
    subst h
    obtain ⟨l1, s, l2, hL, hs, hn⟩ := List.findSome?_eq_some_iff.1 hf
    obtain ⟨m1, m2, m3⟩ := (setsL_mem _ _ _ _).1 (show s ∈ setsL (t + 1) 0 X.length by rw [hL]; simp)
    have hi : ∀ i ∈ s, i < X.length := fun i hi => (m3 i hi).2
    obtain ⟨hr, hgt⟩ := tryS_some hq h2 ha hl m2 hi (by omega) hs
    obtain ⟨_, v1, v2, v3⟩ := tVal_spec (ys := Y) hq h2 ha (by omega) m2 hi (by omega)
    simp only [Prod.mk.injEq] at hr
    obtain ⟨rfl, rfl, rfl⟩ := hr
    exact .inr ⟨rfl, rfl, by omega, v2, by omega, l1, s, l2, hL, hn, rfl, v3⟩
/-- ahead of: at the first place where they differ. -/
def Lx (s u : List Nat) : Prop := ∃ j a b : Nat, (∀ i : Nat, i < j → s[i]? = u[i]?) ∧ s[j]? = some a ∧ u[j]? = some b ∧ a < b
theorem Lx.cons {s u : List Nat} (h : Lx s u) (x : Nat) : Lx (x :: s) (x :: u) := by
  obtain ⟨j, a, b, h1, h2, h3, h4⟩ := h
  refine ⟨j + 1, a, b, fun i hi => ?_, by simpa using h2, by simpa using h3, h4⟩
  cases i with
  | zero => rfl
  | succ i => simpa using h1 i (by omega)
theorem sets_lex : ∀ (m d fr n : Nat), n - fr ≤ d → (setsL m fr n).Pairwise Lx
  | 0, _, _, _, _ => by unfold setsL; exact List.pairwise_singleton ..
  | m + 1, 0, fr, n, hd => by
    rw [setsL_step, if_neg (by omega)]
    exact List.Pairwise.nil
  | m + 1, d + 1, fr, n, hd => by
    rw [setsL_step]
    split
    · refine List.pairwise_append.2 ⟨?_, sets_lex (m + 1) d (fr + 1) n (by omega), fun s hs u hu => ?_⟩
      · exact List.pairwise_map.2 ((sets_lex m d (fr + 1) n (by omega)).imp fun h => h.cons fr)
      · obtain ⟨s', _, rfl⟩ := List.mem_map.1 hs
        obtain ⟨u1, _, u3⟩ := (setsL_mem _ _ _ _).1 hu
        cases u with
        | nil => simp at u1
        | cons b u => exact ⟨0, fr, b, fun i hi => by omega, rfl, rfl, by have := (u3 b (by simp)).1; omega⟩
    · exact List.Pairwise.nil
/-- of rising ones the first are nowhere behind others. -/
theorem rising_le : ∀ {B s : List Nat}, B.Pairwise (· < ·) → s.Pairwise (· < ·) → (∀ i ∈ s, i ∈ B) → ∀ {j a b : Nat}, B[j]? = some a → s[j]? = some b → a ≤ b
  | [], _, _, _, _, j, _, _, h1, _ => by simp at h1
  | _ :: _, [], _, _, _, j, _, _, _, h2 => by simp at h2
  | x :: B, y :: s, hB, hs, hm, 0, a, b, h1, h2 => by
    simp only [List.getElem?_cons_zero, Option.some.injEq] at h1 h2
    subst h1 h2
    rcases List.mem_cons.1 (hm y (by simp)) with h | h
    · omega
    · exact Nat.le_of_lt ((List.pairwise_cons.1 hB).1 y h)
  | x :: B, y :: s, hB, hs, hm, j + 1, a, b, h1, h2 => by
    simp only [List.getElem?_cons_succ] at h1 h2
    obtain ⟨b1, b2⟩ := List.pairwise_cons.1 hB
    obtain ⟨s1, s2⟩ := List.pairwise_cons.1 hs
    refine rising_le b2 s2 (fun i hi => ?_) h1 h2
    rcases List.mem_cons.1 (hm i (by simp [hi])) with h | h
    · subst h
      have := s1 i hi
      rcases List.mem_cons.1 (hm y (by simp)) with h | h
      · omega
      · have := b1 y h; omega
    · exact h
theorem onL_take {X Y c : List Int} {q : Int} {n : Nat} (h : n ≤ (onL X Y c q).length) : ((onL X Y c q).take n).length = n ∧ ((onL X Y c q).take n).Pairwise (· < ·) ∧ ∀ i ∈ (onL X Y c q).take n, i < X.length ∧ onB X Y c q i = true :=
  ⟨by rw [List.length_take]; omega, (range_rising _ _).sublist (List.take_sublist _ _), fun i hi => by
    have := List.mem_filter.1 (List.mem_of_mem_take hi)
    exact ⟨List.mem_range.1 this.1, this.2⟩⟩
theorem onL_off (X Y c : List Int) (q : Int) : (onL X Y c q).length + (offL X Y c q).length = X.length := on_len X Y c q
/-- the first points of one that fits tell it. -/
theorem try_own {X Y c : List Int} {t : Nat} {q : Int} (hp : primeV q = true) (ha : Apart X q) (hl : X.length ≤ 7) (hc : c.length = t + 1) (hr : c.map (· % q) = c) (hon : 2 * t + 1 ≤ (onL X Y c q).length) :
    (onL X Y c q).take (t + 1) ∈ setsL (t + 1) 0 X.length ∧ tVal (pick X ((onL X Y c q).take (t + 1))) (pick Y ((onL X Y c q).take (t + 1))) q = c ∧ tryS X Y t q ((onL X Y c q).take (t + 1)) ≠ none := by
  obtain ⟨hq, h2⟩ := okm_prime hp
  obtain ⟨s1, s2, s3⟩ := onL_take (n := t + 1) (show t + 1 ≤ (onL X Y c q).length by omega)
  have hO := onL_off X Y c q
  generalize (onL X Y c q).take (t + 1) = s at *
  obtain ⟨v0, v1, v2, v3⟩ := tVal_spec (ys := Y) hq h2 ha (by omega) s2 (fun i hi => (s3 i hi).1) (by omega)
  have hV : tVal (pick X s) (pick Y s) q = c := one_fit hq ha s2 (fun i hi => (s3 i hi).1) v1 (by omega) v2 hr v3 (fun i hi => (s3 i hi).2)
  refine ⟨(setsL_mem _ _ _ _).2 ⟨s1, s2, fun i hi => ⟨Nat.zero_le _, (s3 i hi).1⟩⟩, hV, ?_⟩
  unfold tryS
  rw [if_pos v0, hV, if_pos (by omega)]
  simp
theorem Lx.ne {s u : List Nat} (h : Lx s u) : s ≠ u := by
  rintro rfl
  obtain ⟨j, a, b, _, h2, h3, h4⟩ := h
  rw [h2] at h3
  obtain rfl := Option.some.inj h3
  omega
/-- **None that fits is ahead** of the one that is told. -/
theorem dec_ahead {X Y c : List Int} {t : Nat} {q : Int} (ht : t ≤ 2) (hp : primeV q = true) (ha : Apart X q) (hl : X.length ≤ 7) (hlm : X.length = Y.length) (hc : c.length = t + 1) (hr : c.map (· % q) = c) (hon : 2 * t + 1 ≤ (onL X Y c q).length)
    {C : List Int} {W : List Nat} {er : Int} (h : decR X Y t q = (C, W, er)) :
    er = 0 ∧ 2 * t + 1 ≤ (onL X Y C q).length ∧ (C = c ∨ ∃ j a b : Nat, j < t + 1 ∧ (∀ i : Nat, i < j → (onL X Y C q)[i]? = (onL X Y c q)[i]?) ∧ (onL X Y C q)[j]? = some a ∧ (onL X Y c q)[j]? = some b ∧ a < b) := by
  obtain ⟨o1, o2, o3⟩ := try_own hp ha hl hc hr hon
  rcases dec_cases ht hp ha hl hlm h with ⟨rfl, rfl, rfl, hn⟩ | ⟨rfl, hW, hC, hCr, hCw, l1, s, l2, hL, hn, hCs, hCon⟩
  · exact absurd (hn _ o1) o3
  have hO := onL_off X Y C q
  have hCo : 2 * t + 1 ≤ (onL X Y C q).length := by rw [hW] at hCw; omega
  refine ⟨rfl, hCo, ?_⟩
  obtain ⟨d1, d2, d3⟩ := try_own hp ha hl hC hCr hCo
  have hlex := sets_lex (t + 1) X.length 0 X.length (by omega)
  obtain ⟨m1, m2, m3⟩ := (setsL_mem _ _ _ _).1 (show s ∈ setsL (t + 1) 0 X.length by rw [hL]; simp)
  have after : ∀ u ∈ setsL (t + 1) 0 X.length, tryS X Y t q u ≠ none → u = s ∨ Lx s u := by
    intro u hu hne
    rw [hL] at hu hlex
    rcases List.mem_append.1 hu with h | h
    · exact absurd (hn u h) hne
    · rcases List.mem_cons.1 h with h | h
      · exact .inl h
      · exact .inr ((List.pairwise_cons.1 (List.pairwise_append.1 hlex).2.1).1 u h)
  have hs1 : (onL X Y C q).take (t + 1) = s := by
    rcases after _ d1 d3 with h | ⟨j, a, b, _, h2, h3, h4⟩
    · exact h
    · exfalso
      have hjt : j < t + 1 := by have := (List.getElem?_eq_some_iff.1 h2).1; omega
      rw [List.getElem?_take, if_pos hjt] at h3
      have := rising_le (B := onL X Y C q) (range_rising _ _) m2 (fun i hi => List.mem_filter.2 ⟨List.mem_range.2 (m3 i hi).2, hCon i hi⟩) h3 h2
      omega
  rcases after _ o1 o3 with h | ⟨j, a, b, h1, h2, h3, h4⟩
  · left
    rw [hCs, ← o2, h]
  · right
    rw [← hs1] at h1 h2
    have hjt : j < t + 1 := by
      have := (List.getElem?_eq_some_iff.1 h2).1
      rw [List.length_take] at this
      omega
    refine ⟨j, a, b, hjt, fun i hi => ?_, ?_, ?_, h4⟩
    · have := h1 i hi
      rwa [List.getElem?_take, if_pos (by omega), List.getElem?_take, if_pos (by omega)] at this
    · rwa [List.getElem?_take, if_pos hjt] at h2
    · rwa [List.getElem?_take, if_pos hjt] at h3
/-- the values, more by a polynomial's, times a number. -/
def alongL (X Y M : List Int) (k q : Int) (n : Nat) : List Int := (List.range n).map fun i => mMul k (mAdd (Y.getD i 0) (mEval M (X.getD i 0) q) q) q
theorem along_len (X Y M : List Int) (k q : Int) (n : Nat) : (alongL X Y M k q n).length = n := by simp [alongL]
theorem along_at {X Y M : List Int} {k q : Int} {n i : Nat} (h : i < n) : (alongL X Y M k q n).getD i 0 = mMul k (mAdd (Y.getD i 0) (mEval M (X.getD i 0) q) q) q := by
  rw [List.getD_eq_getElem?_getD]
  unfold alongL
  rw [List.getElem?_map, List.getElem?_range h]
  rfl
theorem un_cancel {k a b q : Int} (hk : Un k q) (h : (k * a) % q = (k * b) % q) : a % q = b % q := by
  obtain ⟨x, hx⟩ := hk
  have h1 : ∀ c : Int, (x * k * c) % q = c % q := fun c => by
    have := emod_mul_congr (q := q) (c := c) (d := c) hx rfl
    rwa [Int.one_mul] at this
  rw [← h1 a, ← h1 b, Int.mul_assoc, Int.mul_assoc]
  exact emod_mul_congr rfl h
theorem on_along {X Y M c : List Int} {k q : Int} (hq : okm q = true) (hk : Un k q) {i : Nat} (hi : i < X.length) : onB X (alongL X Y M k q X.length) (pScale (pSum c M q) k q) q i = onB X Y c q i := by
  have e1 : ∀ b1 b2 : Bool, (b1 = true ↔ b2 = true) → b1 = b2 := by decide
  refine e1 _ _ ?_
  rw [onB_iff, onB_iff, along_at hi, mEval_ok hq, mEval_ok hq, scale_ev hq, mMul_ok hq, mAdd_ok hq, mEval_ok hq, Int.emod_emod_of_dvd _ (Int.dvd_refl q)]
  generalize X.getD i 0 = x
  generalize Y.getD i 0 = y
  have hs := sum_ev hq c M x
  have hL : (k * ev (pSum c M q) x) % q = (k * (ev c x + ev M x)) % q := emod_mul_congr rfl hs
  have hR : (k * ((y + ev M x % q) % q)) % q = (k * (y + ev M x)) % q := emod_mul_congr rfl (by rw [Int.emod_emod_of_dvd _ (Int.dvd_refl q)]; simp)
  rw [hL, hR]
  constructor
  · intro h
    have := un_cancel hk h
    have h2 := Int.emod_emod_of_dvd (ev c x) (Int.dvd_refl q)
    have e : (ev c x + ev M x - ev M x) % q = (y + ev M x - ev M x) % q := emod_sub_congr this rfl
    rwa [show ev c x + ev M x - ev M x = ev c x by omega, show y + ev M x - ev M x = y by omega] at e
  · intro h
    exact emod_mul_congr rfl (by rw [Int.add_emod, h, ← Int.add_emod])
theorem off_along {X Y M c : List Int} {k q : Int} (hq : okm q = true) (hk : Un k q) : offL X (alongL X Y M k q X.length) (pScale (pSum c M q) k q) q = offL X Y c q := by
  unfold offL offK
  refine List.filter_congr fun i hi => ?_
  have := on_along (Y := Y) (M := M) (c := c) hq hk (List.mem_range.1 hi)
  unfold onB at this
  simpa using this
theorem scale_red {q : Int} (hq : okm q = true) (a : List Int) (k : Int) : (pScale a k q).map (· % q) = pScale a k q := by
  unfold pScale
  rw [if_pos hq, List.map_map]
  refine List.map_congr_left fun c _ => ?_
  show mMul c k q % q = mMul c k q
  rw [mMul_ok hq, Int.emod_emod_of_dvd _ (Int.dvd_refl q)]
theorem try_along {X Y M : List Int} {t : Nat} {k q : Int} (ht : t ≤ 2) (hp : primeV q = true) (ha : Apart X q) (hl : X.length ≤ 7) (hk : Un k q) (hM : M.length = t + 1) {s : List Nat} (hs : s ∈ setsL (t + 1) 0 X.length) :
    tryS X (alongL X Y M k q X.length) t q s = (tryS X Y t q s).map fun r => (pScale (pSum r.1 M q) k q, r.2.1, r.2.2) := by
  obtain ⟨hq, h2⟩ := okm_prime hp
  obtain ⟨s1, s2, s3⟩ := (setsL_mem _ _ _ _).1 hs
  have hi : ∀ i ∈ s, i < X.length := fun i hi => (s3 i hi).2
  obtain ⟨v0, v1, v2, v3⟩ := tVal_spec (ys := Y) hq h2 ha (by omega) s2 hi (by omega)
  obtain ⟨u0, u1, u2, u3⟩ := tVal_spec (ys := alongL X Y M k q X.length) hq h2 ha (by omega) s2 hi (by omega)
  have hV : tVal (pick X s) (pick (alongL X Y M k q X.length) s) q = pScale (pSum (tVal (pick X s) (pick Y s) q) M q) k q := by
    refine one_fit hq ha s2 hi u1 (by rw [scale_len hq, sum_len hq]; omega) u2 (scale_red hq _ _) u3 fun i hj => ?_
    rw [on_along hq hk (hi i hj)]
    exact v3 i hj
  unfold tryS
  rw [if_pos v0, if_pos u0, hV, off_along hq hk]
  split <;> rfl
theorem find_map {α β : Type} {f g : α → Option β} {h : β → β} : ∀ {L : List α}, (∀ s ∈ L, g s = (f s).map h) → L.findSome? g = (L.findSome? f).map h
  | [], _ => rfl
  | s :: L, H => by
    rw [List.findSome?_cons, List.findSome?_cons, H s (by simp)]
    cases f s with
    | none => exact find_map fun s hs => H s (by simp [hs])
    | some r => rfl
/-- **Along a polynomial, times a number**: what is told is that much more, and so many times it. -/
theorem dec_along {X Y M : List Int} {t : Nat} {k q : Int} (ht : t ≤ 2) (hp : primeV q = true) (ha : Apart X q) (hl : X.length ≤ 7) (hlm : X.length = Y.length) (hk : Un k q) (hM : M.length = t + 1) {C : List Int} {W : List Nat} {er : Int} (h : decR X Y t q = (C, W, er)) :
    decR X (alongL X Y M k q X.length) t q = (if er = 0 then pScale (pSum C M q) k q else [], W, er) := by
  obtain ⟨hq, h2⟩ := okm_prime hp
  have e9 : ∀ Z : List Int, X.length = Z.length → decR X Z t q = ((setsL (t + 1) 0 X.length).findSome? (tryS X Z t q)).getD ([], [], 5) := fun Z hZ => by
    unfold decR
    rw [if_neg (by rw [hp, hZ]; simp; omega), if_neg (by omega), if_neg (by rw [eAll_apart hq h2 ha (by omega)]; simp), show ((t : Int).toNat) = t from rfl]
  rw [e9 _ hlm] at h
  rw [e9 _ (along_len ..).symm, find_map fun s hs => try_along (Y := Y) ht hp ha hl hk hM hs]
  cases hf : (setsL (t + 1) 0 X.length).findSome? (tryS X Y t q) with
  | none =>
    rw [hf] at h
    simp only [Option.getD_none, Prod.mk.injEq] at h
    obtain ⟨rfl, rfl, rfl⟩ := h
    rfl
  | some r =>
    rw [hf] at h
    simp only [Option.getD_some] at h
    subst h
    have he : er = 0 := by
      obtain ⟨l1, s, l2, hL, hs, _⟩ := List.findSome?_eq_some_iff.1 hf
      obtain ⟨m1, m2, m3⟩ := (setsL_mem _ _ _ _).1 (show s ∈ setsL (t + 1) 0 X.length by rw [hL]; simp)
      obtain ⟨hr, _⟩ := tryS_some hq h2 ha hl m2 (fun i hi => (m3 i hi).2) (by omega) hs
      simp only [Prod.mk.injEq] at hr
      exact hr.2.2
    subst he
    rfl
end Go.Proofs.YtlbhmoiicbhgkaaDoor
