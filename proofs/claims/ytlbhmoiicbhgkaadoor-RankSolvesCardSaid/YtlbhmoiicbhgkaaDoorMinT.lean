/-
  What the document's Solve tells, by determinants, is what 'Solve' tells. (No program in sight.)
-/
import Derived.Test.YtlbhmoiicbhgkaaDoorRnkQ1
import Derived.Test.YtlbhmoiicbhgkaaDoorRnkQ2
import Derived.Test.YtlbhmoiicbhgkaaDoorRnkQ3
import Derived.Test.YtlbhmoiicbhgkaaDoorRnkQ4
import Derived.Test.YtlbhmoiicbhgkaaDoorRnkQ5
import Derived.Test.YtlbhmoiicbhgkaaDoorRnkQ6
import Derived.Test.YtlbhmoiicbhgkaaDoorRnkQ7
import Derived.Test.YtlbhmoiicbhgkaaDoorRnkQ8
import Derived.Test.YtlbhmoiicbhgkaaDoorMinS
namespace Go.Proofs.YtlbhmoiicbhgkaaDoor
open Go Go.Lin Go.Psi

section
variable {N : Nat} [h0 : NeZero N]
theorem hang_cols {q : Int} (h : FQ q N) (hv : primeV q = true) (a : List (List Int)) {j : Nat} (hj : j < wideL a) : hangsV ((turnL a).take j) ((turnL a).getD j []) q = true ↔ Sp ((List.range j).map (colV N a)) (colV N a j) := by
  rw [h.hangs hv, List.map_take, turn_cols, ← List.map_take, List.take_range, Nat.min_eq_left (by omega)]
  have e : vec N ((turnL a).getD j []) = colV N a j := by
    have h1 := congrArg (fun l => l[j]?) (turn_cols (N := N) a)
    simp only [List.getElem?_map, List.getElem?_range hj, Option.map_some] at h1
    rw [List.getD_eq_getElem?_getD]
    cases h2 : (turnL a)[j]? with
    | none => rw [h2] at h1; cases h1
    | some r => rw [h2] at h1; exact Option.some.inj h1
  rw [e]
/-- the columns that do not hang on those ahead of them. -/
noncomputable def pivL (a : List (List Int)) (q : Int) (n : Nat) : List Nat := (List.range n).filter fun j => !hangsV ((turnL a).take j) ((turnL a).getD j []) q
theorem pivL_succ (a : List (List Int)) (q : Int) (n : Nat) : pivL a q (n + 1) = pivL a q n ++ if hangsV ((turnL a).take n) ((turnL a).getD n []) q = true then [] else [n] := by
  unfold pivL
  rw [List.range_succ, List.filter_append]
  congr 1
  cases hh : hangsV ((turnL a).take n) ((turnL a).getD n []) q <;> (simp only [List.filter_cons, List.filter_nil, hh]; rfl)
theorem pivL_ok {q : Int} (h : FQ q N) (hv : primeV q = true) (a : List (List Int)) : PivL N a (pivL a q (wideL a)) := by
  refine ⟨List.Pairwise.filter _ List.pairwise_lt_range, fun p hp => List.mem_range.1 (List.mem_filter.1 hp).1, fun p hp hs => ?_⟩
  obtain ⟨h1, h2⟩ := List.mem_filter.1 hp
  have := (hang_cols h hv a (List.mem_range.1 h1)).2 hs
  rw [this] at h2
  cases h2
theorem pivL_mem {q : Int} (h : FQ q N) (hv : primeV q = true) (a : List (List Int)) {j : Nat} (hj : j < wideL a) (hs : ¬ Sp ((List.range j).map (colV N a)) (colV N a j)) : j ∈ pivL a q (wideL a) := by
  refine List.mem_filter.2 ⟨List.mem_range.2 hj, ?_⟩
  cases hh : hangsV ((turnL a).take j) ((turnL a).getD j []) q with
  | false => rfl
  | true => exact absurd ((hang_cols h hv a hj).1 hh) hs
theorem solve_piv {q : Int} (hv : primeV q = true) (f : List (List Int)) (right : List Int) (hF : FQ q N) {p : En} (hp1 : p ∈ solveS f right q) (hlt : p.at_ < wideL f) : ¬ Sp ((List.range p.at_).map (colV N f)) (colV N f p.at_) := by
  obtain ⟨rfl, hfl, hio, hit⟩ := hF
  have hW := wideL_le (allR (wideL f) f right f.length)
  have hC := space_come (N := N) hio hit hW
  have hS : solveS f right N = spaceL N (iv N) (wideL (allR (wideL f) f right f.length)) (allR (wideL f) f right f.length) := rfl
  rw [← hS] at hC
  intro hs
  obtain ⟨y, hy⟩ := sp_range.1 hs
  have h1 : Sol p.at_ y (vec N p.row) := by
    refine Sol.sp (R := (allR (wideL f) f right f.length).map (vec N)) (fun r hr => ?_) (hC.bas.sub _ (sb_mem hp1))
    obtain ⟨z, hz, rfl⟩ := List.mem_map.1 hr
    unfold allR at hz
    obtain ⟨i, hi, rfl⟩ := List.mem_map.1 hz
    unfold Sol
    rw [vec_withR (wide_getD f i), if_neg (by omega), fsum_congr (h := fun j => colV N f j i * y j) fun j hj => by rw [vec_withR (wide_getD f i), if_neg (by omega)]; rfl]
    exact hy i
  have h2 := hC.bas.ech.one _ (sb_mem hp1)
  unfold Sol at h1
  rw [fsum_zero fun j hj => by rw [hC.low p hp1 j (by omega)]; grind] at h1
  simp only at h2
  rw [h1] at h2
  exact hfl.one h2.symm
/-- all of what is told where there is a solution. -/
theorem solve_full {q : Int} (hv : primeV q = true) (f : List (List Int)) (right : List Int) (hF : FQ q N) {out : List Int} (h : solveV f right q = (out, 0)) :
    out.length = wideL f ∧ (∀ j, 0 ≤ nth out j ∧ nth out j < q) ∧ ∀ j, j < wideL f → nth out j ≠ 0 → j ∈ pivL f q (wideL f) := by
  have hpv := fun (p : En) (hp : p ∈ solveS f right q) (hlt : p.at_ < wideL f) => pivL_mem hF hv f hlt (solve_piv hv f right hF hp hlt)
  have hred : ∀ p ∈ solveS f right q, ∀ j, 0 ≤ nth p.row j ∧ nth p.row j < q := by
    obtain ⟨rfl, hfl, hio, hit⟩ := hF
    have hC := space_come (N := N) hio hit (wideL_le (allR (wideL f) f right f.length))
    exact fun p hp j => hC.good.red p hp j
  have hnd : (solveS f right q).Pairwise fun p p' => p.at_ ≠ p'.at_ := by
    obtain ⟨rfl, hfl, hio, hit⟩ := hF
    exact (space_come (N := N) hio hit (wideL_le (allR (wideL f) f right f.length))).good.nd
  have hq := (okm_prime hv).2
  unfold solveV at h
  split at h
  case isFalse => injection h with _ h2; cases h2
  split at h
  case isTrue => injection h with _ h2; cases h2
  injection h with h1 _
  subst h1
  refine ⟨tabL_len .., fun j => ?_, fun j hj hne => ?_⟩
  · rcases Nat.lt_or_ge j (wideL f) with hj | hj
    · rw [tabL_at hj]
      by_cases he : ∃ p ∈ solveS f right q, p.at_ = j
      · obtain ⟨p, hp1, rfl⟩ := he
        rw [valAt_of hnd hp1]
        exact hred p hp1 _
      · rw [valAt_no fun p hp1 e => he ⟨p, hp1, e⟩]
        omega
    · rw [nth_ge (by rw [tabL_len]; omega)]
      omega
  · rw [tabL_at hj] at hne
    by_cases he : ∃ p ∈ solveS f right q, p.at_ = j
    · obtain ⟨p, hp1, rfl⟩ := he
      exact hpv p hp1 hj
    · exact absurd (valAt_no fun p hp1 e => he ⟨p, hp1, e⟩) hne
/-- the right as a column. -/
def rtV (N : Nat) [NeZero N] (f : List (List Int)) (right : List Int) : V N := fun i => if i < f.length then tf N (nth right i) else 0
/-- the unknown that the k-th of some columns has. -/
noncomputable def xK (N : Nat) [NeZero N] (f : List (List Int)) (right : List Int) (q : Int) (P R : List Nat) (bel : Int) (k : Nat) : Int := mMul ((dt R ((colsV N f P).set k (rtV N f right))).val : Int) bel q
/-- the unknowns, up to the k-th. -/
noncomputable def outK (N : Nat) [NeZero N] (f : List (List Int)) (right : List Int) (q : Int) (P R : List Nat) (bel : Int) : Nat → List Int
  | 0 => List.replicate (wideL f) 0
  | k + 1 => (outK N f right q P R bel k).set (P.getD k 0) (xK N f right q P R bel k)
theorem outK_len (f : List (List Int)) (right : List Int) (q : Int) (P R : List Nat) (bel : Int) : ∀ k, (outK N f right q P R bel k).length = wideL f
  | 0 => by unfold outK; simp
  | k + 1 => by unfold outK; rw [List.length_set, outK_len f right q P R bel k]
theorem xK_is {q : Int} (hv : primeV q = true) (hp : Pr q.toNat) (f : List (List Int)) (right : List Int) (hr : right.length ≤ f.length) (hF : FQ q N) {out : List Int} (h : solveV f right q = (out, 0)) {R : List Nat} (hR : minorV N f (pivL f q (wideL f)) = some R) {k p : Nat} (hk : (pivL f q (wideL f))[k]? = some p) :
    xK N f right q (pivL f q (wideL f)) R (iVal ((dt R (colsV N f (pivL f q (wideL f)))).val : Int) q) k = nth out p := by
  obtain ⟨f1, f2, f3⟩ := solve_full hv f right hF h
  have hok := (okm_prime hv).1
  have hs : ∀ i, i < f.length → tf N (nth right i) = dotN N (wideL f) (f.getD i []) out := by
    rcases solve_law hv hp f right hr hF with ⟨h1, _⟩ | ⟨out', h1, _, _, h4⟩
    · rw [h] at h1
      injection h1 with _ h2
      cases h2
    · rw [h] at h1
      injection h1 with h2 _
      rw [h2]; exact h4
  have hP := pivL_ok hF hv f
  obtain ⟨_, hD⟩ := minorV_some hR
  have hpiv : ∀ j, j < wideL f → nth out j ≠ 0 → j ∈ pivL f q (wideL f) := f3
  generalize pivL f q (wideL f) = P at *
  obtain ⟨hkl, hke⟩ := List.getElem?_eq_some_iff.1 hk
  have hPe : P = P.take k ++ p :: P.drop (k + 1) := by
    conv => lhs; rw [← List.take_append_drop k P, List.drop_eq_getElem_cons hkl, hke]
  have hb : ∀ i, rtV N f right i = fsum N (wideL f) fun j => colV N f j i * vec N out j := fun i => by
    unfold rtV
    by_cases hi : i < f.length
    · rw [if_pos hi, hs i hi]
      rfl
    · rw [if_neg hi, fsum_zero fun j _ => by rw [colV_ge (by omega)]; grind]
  have hnd : p ∉ P.take k ∧ p ∉ P.drop (k + 1) := by
    have hpw := hP.1
    rw [hPe] at hpw
    obtain ⟨_, h2, h3⟩ := List.pairwise_append.1 hpw
    exact ⟨fun hm => by have := h3 p hm p (by simp); omega, fun hm => by have := (List.pairwise_cons.1 h2).1 p hm; omega⟩
  have hcr := cramer (N := N) hb (P1 := P.take k) (P2 := P.drop (k + 1)) (hP.2.1 p (List.mem_of_getElem? hk)) hnd (fun j hj => by
    by_cases e : nth out j = 0
    · exact .inl (by show tf N (nth out j) = 0; rw [e, tf_zero])
    · exact .inr (by rw [← hPe]; exact hpiv j hj e)) R
  rw [← hPe] at hcr
  have hset : (colsV N f P).set k (rtV N f right) = (P.take k).map (colV N f) ++ rtV N f right :: (P.drop (k + 1)).map (colV N f) := by
    unfold colsV
    rw [List.set_eq_take_append_cons_drop, if_pos (by simpa using hkl), List.map_take, List.map_drop]
  unfold xK
  rw [hset, hcr]
  have hinv := hF.it ((dt R (colsV N f P)).val : Int) (by rw [tf_self]; exact hD)
  rw [tf_self] at hinv
  obtain ⟨rfl, _, _, _⟩ := hF
  have h1 : tf N (mMul ((vec N out p * dt R (colsV N f P)).val : Int) (iVal ((dt R (colsV N f P)).val : Int) N) N) = tf N (nth out p) := by
    rw [mMul_ok hok, tf_mod, tf_mul, tf_self]
    show vec N out p * dt R (colsV N f P) * tf N (iVal _ _) = vec N out p
    have h3 : dt R (colsV N f P) * tf N (iVal ((dt R (colsV N f P)).val : Int) N) = 1 := hinv
    grind
  have h2 := tf_eq.1 h1
  have h3 := f2 p
  rw [mMul_ok hok, Int.emod_emod] at h2
  show mMul ((vec N out p * dt R (colsV N f P)).val : Int) _ _ = _
  rw [mMul_ok hok, h2, Int.emod_eq_of_lt h3.1 h3.2]
theorem outK_is {q : Int} (hv : primeV q = true) (hp : Pr q.toNat) (f : List (List Int)) (right : List Int) (hr : right.length ≤ f.length) (hF : FQ q N) {out : List Int} (h : solveV f right q = (out, 0)) {R : List Nat} (hR : minorV N f (pivL f q (wideL f)) = some R) :
    outK N f right q (pivL f q (wideL f)) R (iVal ((dt R (colsV N f (pivL f q (wideL f)))).val : Int) q) (pivL f q (wideL f)).length = out := by
  obtain ⟨f1, f2, f3⟩ := solve_full hv f right hF h
  have hx := fun (k p : Nat) (hk : (pivL f q (wideL f))[k]? = some p) => xK_is hv hp f right hr hF h hR hk
  have hP := pivL_ok hF hv f
  generalize iVal ((dt R (colsV N f (pivL f q (wideL f)))).val : Int) q = bel at *
  generalize pivL f q (wideL f) = P at *
  have key : ∀ k, k ≤ P.length → ∀ j, j < wideL f → nth (outK N f right q P R bel k) j = if j ∈ P.take k then nth out j else 0 := by
    intro k
    induction k with
    | zero =>
      intro _ j hj
      unfold outK nth
      rw [List.getD_eq_getElem?_getD, List.getElem?_replicate, if_pos hj]
      simp
    | succ k ih =>
      intro hk j hj
      obtain ⟨p, hpk⟩ : ∃ p, P[k]? = some p := ⟨P[k], List.getElem?_eq_getElem (by omega)⟩
      have hpW := hP.2.1 p (List.mem_of_getElem? hpk)
      have e1 : P.getD k 0 = p := by rw [List.getD_eq_getElem?_getD, hpk]; rfl
      have e2 : P.take (k + 1) = P.take k ++ [p] := by rw [List.take_add_one, hpk]; rfl
      unfold outK
      rw [e1, e2, hx k p hpk]
      have ih' := ih (by omega) j hj
      unfold nth at ih' ⊢
      rw [List.getD_eq_getElem?_getD] at ih' ⊢
      by_cases e : p = j
      · subst e
        rw [List.getElem?_set_self (by rw [outK_len]; exact hj), if_pos (by simp)]
        rfl
      · rw [List.getElem?_set_ne e, ih']
        have : (j ∈ P.take k ++ [p]) ↔ j ∈ P.take k := by
          rw [List.mem_append, List.mem_singleton]
          exact ⟨fun h => h.resolve_right fun h => e h.symm, .inl⟩
        simp only [this]
  refine nth_ext (by rw [outK_len, f1]) fun j hj => ?_
  rw [outK_len] at hj
  rw [key P.length (Nat.le_refl _) j hj, List.take_length]
  by_cases e : nth out j = 0
  · rw [e]; split <;> rfl
  · rw [if_pos (f3 j hj e)]
/-- **what the check of all equations tells.** -/
theorem solve04_end {q : Int} (hv : primeV q = true) (hp : Pr q.toNat) (f : List (List Int)) (right : List Int) (hr : right.length ≤ f.length) (hF : FQ q N) {R : List Nat} (hR : minorV N f (pivL f q (wideL f)) = some R) {o : List Int}
    (ho : o = outK N f right q (pivL f q (wideL f)) R (iVal ((dt R (colsV N f (pivL f q (wideL f)))).val : Int) q) (pivL f q (wideL f)).length) :
    ((∀ (i : Nat) r, f[i]? = some r → dotL r o q = nth right i % q) → solveV f right q = (o, 0)) ∧ ∀ (i : Nat) r, f[i]? = some r → dotL r o q ≠ nth right i % q → solveV f right q = ([], 5) := by
  have hok := (okm_prime hv).1
  rcases solve_law hv hp f right hr hF with ⟨h1, h2⟩ | ⟨out, h1, _, _, _⟩
  · refine ⟨fun hall => ?_, fun _ _ _ _ => h1⟩
    exfalso
    obtain ⟨rfl, _, _, _⟩ := hF
    refine h2 (vec N o) fun i hi => ?_
    have e := hall i (f.getD i []) (by rw [List.getD_eq_getElem?_getD, List.getElem?_eq_getElem hi]; rfl)
    have h3 := dotL_tf hok (b := o) (wide_getD f i)
    rw [e, tf_mod] at h3
    exact h3
  · have e := outK_is hv hp f right hr hF h1 hR
    rw [← ho] at e
    subst e
    refine ⟨fun _ => h1, fun i r hi hne => ?_⟩
    exfalso
    rcases solved_law hv hp f right hr with ⟨k1, _⟩ | ⟨o2, k1, _, _, _, k5⟩
    · rw [h1] at k1
      injection k1 with _ k2
      cases k2
    · rw [h1] at k1
      injection k1 with k2 _
      subst k2
      exact hne (k5 i r hi)
/-- the rows, with the right in the place of a column. -/
def withA (f : List (List Int)) (right : List Int) (q : Int) (p : Nat) (n : Nat) : List (List Int) := (List.range n).map fun i => (tabL (wideL f) (nth (f.getD i []))).set p (nth right i % q)
theorem withA_len (f : List (List Int)) (right : List Int) (q : Int) (p n : Nat) : (withA f right q p n).length = n := by simp [withA]
theorem withA_succ (f : List (List Int)) (right : List Int) (q : Int) (p n : Nat) : withA f right q p (n + 1) = withA f right q p n ++ [(tabL (wideL f) (nth (f.getD n []))).set p (nth right n % q)] := by simp [withA, List.range_succ]
theorem withA_cols {q : Int} (hqN : q = (N : Int)) (f : List (List Int)) (right : List Int) {P : List Nat} (hP : P.Pairwise (· < ·)) (hW : ∀ p ∈ P, p < wideL f) {k p : Nat} (hk : P[k]? = some p) : colsV N (withA f right q p f.length) P = (colsV N f P).set k (rtV N f right) := by
  obtain ⟨hkl, hke⟩ := List.getElem?_eq_some_iff.1 hk
  have hpW := hW p (List.mem_of_getElem? hk)
  refine List.ext_getElem? fun t => ?_
  unfold colsV
  rw [List.getElem?_map, List.getElem?_set, List.getElem?_map]
  rcases Nat.lt_or_ge t P.length with ht | ht
  · have htW := hW P[t] (List.getElem_mem ht)
    rw [List.getElem?_eq_getElem ht]
    simp only [Option.map_some, List.length_map]
    have hrow : ∀ i, (withA f right q p f.length).getD i [] = if i < f.length then (tabL (wideL f) (nth (f.getD i []))).set p (nth right i % q) else [] := fun i => by
      unfold withA
      rw [List.getD_eq_getElem?_getD, List.getElem?_map]
      by_cases hi : i < f.length
      · rw [List.getElem?_range hi, if_pos hi]; rfl
      · rw [List.getElem?_eq_none (by simpa using hi), if_neg hi]; rfl
    by_cases e : k = t
    · subst e
      rw [if_pos rfl, if_pos hkl]
      congr 1
      funext i
      unfold colV rtV vec
      rw [hrow i, hke]
      by_cases hi : i < f.length
      · rw [if_pos hi, if_pos hi]
        unfold nth
        rw [List.getD_eq_getElem?_getD, List.getElem?_set_self (by rw [tabL_len]; exact hpW)]
        rw [hqN]
        exact tf_mod _
      · rw [if_neg hi, if_neg hi]
        exact tf_zero
    · rw [if_neg e]
      congr 1
      have hne : p ≠ P[t] := by
        have hpw := List.pairwise_iff_getElem.1 hP
        rw [← hke]
        rcases Nat.lt_or_ge k t with h | h
        · have := hpw k t hkl ht h; omega
        · have := hpw t k ht hkl (by omega); omega
      funext i
      unfold colV vec
      rw [hrow i]
      by_cases hi : i < f.length
      · rw [if_pos hi]
        have h1 := tabL_at (n := wideL f) (f := nth (f.getD i [])) htW
        unfold nth at h1 ⊢
        rw [List.getD_eq_getElem?_getD, List.getElem?_set_ne hne, ← List.getD_eq_getElem?_getD, h1]
      · rw [if_neg hi, show f.getD i [] = [] by rw [List.getD_eq_getElem?_getD, List.getElem?_eq_none (by omega)]; rfl]
  · rw [List.getElem?_eq_none ht]
    have : ¬ k = t := by omega
    rw [if_neg this]
    rfl
end
end Go.Proofs.YtlbhmoiicbhgkaaDoor
