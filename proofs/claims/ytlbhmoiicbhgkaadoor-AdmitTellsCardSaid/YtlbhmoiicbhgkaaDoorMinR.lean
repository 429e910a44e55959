/-
  The document's rank, by minors: it is the rank. (No program in sight.)
-/
import Derived.Test.YtlbhmoiicbhgkaaDoorAdmQ1
import Derived.Test.YtlbhmoiicbhgkaaDoorAdmQ2
import Derived.Test.YtlbhmoiicbhgkaaDoorAdmQ3
import Derived.Test.YtlbhmoiicbhgkaaDoorAdmQ4
import Derived.Test.YtlbhmoiicbhgkaaDoorAdmQ5
import Derived.Test.YtlbhmoiicbhgkaaDoorAdmQ6
import Derived.Test.YtlbhmoiicbhgkaaDoorAdmQ7
import Derived.Test.YtlbhmoiicbhgkaaDoorAdmQ8
import Derived.Test.YtlbhmoiicbhgkaaDoorMin
namespace Go.Proofs.YtlbhmoiicbhgkaaDoor
open Go Go.Lin Go.Psi

/-- all lists of k rising numbers from fr on, below fr + d. -/
def subL : Nat → Nat → Nat → List (List Nat)
  | 0, _, _ => [[]]
  | _ + 1, _, 0 => []
  | k + 1, fr, d + 1 => (subL k (fr + 1) d).map (fr :: ·) ++ subL (k + 1) (fr + 1) d
theorem subL_zero (fr d : Nat) : subL 0 fr d = [[]] := by cases d <;> rfl
theorem subL_step (k fr d : Nat) : subL (k + 1) fr (d + 1) = (subL k (fr + 1) d).map (fr :: ·) ++ subL (k + 1) (fr + 1) d := rfl
theorem subL_mem : ∀ (d k fr : Nat) (l : List Nat), l ∈ subL k fr d ↔ l.length = k ∧ l.Pairwise (· < ·) ∧ ∀ x ∈ l, fr ≤ x ∧ x < fr + d
  | d, 0, fr, l => by
    rw [subL_zero, List.mem_singleton]
    constructor
    · rintro rfl
      exact ⟨rfl, .nil, fun x h => by cases h⟩
    · rintro ⟨h, _, _⟩
      exact List.eq_nil_of_length_eq_zero h
  | 0, k + 1, fr, l => by
    constructor
    · intro h; cases h
    · rintro ⟨h1, _, h2⟩
      cases l with
      | nil => cases h1
      | cons x l => have := h2 x (by simp); omega
  | d + 1, k + 1, fr, l => by
    rw [subL_step, List.mem_append, List.mem_map, subL_mem d (k + 1) (fr + 1)]
    constructor
    · rintro (⟨m, hm, rfl⟩ | ⟨h1, h2, h3⟩)
      · obtain ⟨h1, h2, h3⟩ := (subL_mem d k (fr + 1) m).1 hm
        refine ⟨by simp [h1], List.pairwise_cons.2 ⟨fun x hx => by have := (h3 x hx).1; omega, h2⟩, fun x hx => ?_⟩
        rcases List.mem_cons.1 hx with rfl | hx
        · omega
        · have := h3 x hx; omega
      · exact ⟨h1, h2, fun x hx => by have := h3 x hx; omega⟩
    · rintro ⟨h1, h2, h3⟩
      cases l with
      | nil => cases h1
      | cons x m =>
        obtain ⟨h4, h5⟩ := List.pairwise_cons.1 h2
        have hx := h3 x (by simp)
        by_cases e : x = fr
        · subst e
          exact .inl ⟨m, (subL_mem d k (x + 1) m).2 ⟨by simpa using h1, h5, fun y hy => by have := h4 y hy; have := h3 y (by simp [hy]); omega⟩, rfl⟩
        · refine .inr ⟨h1, h2, fun y hy => ?_⟩
          rcases List.mem_cons.1 hy with rfl | hy
          · omega
          · have := h4 y hy; have := h3 y (by simp [hy]); omega
/-- rising numbers from fr on, below fr + d, are d at most. -/
theorem rise_len : ∀ (l : List Nat) (fr d : Nat), l.Pairwise (· < ·) → (∀ x ∈ l, fr ≤ x ∧ x < fr + d) → l.length ≤ d
  | [], _, _, _, _ => Nat.zero_le _
  | x :: l, fr, d, h, hb => by
    obtain ⟨h1, h2⟩ := List.pairwise_cons.1 h
    have hx := hb x (by simp)
    have := rise_len l (x + 1) (fr + d - (x + 1)) h2 fun y hy => by have := h1 y hy; have := hb y (by simp [hy]); omega
    simp only [List.length_cons]
    omega
theorem subL_short {k fr d : Nat} (h : d < k) : subL k fr d = [] := by
  refine List.eq_nil_iff_forall_not_mem.2 fun l hl => ?_
  obtain ⟨h1, h2, h3⟩ := (subL_mem d k fr l).1 hl
  have := rise_len l fr d h2 h3
  omega
/-- one number more, put in its place. -/
theorem rise_ins : ∀ (l : List Nat) (i : Nat), l.Pairwise (· < ·) → i ∉ l → ∃ m : List Nat, m.Perm (i :: l) ∧ m.Pairwise (· < ·)
  | [], i, _, _ => ⟨[i], .refl _, by simp⟩
  | x :: l, i, h, hn => by
    obtain ⟨h1, h2⟩ := List.pairwise_cons.1 h
    simp only [List.mem_cons, not_or] at hn
    by_cases hx : i < x
    · exact ⟨i :: x :: l, .refl _, List.pairwise_cons.2 ⟨fun y hy => by
        rcases List.mem_cons.1 hy with rfl | hy
        · exact hx
        · exact Nat.lt_trans hx (h1 y hy), h⟩⟩
    · obtain ⟨m, hm, hp⟩ := rise_ins l i h2 hn.2
      refine ⟨x :: m, (List.Perm.cons x hm).trans (List.Perm.swap i x l), List.pairwise_cons.2 ⟨fun y hy => ?_, hp⟩⟩
      rcases List.mem_cons.1 (hm.mem_iff.1 hy) with rfl | hy
      · omega
      · exact h1 y hy

section
variable {N : Nat} [h0 : NeZero N]
/-- a column of rows. -/
def colV (N : Nat) [NeZero N] (a : List (List Int)) (j : Nat) : V N := fun i => vec N (a.getD i []) j
def colsV (N : Nat) [NeZero N] (a : List (List Int)) (C : List Nat) : List (V N) := C.map (colV N a)
theorem colV_ge {a : List (List Int)} {i : Nat} (h : a.length ≤ i) (j : Nat) : colV N a j i = 0 := by
  unfold colV
  rw [List.getD_eq_getElem?_getD, List.getElem?_eq_none h]
  exact vec_ge (Nat.zero_le j)
/-- rows, of these columns, whose determinant is not 0: the first ones. -/
noncomputable def minorV (N : Nat) [NeZero N] (a : List (List Int)) (C : List Nat) : Option (List Nat) := (subL C.length 0 a.length).find? fun R => decide (dt R (colsV N a C) ≠ 0)
theorem minorV_some {a : List (List Int)} {C R : List Nat} (h : minorV N a C = some R) : R ∈ subL C.length 0 a.length ∧ dt R (colsV N a C) ≠ 0 := by
  refine ⟨List.mem_of_find?_eq_some h, ?_⟩
  have := List.find?_some h
  simpa using this
theorem minorV_none {a : List (List Int)} {C R : List Nat} (h : minorV N a C = none) (hR : R ∈ subL C.length 0 a.length) : dt R (colsV N a C) = 0 := by
  have := List.find?_eq_none.1 h R hR
  simpa using this
theorem turn_cols (a : List (List Int)) : (turnL a).map (vec N) = (List.range (wideL a)).map (colV N a) := by
  unfold turnL
  rw [List.map_map]
  refine List.map_congr_left fun j _ => funext fun i => ?_
  show vec N ((List.range a.length).map fun i => nth (a.getD i []) j) i = colV N a j i
  rw [turn_vec]
  by_cases h : i < a.length
  · rw [if_pos h]; rfl
  · rw [if_neg h, colV_ge (by omega)]
/-- the rank of the columns is that of the rows. -/
theorem FQ.cols {q : Int} (h : FQ q N) (hv : primeV q = true) (hp : Pr q.toNat) (a : List (List Int)) : Rk (colsV N a (List.range (wideL a))) (rankV a q) := by
  rw [rank_turned hv hp]
  have := h.rk hv (turnL a)
  rw [turn_cols] at this
  exact this
/-- where all minors of one row and one column more are 0. -/
theorem minor_most (F : Fld N) {a : List (List Int)} {W k : Nat} {R C : List Nat} (hR : R ∈ subL k 0 a.length) (hC : C ∈ subL k 0 W) (h : dt R (colsV N a C) ≠ 0) (hz : ∀ C' ∈ subL (k + 1) 0 W, k + 1 ≤ a.length → minorV N a C' = none) {n : Nat} (hn : Rk (colsV N a (List.range W)) n) : n ≤ k := by
  obtain ⟨r1, r2, r3⟩ := (subL_mem _ _ _ _).1 hR
  obtain ⟨c1, c2, c3⟩ := (subL_mem _ _ _ _).1 hC
  have := rk_le_dt F hn h fun c hc i => ?_
  · unfold colsV at this
    rw [List.length_map, c1] at this
    exact this
  obtain ⟨j, hj, rfl⟩ := List.mem_map.1 hc
  rw [List.mem_range] at hj
  by_cases hjC : j ∈ C
  · exact dt_dup (List.mem_map_of_mem hjC) _
  by_cases hiR : i ∈ R
  · exact dt_mem hiR _
  rcases Nat.lt_or_ge i a.length with hi | hi
  · obtain ⟨R', p1, q1⟩ := rise_ins R i r2 hiR
    obtain ⟨C', p2, q2⟩ := rise_ins C j c2 hjC
    have m1 : R' ∈ subL (k + 1) 0 a.length := (subL_mem _ _ _ _).2 ⟨by rw [p1.length_eq, List.length_cons, r1], q1, fun x hx => by
      rcases List.mem_cons.1 (p1.mem_iff.1 hx) with rfl | hx
      · omega
      · exact r3 x hx⟩
    have m2 : C' ∈ subL (k + 1) 0 W := (subL_mem _ _ _ _).2 ⟨by rw [p2.length_eq, List.length_cons, c1], q2, fun x hx => by
      rcases List.mem_cons.1 (p2.mem_iff.1 hx) with rfl | hx
      · omega
      · exact c3 x hx⟩
    have hk : k + 1 ≤ a.length := by
      obtain ⟨e1, e2, e3⟩ := (subL_mem _ _ _ _).1 m1
      have := rise_len R' 0 a.length e2 e3
      omega
    have hz' := minorV_none (hz C' m2 hk) (by rw [((subL_mem _ _ _ _).1 m2).1]; exact m1)
    obtain ⟨s, _, h1⟩ := dt_rows (N := N) p1.symm
    obtain ⟨s', _, h2⟩ := dt_cols (N := N) ((p2.symm.map (colV N a)))
    have h3 := h2 [] R'
    rw [List.nil_append, List.nil_append] at h3
    show dt (i :: R) ((j :: C).map (colV N a)) = 0
    rw [h1, h3]
    show s * (s' * dt R' (colsV N a C')) = 0
    rw [hz']
    grind
  · rw [dt_cons]
    refine ex_row0 i _ _ fun c hc => ?_
    have : c ∈ (j :: C).map (colV N a) := hc
    obtain ⟨x, _, rfl⟩ := List.mem_map.1 this
    exact colV_ge hi x
/-- **the greatest minor that is not 0 is as great as the rank.** -/
theorem minor_rank {q : Int} (h : FQ q N) (hv : primeV q = true) (hp : Pr q.toNat) {a : List (List Int)} {k : Nat} {R C : List Nat} (hC : C ∈ subL k 0 (wideL a)) (hR : minorV N a C = some R)
    (hz : ∀ C' ∈ subL (k + 1) 0 (wideL a), k + 1 ≤ a.length → minorV N a C' = none) : rankV a q = k := by
  have hcol := h.cols hv hp a
  obtain ⟨hR1, hd⟩ := minorV_some hR
  obtain ⟨c1, c2, c3⟩ := (subL_mem _ _ _ _).1 hC
  rw [c1] at hR1
  have h1 := minor_most h.fld hR1 hC hd hz hcol
  have h2 := (rk_of_dt h.fld hd).le h.fld hcol fun r hr => by
    obtain ⟨x, hx, rfl⟩ := List.mem_map.1 hr
    exact Sp.mem (List.mem_map_of_mem (List.mem_range.2 (by have := c3 x hx; omega)))
  unfold colsV at h2
  rw [List.length_map, c1] at h2
  omega
theorem minor_zero (F : Fld N) (a : List (List Int)) : minorV N a [] = some [] := by
  unfold minorV
  rw [List.length_nil, subL_zero]
  have : dt ([] : List Nat) (colsV N a []) = 1 := rfl
  simp [this, F.one]
theorem minor_rank0 {q : Int} (h : FQ q N) (hv : primeV q = true) (hp : Pr q.toNat) {a : List (List Int)} (hz : ∀ C' ∈ subL 1 0 (wideL a), 1 ≤ a.length → minorV N a C' = none) : rankV a q = 0 :=
  minor_rank h hv hp (C := []) (by rw [subL_zero]; simp) (minor_zero h.fld a) hz
/-- signs in turn. -/
def sgn (N : Nat) [NeZero N] (k : Nat) : Fin N := if k % 2 = 0 then 1 else -1
theorem sgn_succ (k : Nat) : sgn N (k + 1) = -1 * sgn N k := by
  unfold sgn
  rcases Nat.mod_two_eq_zero_or_one k with h | h
  · rw [if_pos h, if_neg (show ¬ (k + 1) % 2 = 0 by omega)]; grind
  · rw [if_pos (show (k + 1) % 2 = 0 by omega), if_neg (show ¬ k % 2 = 0 by omega)]; grind
/-- the sum along the first row, up to a column. -/
def DetI (N : Nat) [NeZero N] (a : List (List Int)) (i : Nat) (R C : List Nat) (q : Int) (k : Nat) (S : Int) : Prop :=
  0 ≤ S ∧ S < q ∧ tf N S + sgn N k * ex i (colsV N a (C.drop k)) (fun X => dt R (colsV N a (C.take k) ++ X)) = dt (i :: R) (colsV N a C)
theorem DetI.start (a : List (List Int)) (i : Nat) (R C : List Nat) {q : Int} (hq : 0 < q) : DetI N a i R C q 0 0 := by
  refine ⟨Int.le_refl 0, hq, ?_⟩
  rw [dt_cons, tf_zero, List.drop_zero, List.take_zero]
  show 0 + (if 0 % 2 = 0 then 1 else -1) * ex i (colsV N a C) (fun X => dt R X) = _
  rw [if_pos rfl]
  show 0 + 1 * ex i (colsV N a C) (dt R) = _
  grind
theorem DetI.fin {a : List (List Int)} {i : Nat} {R C : List Nat} {q S : Int} (h : DetI N a i R C q C.length S) : 0 ≤ S ∧ S < q ∧ tf N S = dt (i :: R) (colsV N a C) := by
  obtain ⟨h1, h2, h3⟩ := h
  refine ⟨h1, h2, ?_⟩
  rw [List.drop_length] at h3
  rw [← h3]
  show _ = _ + _ * 0
  grind
theorem DetI.step {a : List (List Int)} {i : Nat} {R C : List Nat} {q S x : Int} {k j : Nat} (hqN : q = (N : Int)) (h : DetI N a i R C q k S) (hj : C[k]? = some j) (hx : tf N x = vec N (a.getD i []) j * dt R (colsV N a (C.take k ++ C.drop (k + 1)))) :
    DetI N a i R C q (k + 1) (if k % 2 = 0 then (S + x) % q else (S - x) % q) := by
  obtain ⟨h1, h2, h3⟩ := h
  have hq0 : 0 < q := by omega
  obtain ⟨hk, hje⟩ := List.getElem?_eq_some_iff.1 hj
  have e1 : C.drop k = j :: C.drop (k + 1) := by rw [List.drop_eq_getElem_cons hk, hje]
  have e2 : C.take (k + 1) = C.take k ++ [j] := by rw [List.take_add_one, hj]; rfl
  have e3 : (fun X => dt R (colsV N a (C.take k) ++ colV N a j :: X)) = fun X : List (V N) => dt R (colsV N a (C.take (k + 1)) ++ X) := funext fun X => by
    rw [e2]
    unfold colsV
    rw [List.map_append, List.append_assoc]
    rfl
  have e4 : ex i (colsV N a (C.drop k)) (fun X => dt R (colsV N a (C.take k) ++ X)) = vec N (a.getD i []) j * dt R (colsV N a (C.take k ++ C.drop (k + 1))) - ex i (colsV N a (C.drop (k + 1))) (fun X => dt R (colsV N a (C.take (k + 1)) ++ X)) := by
    rw [e1]
    show ex i (colV N a j :: colsV N a (C.drop (k + 1))) (fun X => dt R (colsV N a (C.take k) ++ X)) = _
    conv => lhs; unfold ex
    dsimp only
    rw [e3]
    unfold colsV
    rw [List.map_append]
    rfl
  refine ⟨?_, ?_, ?_⟩
  · split <;> exact Int.emod_nonneg _ (by omega)
  · split <;> exact Int.emod_lt_of_pos _ hq0
  · rw [← h3, e4, sgn_succ, ← hx]
    unfold sgn
    subst hqN
    by_cases hm : k % 2 = 0
    · rw [if_pos hm, if_pos hm, tf_mod, tf_add]
      grind
    · rw [if_neg hm, if_neg hm, tf_mod, tf_sub]
      grind
end
end Go.Proofs.YtlbhmoiicbhgkaaDoor
