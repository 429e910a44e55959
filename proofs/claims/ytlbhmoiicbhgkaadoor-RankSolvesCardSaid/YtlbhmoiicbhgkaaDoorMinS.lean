/-
  The document's solution of equations, by determinants: it is the solution. (No program in sight.)
-/
import Derived.Test.YtlbhmoiicbhgkaaDoorRnkQ1
import Derived.Test.YtlbhmoiicbhgkaaDoorRnkQ2
import Derived.Test.YtlbhmoiicbhgkaaDoorRnkQ3
import Derived.Test.YtlbhmoiicbhgkaaDoorRnkQ4
import Derived.Test.YtlbhmoiicbhgkaaDoorRnkQ5
import Derived.Test.YtlbhmoiicbhgkaaDoorRnkQ6
import Derived.Test.YtlbhmoiicbhgkaaDoorRnkQ7
import Derived.Test.YtlbhmoiicbhgkaaDoorRnkQ8
import Derived.Test.YtlbhmoiicbhgkaaDoorMinR
namespace Go.Proofs.YtlbhmoiicbhgkaaDoor
open Go Go.Lin Go.Psi

theorem rise_all : ∀ (l : List Nat) (fr d : Nat), l.Pairwise (· < ·) → (∀ x ∈ l, fr ≤ x ∧ x < fr + d) → l.length = d → l = List.range' fr d
  | [], _, _, _, _, h => by
    subst h; rfl
  | x :: l, fr, d, h1, h2, h3 => by
    obtain ⟨k1, k2⟩ := List.pairwise_cons.1 h1
    cases d with
    | zero => cases h3
    | succ d =>
      simp only [List.length_cons, Nat.succ.injEq] at h3
      have hx := h2 x (by simp)
      have hb : ∀ y ∈ l, x + 1 ≤ y ∧ y < x + 1 + (fr + d - x) := fun y hy => by have := k1 y hy; have := h2 y (by simp [hy]); omega
      have hl := rise_len l (x + 1) (fr + d - x) k2 hb
      obtain rfl : x = fr := by omega
      rw [rise_all l (x + 1) d k2 (fun y hy => by have := hb y hy; omega) h3]
      rfl
section
variable {N : Nat} [h0 : NeZero N]
/-- some minor is as great as the rank. -/
theorem minor_exists {q : Int} (h : FQ q N) (hv : primeV q = true) (hp : Pr q.toNat) (a : List (List Int)) : ∃ C ∈ subL (rankV a q) 0 (wideL a), ∃ R, minorV N a C = some R := by
  have key : ∀ k : Nat, (∀ j, k < j → ∀ C ∈ subL j 0 (wideL a), minorV N a C = none) → ∃ k', ∃ C ∈ subL k' 0 (wideL a), (∃ R, minorV N a C = some R) ∧ ∀ C' ∈ subL (k' + 1) 0 (wideL a), minorV N a C' = none := by
    intro k
    induction k with
    | zero =>
      intro hk
      exact ⟨0, [], by rw [subL_zero]; simp, ⟨[], minor_zero h.fld a⟩, hk 1 (by omega)⟩
    | succ k ih =>
      intro hk
      by_cases hC : ∃ C ∈ subL (k + 1) 0 (wideL a), ∃ R, minorV N a C = some R
      · obtain ⟨C, h1, h2⟩ := hC
        exact ⟨k + 1, C, h1, h2, hk (k + 2) (by omega)⟩
      · refine ih fun j hj C hCj => ?_
        by_cases e : j = k + 1
        · subst e
          cases hm : minorV N a C with
          | none => rfl
          | some R => exact absurd ⟨C, hCj, R, hm⟩ hC
        · exact hk j (by omega) C hCj
  obtain ⟨k, C, h1, ⟨R, h2⟩, h3⟩ := key (wideL a) fun j hj C hC => by rw [subL_short hj] at hC; cases hC
  have := minor_rank h hv hp h1 h2 fun C' hC' _ => h3 C' hC'
  rw [this]
  exact ⟨C, h1, R, h2⟩
/-- columns of which none hangs on those ahead of it. -/
def PivL (N : Nat) [NeZero N] (a : List (List Int)) (P : List Nat) : Prop := P.Pairwise (· < ·) ∧ (∀ p ∈ P, p < wideL a) ∧ ∀ p ∈ P, ¬ Sp ((List.range p).map (colV N a)) (colV N a p)
theorem piv_rk (F : Fld N) {a : List (List Int)} : ∀ (P : List Nat), PivL N a P → Rk (colsV N a P) P.length := by
  intro P
  have key : ∀ t, t ≤ P.length → PivL N a P → Rk (colsV N a (P.take t)) t := by
    intro t
    induction t with
    | zero => intro _ _; exact Rk.nil
    | succ t ih =>
      intro ht hP
      have h1 := ih (by omega) hP
      obtain ⟨p, hp⟩ : ∃ p, P[t]? = some p := ⟨P[t], List.getElem?_eq_getElem (by omega)⟩
      obtain ⟨ht', hpe⟩ := List.getElem?_eq_some_iff.1 hp
      have hpm : p ∈ P := List.mem_of_getElem? hp
      have hne : ¬ Sp (colsV N a (P.take t)) (colV N a p) := fun hs => hP.2.2 p hpm (hs.mono fun r hr => by
        obtain ⟨x, hx, rfl⟩ := List.mem_map.1 hr
        refine List.mem_map_of_mem (List.mem_range.2 ?_)
        obtain ⟨i, hi, hxe⟩ := List.getElem_of_mem hx
        rw [List.length_take] at hi
        rw [List.getElem_take] at hxe
        have := List.pairwise_iff_getElem.1 hP.1 i t (by omega) ht' (by omega)
        omega)
      have h2 := h1.more F hne
      refine h2.congr (fun r hr => Sp.mem ?_) fun r hr => Sp.mem ?_
      · rw [List.take_add_one, hp]
        unfold colsV at hr ⊢
        rw [List.map_append]
        rcases List.mem_cons.1 hr with rfl | hr
        · exact List.mem_append_right _ (by simp)
        · exact List.mem_append_left _ hr
      · rw [List.take_add_one, hp] at hr
        unfold colsV at hr ⊢
        rw [List.map_append] at hr
        rcases List.mem_append.1 hr with hr | hr
        · exact List.mem_cons_of_mem _ hr
        · have : r = colV N a p := by simpa using hr
          rw [this]; exact List.mem_cons_self
  intro hP
  have := key P.length (Nat.le_refl _) hP
  rwa [List.take_length] at this
/-- of these columns there are rows whose determinant is not 0. -/
theorem piv_minor {q : Int} (h : FQ q N) (hv : primeV q = true) (hp : Pr q.toNat) {a : List (List Int)} {P : List Nat} (hP : PivL N a P) : ∃ R, minorV N a P = some R := by
  cases hm : minorV N a P with
  | some R => exact ⟨R, rfl⟩
  | none =>
    exfalso
    by_cases hP0 : P = []
    · rw [hP0, minor_zero h.fld a] at hm
      cases hm
    · obtain ⟨a', ha'⟩ : ∃ a' : List (List Int), a' = a.map fun r => P.map fun j => nth r j := ⟨_, rfl⟩
      have hlen : a'.length = a.length := by rw [ha', List.length_map]
      have hane : a ≠ [] := by
        rintro rfl
        cases P with
        | nil => exact hP0 rfl
        | cons p P => have := hP.2.1 p (by simp); exact absurd this (by unfold wideL; simp)
      have hW : wideL a' = P.length := wideL_same (fun l hl => by
        rw [ha'] at hl
        obtain ⟨r, _, rfl⟩ := List.mem_map.1 hl
        rw [List.length_map]) (by rw [ha']; simpa using hane)
      have hcol : ∀ t p, P[t]? = some p → colV N a' t = colV N a p := by
        intro t p ht
        funext i
        unfold colV vec
        congr 1
        rw [ha', List.getD_eq_getElem?_getD, List.getD_eq_getElem?_getD, List.getElem?_map]
        cases hi : a[i]? with
        | none => simp [nth]
        | some r =>
          simp only [Option.map_some, Option.getD_some]
          unfold nth
          rw [List.getD_eq_getElem?_getD, List.getElem?_map, ht]
          simp
      have hcols : colsV N a' (List.range P.length) = colsV N a P := by
        unfold colsV
        refine List.ext_getElem? fun t => ?_
        rw [List.getElem?_map, List.getElem?_map]
        rcases Nat.lt_or_ge t P.length with ht | ht
        · rw [List.getElem?_range ht, List.getElem?_eq_getElem ht]
          simp only [Option.map_some]
          rw [hcol t _ (List.getElem?_eq_getElem ht)]
        · rw [List.getElem?_eq_none (by simpa using ht), List.getElem?_eq_none ht]
          rfl
      have hr := h.cols hv hp a'
      rw [hW, hcols] at hr
      have hrk := hr.unique h.fld (piv_rk h.fld P hP)
      obtain ⟨C, hC, R, hR⟩ := minor_exists h hv hp a'
      rw [hrk, hW] at hC
      obtain ⟨c1, c2, c3⟩ := (subL_mem _ _ _ _).1 hC
      have hCr : C = List.range P.length := by rw [List.range_eq_range']; exact rise_all C 0 P.length c2 c3 c1
      obtain ⟨m1, m2⟩ := minorV_some hR
      rw [hCr, hcols] at m2
      rw [c1, hlen] at m1
      exact m2 (minorV_none hm m1)
theorem fsum_sp {L : List (V N)} {M : Nat → V N} {s : Nat → Fin N} : ∀ {W : Nat}, (∀ j, j < W → s j = 0 ∨ M j ∈ L) → Sp L fun i => fsum N W fun j => M j i * s j
  | 0, _ => Sp.zero
  | W + 1, h => by
    have h1 := fsum_sp (L := L) (M := M) (s := s) (W := W) fun j hj => h j (by omega)
    rcases h W (by omega) with h2 | h2
    · refine h1.of_eq fun i => ?_
      show fsum N W _ + M W i * s W = _
      rw [h2]
      grind
    · refine Sp.comb (s W) (Sp.mem h2) h1 fun i => ?_
      show fsum N W _ + M W i * s W = _
      grind
theorem fsum_take {g : Nat → Fin N} {p : Nat} : ∀ {W : Nat}, p < W → fsum N W g = g p + fsum N W fun j => if j = p then 0 else g j
  | 0, h => by omega
  | W + 1, h => by
    show fsum N W g + g W = g p + (fsum N W (fun j => if j = p then 0 else g j) + if W = p then 0 else g W)
    by_cases e : W = p
    · subst e
      rw [if_pos rfl, fsum_congr (g := g) (h := fun j => if j = W then 0 else g j) fun j hj => by rw [if_neg (show ¬ j = W by omega)]]
      grind
    · rw [fsum_take (g := g) (p := p) (W := W) (by omega), if_neg e]
      grind
/-- **Cramer's rule.** -/
theorem cramer {W : Nat} {M : Nat → V N} {y : Nat → Fin N} {b : V N} (hb : ∀ i, b i = fsum N W fun j => M j i * y j) {P1 P2 : List Nat} {p : Nat} (hp : p < W) (_hn : p ∉ P1 ∧ p ∉ P2) (hy : ∀ j, j < W → y j = 0 ∨ j ∈ P1 ++ p :: P2) (R : List Nat) :
    dt R (P1.map M ++ b :: P2.map M) = y p * dt R ((P1 ++ p :: P2).map M) := by
  have hz : ∀ i, b i = y p * M p i + fsum N W (fun j => M j i * if j = p then 0 else y j) := fun i => by
    rw [hb i, fsum_take (g := fun j => M j i * y j) hp]
    rw [fsum_congr (g := fun j => if j = p then 0 else M j i * y j) (h := fun j => M j i * if j = p then 0 else y j) fun j _ => by split <;> grind]
    grind
  have hu : Sp (P1.map M ++ P2.map M) fun i => fsum N W fun j => M j i * if j = p then 0 else y j := fsum_sp fun j hj => by
    by_cases e : j = p
    · exact .inl (by rw [if_pos e])
    · rw [if_neg e]
      refine (hy j hj).imp_right fun h => ?_
      rw [← List.map_append]
      refine List.mem_map_of_mem ?_
      rcases List.mem_append.1 h with h | h
      · exact List.mem_append_left _ h
      · rcases List.mem_cons.1 h with h | h
        · exact absurd h e
        · exact List.mem_append_right _ h
  have h1 := dt_mix hz R (P1.map M) (P2.map M)
  obtain ⟨s, _, h2⟩ := dt_cols (N := N) (List.perm_middle (a := fun i => fsum N W fun j => M j i * if j = p then 0 else y j) (l₁ := P1.map M) (l₂ := P2.map M))
  have h3 := h2 [] R
  rw [List.nil_append, List.nil_append, dt_hang hu R] at h3
  rw [h1, h3, List.map_append, List.map_cons]
  grind
end
end Go.Proofs.YtlbhmoiicbhgkaaDoor
