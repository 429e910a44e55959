/-
  The examples of the layer of polynomials of two: they hold; a row's value is a column's.
-/
import Derived.Test.YtnmadmcegdpecaaBThr
import Derived.Test.YtnmadmcegdpecaaLit
import Derived.Test.YtnmadmcegdpecaaBivD
import Derived.Test.YtnmadmcegdpecaaCmp
namespace Go.Proofs.Ytnmadmcegdpecaa
open Go.RowKit

attribute [local go_sem] Oper.semAt_some

/-! ### The value at two places, by rows -/
theorem ev_pad (l : List Int) (W : Nat) (y : Int) (h : l.length ≤ W) : ev ((List.range W).map fun j => l.getD j 0) y = ev l y := by
  have e : ((List.range W).map fun j => l.getD j 0) = l ++ List.replicate (W - l.length) 0 := by
    apply List.ext_getElem?
    intro i
    rw [List.getElem?_map]
    rcases Nat.lt_or_ge i W with h1 | h1
    · rw [List.getElem?_range h1, Option.map_some, List.getD_eq_getElem?_getD]
      rcases Nat.lt_or_ge i l.length with h2 | h2
      · rw [List.getElem?_append_left h2, List.getElem?_eq_getElem h2]; rfl
      · rw [List.getElem?_append_right h2, List.getElem?_replicate, if_pos (by omega), List.getElem?_eq_none h2]; rfl
    · rw [List.getElem?_eq_none (by simpa using h1), List.getElem?_eq_none (by simp; omega)]; rfl
  have e0 : ∀ m, ev (List.replicate m 0) y = 0 := by
    intro m
    induction m with
    | zero => rfl
    | succ m ih => rw [List.replicate_succ, ev_cons, ih]; simp
  rw [e, ev_append, e0]; simp
theorem ev_two (a b : Nat → Int) (x y : Int) : ∀ (l : List Nat), ev (l.map fun j => a j + x * b j) y = ev (l.map a) y + x * ev (l.map b) y
  | [] => by simp [ev]
  | j :: l => by simp only [List.map_cons, ev_cons, ev_two a b x y l]; grind
theorem rows_cols (x y : Int) (W : Nat) : ∀ (f : List (List Int)), (∀ l ∈ f, l.length ≤ W) → ev ((List.range W).map fun j => ev (colJ f j) x) y = ev (f.map fun l => ev l y) x
  | [], _ => by
    have := ev_pad [] W y (by simp)
    simpa [colJ, ev] using this
  | l :: f, h => by
    have e : ((List.range W).map fun j => ev (colJ (l :: f) j) x) = (List.range W).map fun j => l.getD j 0 + x * ev (colJ f j) x := by
      apply List.map_congr_left
      intro j _
      simp only [colJ, List.map_cons, ev_cons]
    rw [e, ev_two, ev_pad l W y (h l (List.mem_cons_self ..)), rows_cols x y W f fun l' h' => h l' (List.mem_cons_of_mem _ h'), List.map_cons, ev_cons]
theorem cross_val (f : List (List Int)) (x y q : Int) : mEval (mRow f x q) y q = mAt f x y q := by
  unfold mAt
  by_cases hq : okm q = true
  · rw [mEval_ok hq, mEval_ok hq]
    have h1 : (mRow f x q).map (· % q) = ((List.range (wide f)).map fun j => ev (colJ f j) x).map (· % q) := by
      unfold mRow
      rw [List.map_map, List.map_map]
      apply List.map_congr_left
      intro j _
      simp [mEval_ok hq]
    have h2 : (mCol f y q).map (· % q) = (f.map fun l => ev l y).map (· % q) := by
      unfold mCol
      rw [List.map_map, List.map_map]
      apply List.map_congr_left
      intro j _
      simp [mEval_ok hq]
    rw [ev_congr rfl h1, ev_congr rfl h2, rows_cols x y (wide f) f fun l hl => le_wide hl]
  · rw [mEval_no (by simpa using hq), mEval_no (by simpa using hq)]
theorem turned_col (f : List (List Int)) (x q : Int) : mCol (turnedF f) x q = mRow f x q := by
  unfold mCol turnedF mRow
  rw [List.map_map]; rfl
theorem turned_at (f : List (List Int)) (x y q : Int) : mAt (turnedF f) y x q = mAt f x y q := by
  rw [← cross_val f x y q, mAt, turned_col]

/-! ### At given numbers -/
theorem bVal_eval {xs : List Int} {f : List (List Int)} {q : Int} (ivs : List Int) (h : unitsB xs q ivs = true) (hl : xs.length = f.length) : bErr xs f q = 0 ∧ bVal xs f q = (List.range xs.length).map fun i => (List.range (wide f)).map fun j => (pOutC xs (colJ f j) q ivs xs.length).getD i 0 := by
  obtain ⟨_, _, h1, _⟩ := units_ok h
  have he : bErr xs f q = 0 := by unfold bErr; rw [if_pos hl, h1]
  refine ⟨he, ?_⟩
  unfold bVal bPart
  rw [if_pos he]
  apply List.map_congr_left
  intro i _
  apply List.map_congr_left
  intro j _
  rw [(tVal_eval (ys := colJ f j) ivs h (by rw [colJ_len, hl])).2]
theorem ex_w1 : bErr [1, 2] [[4, 6], [7, 10]] 11 = 0 := (bVal_eval (xs := [1, 2]) (f := [[4, 6], [7, 10]]) (q := 11) [10, 1] (by decide) rfl).1
theorem ex_w1v : bVal [1, 2] [[4, 6], [7, 10]] 11 = [[1, 2], [3, 4]] := by rw [(bVal_eval (xs := [1, 2]) (f := [[4, 6], [7, 10]]) (q := 11) [10, 1] (by decide) rfl).2]; decide
theorem ex_w2 : bErr [1, 12] [[4, 6], [7, 10]] 11 = 6 := by
  have h1 : eUnlike [1, 12] 11 = 6 := by decide
  unfold bErr
  rw [if_pos (by decide), eAll_bad (by rw [h1]; decide), h1]
theorem ex_w3 : bErr [1, 2] [[4]] 11 = 1 := by unfold bErr; rw [if_neg (by decide)]

/-- lists that have just been laid. -/
theorem grid_of {w : World} {A : Option Addr} (rows : List (Nat × List Int)) (hA : Cells w A (rows.map fun r => Value.slice (some ⟨r.1, 0, none⟩) r.2.length r.2.length)) (hl : ∀ r ∈ rows, r.2.length ≤ 9223372036854775807) (hr : ∀ r ∈ rows, Row1 w r.1 23 (r.2.map (.int .u64))) : Grid w A (rows.map Prod.snd) := by
  refine ⟨_, hA, by simp, fun i l hi => ?_⟩
  rw [List.getElem?_map] at hi
  cases h : rows[i]? with
  | none => rw [h] at hi; cases hi
  | some r =>
    rw [h] at hi
    obtain rfl := Option.some.inj hi
    have hm := List.mem_of_getElem? h
    exact ⟨_, by rw [List.getElem?_map, h]; rfl, _, _, rfl, (hr r hm).cells, hl r hm⟩
theorem grid_two {w : World} {g g1 g2 : Nat} (l1 l2 : List Int) (hO : Row1 w g 26 [.slice (some ⟨g1, 0, none⟩) l1.length l1.length, .slice (some ⟨g2, 0, none⟩) l2.length l2.length]) (h1 : Row1 w g1 23 (l1.map (.int .u64))) (h2 : Row1 w g2 23 (l2.map (.int .u64))) (n1 : l1.length ≤ 1000) (n2 : l2.length ≤ 1000) : Grid w (some ⟨g, 0, none⟩) [l1, l2] :=
  grid_of [(g1, l1), (g2, l2)] hO.cells (by simp; omega) (by simp [h1, h2])
theorem grid_one {w : World} {g g1 : Nat} (l1 : List Int) (hO : Row1 w g 26 [.slice (some ⟨g1, 0, none⟩) l1.length l1.length]) (h1 : Row1 w g1 23 (l1.map (.int .u64))) (n1 : l1.length ≤ 1000) : Grid w (some ⟨g, 0, none⟩) [l1] :=
  grid_of [(g1, l1)] hO.cells (by simp; omega) (by simp [h1])
theorem words_of {f : List (List Int)} (h : (f.all fun l => l.all fun z => decide (0 ≤ z) && decide (z < 18446744073709551616)) = true) : Words f := by
  intro l hl z hz
  have := List.all_eq_true.1 (List.all_eq_true.1 h l hl) z hz
  simp only [Bool.and_eq_true, decide_eq_true_eq] at this
  exact this

theorem RowsR.grid {w : World} {base : Nat} {v : Value} {F : List (List Int)} (h : RowsR w base v F) (hl : F.length ≤ 1000000) : ∃ A c, v = .slice A F.length c ∧ Grid w A F := by
  rcases h with ⟨rfl, rfl⟩ | ⟨go, D, vs, rfl, h1, h2, _, h3⟩
  · exact ⟨none, 0, rfl, [], .inl rfl, rfl, fun i l h => by simp at h⟩
  · have h9 := h3.ownRows h1 h2 (by omega)
    obtain ⟨A, c, he, hg, _⟩ := OwnRows.grid (f := F) h9
    exact ⟨A, c, he, hg⟩

end Go.Proofs.Ytnmadmcegdpecaa
