/-
  AdmitNames: two lists of unlike lengths, or of none, held against one another; the table; the lists of many.
-/
import Derived.Test.YtmmmdidbnjcooaaDoorAdG
namespace Go.Proofs.YtmmmdidbnjcooaaDoor
open Go Go.RowKit Go.Maps Go.Shelf Go.Proofs

attribute [local go_sem] Oper.semAt_some

set_option maxRecDepth 100000 in
theorem asame_none (c c2 : Nat) (A : Option Addr) (w : World) : Calls Tryd.prog 36 #[.slice none 0 c, .slice A 0 c2] w fun e w' => e = .returned (.bool true) ∧ Dr w w' := by
  go_enter Tryd.func36, Tryd.ntmps36
  go_wp2
  go_loopw [17] (fun i wr => i = .int .i64 0 ∧ Dr w wr) (fun i _ => 0)
  case atStart => exact ⟨rfl, Dr.refl _⟩
  case round =>
    obtain ⟨rfl, hd⟩ := hrel
    go_wp2
    go_ret
    exact ⟨rfl, hd⟩
set_option maxRecDepth 100000 in
theorem asame_no (A B : Option Addr) (n m c d : Nat) (w : World) (hne : n ≠ m) : Calls Tryd.prog 36 #[.slice A n c, .slice B m d] w fun e w' => e = .returned (.bool false) ∧ Dr w w' := by
  have h1 : ((n : Int) != (m : Int)) = true := by simp; omega
  go_enter Tryd.func36, Tryd.ntmps36
  go_wp2
  go_ret
  exact ⟨rfl, Dr.refl _⟩

abbrev oneL : List Ask := [⟨1, [1, 0]⟩]
/-- the table: an ID, entries, what is told. -/
structure TabE where
  id : Int
  x : List Int
  e : Int
abbrev tabE : List TabE := [⟨2, [4, 0], 20⟩, ⟨0, [1, 0], 4⟩, ⟨-1, [1, 0], 4⟩, ⟨1099511627777, [1, 0], 4⟩, ⟨1099511627776, [1, 0], 0⟩, ⟨2, [1], 4⟩, ⟨2, [], 4⟩, ⟨0, [4, 0], 4⟩, ⟨1, [4, 0], 20⟩, ⟨1, [0, 3], 6⟩]
theorem tab_q : ∀ t ∈ tabE, queryP pEx oneL t.id t.x = t.e := by
  intro t ht
  rw [queryP_C]
  have h : (tabE.all fun t => decide (queryC pEx oneL t.id t.x = t.e)) = true := by decide +kernel
  exact of_decide_eq_true (List.all_eq_true.1 h t ht)
theorem tab_ok : ∀ t ∈ tabE, I64 t.id ∧ I64s t.x ∧ t.x.length ≤ 2 ∧ 0 ≤ t.e ∧ t.e < 100 := by
  intro t ht
  have h : (tabE.all fun t => decide (-9223372036854775808 ≤ t.id ∧ t.id < 9223372036854775808) && (t.x.all fun n => decide (-9223372036854775808 ≤ n) && decide (n < 9223372036854775808)) && decide (t.x.length ≤ 2) && decide (0 ≤ t.e ∧ t.e < 100)) = true := by decide +kernel
  have := List.all_eq_true.1 h t ht
  simp only [Bool.and_eq_true, decide_eq_true_eq] at this
  exact ⟨this.1.1.1, i64s_of this.1.1.2, this.1.2, this.2⟩
abbrev tcl (t : TabE) (v : Value) : List Value := [.int .i64 t.id, v, .int .i64 t.e]
/-- the table lies here. -/
def TabAt (w : World) (g : Nat) : Prop := ∀ (k : Nat) (t : TabE), tabE[k]? = some t → ∃ A c, w.cell? ⟨g, k * 3, none⟩ = some (.int .i64 t.id) ∧ w.cell? ⟨g, k * 3 + 1, none⟩ = some (.slice A t.x.length c) ∧ w.cell? ⟨g, k * 3 + 2, none⟩ = some (.int .i64 t.e) ∧ Cells w A (t.x.map (.int .i64))
theorem TabAt.below {w w' : World} {g : Nat} (h : TabAt w g) (hb : Below w.heap.size w w') : TabAt w' g := by
  intro k t hk
  obtain ⟨A, c, h1, h2, h3, h4⟩ := h k t hk
  exact ⟨A, c, (hb.cell (lt_of_cell h1)).trans h1, (hb.cell (lt_of_cell h2)).trans h2, (hb.cell (lt_of_cell h3)).trans h3, h4.below hb⟩

abbrev manyL (k : Nat) : List Ask := (List.range k).map fun (i : Nat) => (⟨(i : Int) + 1, [1, 0]⟩ : Ask)
theorem manyL_succ (k : Nat) : manyL (k + 1) = manyL k ++ [⟨(k : Int) + 1, [1, 0]⟩] := by simp [manyL, List.range_succ]
theorem manyL_len (k : Nat) : (manyL k).length = k := by simp

abbrev pBad : Par := ⟨0, 11, 0, 0, 0, 0, 0, 1, 5, 1, 1, 3⟩
abbrev pOdd : Par := ⟨0, 9, 0, 0, 0, 0, 0, 1, 2, 1, 1, 3⟩
abbrev pZero : Par := ⟨0, 11, 0, 0, 0, 0, 0, 1, 2, 0, 1, 3⟩
abbrev pLess : Par := ⟨0, 11, 0, 0, 0, 0, 0, 1, 2, -1, 1, 3⟩
theorem pBad_ok : pBad.ok := by constructor <;> exact ⟨by decide, by decide⟩
theorem pOdd_ok : pOdd.ok := by constructor <;> exact ⟨by decide, by decide⟩
theorem pZero_ok : pZero.ok := by constructor <;> exact ⟨by decide, by decide⟩
theorem pLess_ok : pLess.ok := by constructor <;> exact ⟨by decide, by decide⟩
theorem an_f1 : followsP pEx twoL [2, -1] = true := by rw [followsP_C]; decide +kernel
theorem an_r0 : rankP pEx [] = 0 := by rw [rankP_C]; decide +kernel
theorem an_1 : queryP pEx (manyL 8) 9 [1, 0] = 41 := by rw [queryP_C]; decide +kernel
theorem an_2 : queryP pEx (manyL 8) 8 [1, 0] = 6 := by rw [queryP_C]; decide +kernel
theorem an_3 : queryP pEx (manyL 7) 8 [1, 0] = 0 := by rw [queryP_C]; decide +kernel
theorem an_4 : queryP pBad [] 1 [1, 0, 0, 0, 0] = 4 := by rw [queryP_C]; decide +kernel
theorem an_5 : rankP pBad twoL = 0 := by rw [rankP_C]; decide +kernel
theorem an_6 : rankP pOdd twoL = 0 := by rw [rankP_C]; decide +kernel
theorem an_7 : followsP pOdd twoL [1, 0] = false := by rw [followsP_C]; decide +kernel
theorem an_8 : queryP pOdd twoL 3 [1, 1] = 0 := by rw [queryP_C]; decide +kernel
theorem an_9 : queryP pZero [] 1 [0, 0] = 22 := by rw [queryP_C]; decide +kernel
theorem an_10 : queryP pLess [] 1 [1, 0] = 22 := by rw [queryP_C]; decide +kernel
end Go.Proofs.YtmmmdidbnjcooaaDoor
