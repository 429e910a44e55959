/-
  Where queries of a row lie, and two of them that change places.
-/
import Derived.Test.YtpdgalclnlbeaaaDoorAdmQ1
import Derived.Test.YtpdgalclnlbeaaaDoorAdmQ2
import Derived.Test.YtpdgalclnlbeaaaDoorAdmQ3
import Derived.Test.YtpdgalclnlbeaaaDoorAdmQ4
import Derived.Test.YtpdgalclnlbeaaaDoorAdmQ5
import Derived.Test.YtpdgalclnlbeaaaDoorAdmQ6
import Derived.Test.YtpdgalclnlbeaaaDoorAdmQ7
import Derived.Test.YtpdgalclnlbeaaaDoorAdmQ8
import Derived.Test.YtpdgalclnlbeaaaDoorAsH
namespace Go.Proofs.YtpdgalclnlbeaaaDoor
open Go Go.RowKit Go.Maps Go.Shelf Go.Proofs

/-- queries lie one behind the other from the start of block g. -/
structure LiesA (w : World) (g : Nat) (vs : List AskV) (L : List Ask) : Prop where
  len : vs.length = L.length
  cell : ∀ j u, (vs.flatMap acl)[j]? = some u → w.cell? ⟨g, j, none⟩ = some u
  row : ∀ (i : Nat) (u : AskV) (a : Ask), vs[i]? = some u → L[i]? = some a → u.id = a.id ∧ RowT w 2 u.v (a.x.map (.int .i64))
theorem OwnA.lies {w : World} {base g cap n : Nat} {L : List Ask} (h : OwnA w base (.slice (some ⟨g, 0, none⟩) n cap) L) : ∃ vs, LiesA w g vs L := by
  obtain ⟨vs, h1, h2, h3⟩ := h
  refine ⟨vs, h2, fun j u hu => ?_, h3⟩
  have := World.ownsRow.cells (w := w) h1 (g := g) rfl j u hu
  rwa [Addr.add_lit, Nat.zero_add] at this
section
variable {w w' : World} {g : Nat} {vs : List AskV} {L : List Ask}
theorem LiesA.below (h : LiesA w g vs L) (hb : Below w.heap.size w w') : LiesA w' g vs L :=
  ⟨h.len, fun j u hu => (hb.cell (lt_of_cell (h.cell j u hu))).trans (h.cell j u hu), fun i u a hu ha => ⟨(h.row i u a hu ha).1, (h.row i u a hu ha).2.below hb⟩⟩
theorem LiesA.drop_len (h : LiesA w g vs L) (K : Nat) : (vs.drop K).length = (L.drop K).length := by rw [List.length_drop, List.length_drop, h.len]
theorem LiesA.take_len (h : LiesA w g vs L) (K : Nat) : (vs.take K).length = (L.take K).length := by rw [List.length_take, List.length_take, h.len]
theorem LiesA.drop_cell (h : LiesA w g vs L) (K : Nat) : ∀ j u, ((vs.drop K).flatMap acl)[j]? = some u → w.cell? ((⟨g, K * 2, none⟩ : Addr).add j) = some u := fun j u hu => by
  rw [flatA_drop, List.getElem?_drop] at hu
  rw [Addr.add_lit]
  exact h.cell _ u hu
theorem LiesA.take_cell (h : LiesA w g vs L) (K : Nat) : ∀ j u, ((vs.take K).flatMap acl)[j]? = some u → w.cell? ((⟨g, 0, none⟩ : Addr).add j) = some u := fun j u hu => by
  rw [flatA_take, List.getElem?_take] at hu
  rw [Addr.add_lit, Nat.zero_add]
  split at hu
  · exact h.cell _ u hu
  · cases hu
theorem LiesA.drop_row (h : LiesA w g vs L) (K : Nat) : ∀ (i : Nat) (u : AskV) (a : Ask), (vs.drop K)[i]? = some u → (L.drop K)[i]? = some a → u.id = a.id ∧ RowT w 2 u.v (a.x.map (.int .i64)) := fun i u a hu ha => by
  rw [List.getElem?_drop] at hu ha
  exact h.row _ u a hu ha
theorem LiesA.take_row (h : LiesA w g vs L) (K : Nat) : ∀ (i : Nat) (u : AskV) (a : Ask), (vs.take K)[i]? = some u → (L.take K)[i]? = some a → u.id = a.id ∧ RowT w 2 u.v (a.x.map (.int .i64)) := fun i u a hu ha => by
  rw [List.getElem?_take] at hu ha
  split at hu
  · rename_i hi
    rw [if_pos hi] at ha
    exact h.row _ u a hu ha
  · cases hu
end
/-- a query's cells are written; rows stay. -/
theorem OwnA.first {w : World} {base g cap n : Nat} {M : List Ask} (h : OwnA w base (.slice (some ⟨g, 0, none⟩) n cap) M) (hn : M.length = n) (i : Nat) {a : Ask} {u : Value} (hu : RowT w 2 u (a.x.map (.int .i64))) :
    OwnA ((w.setCell ⟨g, i * 2, none⟩ (.int .i64 a.id)).setCell ⟨g, i * 2 + 1, none⟩ u) base (.slice (some ⟨g, 0, none⟩) n cap) (M.set i a) ∧
      ∀ (y : Value) (xs : List Value), RowT w 2 y xs → RowT ((w.setCell ⟨g, i * 2, none⟩ (.int .i64 a.id)).setCell ⟨g, i * 2 + 1, none⟩ u) 2 y xs := by
  subst hn
  refine ⟨h.set_ i hu, fun y xs hy => ?_⟩
  have h0 := h
  obtain ⟨vs, h1, h2, h3⟩ := h
  obtain ⟨q1, k1⟩ := World.ownsRow.stored h1 (i * 2) (.int .i64 a.id)
  obtain ⟨q2, k2⟩ := World.ownsRow.stored q1 (i * 2 + 1) u
  have hk : w.grownBy ((w.setCell ⟨g, i * 2, none⟩ (.int .i64 a.id)).setCell ⟨g, i * 2 + 1, none⟩ u) (some g) := ⟨k2.os.trans k1.os, k2.tape.trans k1.tape, k2.output.trans k1.output, Nat.le_trans k1.size k2.size, fun k h4 h5 => (k2.block k (Nat.lt_of_lt_of_le h4 k1.size) h5).trans (k1.block k h4 h5)⟩
  exact h0.rowKept hk hy
theorem Below.set2 {w0 w : World} {g i j : Nat} {u v : Value} (h : Below w0.heap.size w0 w) (hg : w0.heap.size ≤ g) : Below w0.heap.size w0 ((w.setCell ⟨g, i, none⟩ u).setCell ⟨g, j, none⟩ v) :=
  (h.setCell (p := ⟨g, i, none⟩) hg _).setCell (p := ⟨g, j, none⟩) hg _
theorem Dr.set_ {w w' : World} (h : Dr w w') (p : Addr) (u : Value) : Dr (w.setCell p u) (w'.setCell p u) := by
  obtain ⟨n, rfl⟩ := h
  exact ⟨n, rfl⟩
/-- while the numbers are written as IDs. -/
def NumI (p : Par) (l : List Ask) (w5 wr : World) (g cap k : Nat) : Prop :=
  ∃ L, IdK l k L ∧ OwnA wr w5.heap.size (.slice (some ⟨g, 0, none⟩) l.length cap) L ∧ Below w5.heap.size w5 wr ∧ ∀ a ∈ l.take k, queryE p a.x = 0
/-- the ID is written, the query not asked yet. -/
def NumJ (p : Par) (l : List Ask) (w5 wr : World) (g cap k : Nat) : Prop :=
  ∃ L, IdK l (k + 1) L ∧ OwnA wr w5.heap.size (.slice (some ⟨g, 0, none⟩) l.length cap) L ∧ Below w5.heap.size w5 wr ∧ ∀ a ∈ l.take k, queryE p a.x = 0
section
variable {p : Par} {l : List Ask} {w5 wr w' : World} {g cap k : Nat} {a : Ask}
theorem NumI.at_ (h : NumI p l w5 wr g cap k) (hg : w5.heap.size ≤ g) (ha : l[k]? = some a) :
    (∃ u, wr.cell? ⟨g, k * 2, none⟩ = some u) ∧ wr.frozen? ⟨g, k * 2, none⟩ = false ∧ NumJ p l w5 (wr.setCell ⟨g, k * 2, none⟩ (.int .i64 ((k : Int) + 1))) g cap k := by
  obtain ⟨L, hL, hO, hbl, hq⟩ := h
  obtain ⟨Ax, cx, hc0, _, _, hf0, _⟩ := hO.at_ (hL.at_ ha)
  refine ⟨⟨_, hc0⟩, hf0, L.set k ⟨(k : Int) + 1, a.x⟩, hL.step ha, ?_, hbl.setCell (p := ⟨g, k * 2, none⟩) hg _, hq⟩
  rw [← hL.1]
  rw [← hL.1] at hO
  exact hO.setId (hL.at_ ha) _
theorem NumJ.below (h : NumJ p l w5 wr g cap k) (hb : Below wr.heap.size wr w') : NumJ p l w5 w' g cap k := by
  obtain ⟨L, hL, hO, hbl, hq⟩ := h
  exact ⟨L, hL, hO.below hb, below_next hbl hbl.size hb, hq⟩
theorem NumJ.b (h : NumJ p l w5 wr g cap k) : Below w5.heap.size w5 wr := by
  obtain ⟨L, hL, hO, hbl, hq⟩ := h
  exact hbl
theorem NumJ.row (h : NumJ p l w5 wr g cap k) (ha : l[k]? = some a) : ∃ A c, wr.cell? ⟨g, k * 2 + 1, none⟩ = some (.slice A a.x.length c) ∧ Cells wr A (a.x.map (.int .i64)) := by
  obtain ⟨L, hL, hO, hbl, hq⟩ := h
  have h2 := hL.2 k a ha
  rw [if_pos (by omega)] at h2
  obtain ⟨Ax, cx, _, hc1, hr, _, _⟩ := hO.at_ h2
  obtain ⟨A, c, e, hc, _⟩ := hr.form
  injection e with e1 e2 e3
  subst e1
  exact ⟨Ax, cx, hc1, hc⟩
theorem NumJ.next (h : NumJ p l w5 wr g cap k) (ha : l[k]? = some a) (h0 : queryE p a.x = 0) : NumI p l w5 wr g cap (k + 1) := by
  obtain ⟨L, hL, hO, hbl, hq⟩ := h
  refine ⟨L, hL, hO, hbl, fun b hb => ?_⟩
  rw [List.take_add_one, ha] at hb
  rcases List.mem_append.1 hb with hb | hb
  · exact hq b hb
  · rw [List.mem_singleton.1 hb]; exact h0
end
/-- while queries change places. -/
def TurnI (L : List Ask) (w6 wr : World) (g cap n : Nat) : Prop := ∃ M, M.Perm L ∧ OwnA wr w6.heap.size (.slice (some ⟨g, 0, none⟩) n cap) M ∧ Below w6.heap.size w6 wr
end Go.Proofs.YtpdgalclnlbeaaaDoor
