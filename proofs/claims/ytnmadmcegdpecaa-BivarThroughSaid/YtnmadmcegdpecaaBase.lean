/-
  Plain words on slices: what cells a slice reads as.
-/
import Derived.Test.YtnmadmcegdpecaaNum
namespace Go.Proofs.Ytnmadmcegdpecaa
open Go.RowKit

/-- the slice at A reads as these values, one cell each. -/
def Cells (w : World) (A : Option Addr) (xs : List Value) : Prop :=
  xs = [] ∨ ∃ b off, A = some ⟨b, off, none⟩ ∧ ∀ i u, xs[i]? = some u → w.cell? ⟨b, off + i, none⟩ = some u

theorem Cells.nil (w : World) (A : Option Addr) : Cells w A [] := .inl rfl

theorem lt_of_cell {w : World} {a : Addr} {u : Value} (h : w.cell? a = some u) : a.block < w.heap.size := World.block_lt_of_cell? w a h

theorem Cells.keep {w w' : World} {A : Option Addr} {xs : List Value} (h : Cells w A xs) (hk : ∀ p : Addr, p.block < w.heap.size → w'.cell? p = w.cell? p) : Cells w' A xs := by
  rcases h with h | ⟨b, off, rfl, h⟩
  · exact .inl h
  · exact .inr ⟨b, off, rfl, fun i u hu => (hk _ (lt_of_cell (h i u hu))).trans (h i u hu)⟩
theorem Cells.below {w w' : World} {A : Option Addr} {xs : List Value} (h : Cells w A xs) (hb : Below w.heap.size w w') : Cells w' A xs := h.keep fun _ hp => hb.cell hp
theorem Cells.drewN {w : World} {A : Option Addr} {xs : List Value} (h : Cells w A xs) (n : Nat) : Cells (w.drewN n) A xs := h
theorem Cells.dr {w w' : World} {A : Option Addr} {xs : List Value} (h : Cells w A xs) (hd : Dr w w') : Cells w' A xs := by
  obtain ⟨n, rfl⟩ := hd; exact h
theorem Cells.at_ {w : World} {A : Option Addr} {xs : List Value} (h : Cells w A xs) {k : Nat} {u : Value} (hk : xs[k]? = some u) :
    ∃ b off, A = some ⟨b, off, none⟩ ∧ w.cell? ⟨b, off + k, none⟩ = some u := by
  rcases h with h | ⟨b, off, rfl, h⟩
  · subst h; simp at hk
  · exact ⟨b, off, rfl, h k u hk⟩
theorem Cells.at_map {w : World} {A : Option Addr} {α : Type} {f : α → Value} {l : List α} (h : Cells w A (l.map f)) {k : Nat} {x : α} (hk : l[k]? = some x) :
    ∃ b off, A = some ⟨b, off, none⟩ ∧ w.cell? ⟨b, off + k, none⟩ = some (f x) := h.at_ (by simp [hk])

theorem get_of_lt {α : Type} {l : List α} {k : Nat} (h : k < l.length) : ∃ x, l[k]? = some x := ⟨_, List.getElem?_eq_getElem h⟩

abbrev u64 (x : Int) : Value := .int .u64 x

end Go.Proofs.Ytnmadmcegdpecaa
