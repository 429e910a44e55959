/-
  What lies in memory, as a list; new blocks named one by one while a literal is built. (No program in sight.)
-/
import Derived.Test.YtgdfphcggjclkaaDoorCore
namespace Go.Proofs.YtgdfphcggjclkaaDoor
open Go.RowKit

/-- blocks that are known whole (F: for long; L: the newest ahead), and that nothing but new blocks has come since w0. -/
structure Bun (w0 w : World) (F L : List (Nat × TypeId × List Value)) : Prop where
  b : Below w0.heap.size w0 w
  old : ∀ x ∈ F, Row1 w x.1 x.2.1 x.2.2
  rows : ∀ x ∈ L, Row1 w x.1 x.2.1 x.2.2
section
variable {w0 w w' : World} {F L L' : List (Nat × TypeId × List Value)}
theorem Bun.nil (w : World) : Bun w w [] [] := ⟨Below.refl _ _, (fun x h => by cases h), (fun x h => by cases h)⟩
theorem Bun.of (h : Below w0.heap.size w0 w) : Bun w0 w [] [] := ⟨h, (fun x h => by cases h), (fun x h => by cases h)⟩
theorem Bun.more (h : Bun w0 w F L) (hb : Below w.heap.size w w') : Bun w0 w' F L := ⟨below_next h.b h.b.size hb, fun x hx => (h.old x hx).below hb, fun x hx => (h.rows x hx).below hb⟩
theorem Bun.row (h : Bun w0 w F L) {i g : Nat} {e : TypeId} {xs : List Value} (hi : L[i]? = some (g, e, xs)) : Row1 w g e xs := h.rows _ (List.mem_of_getElem? hi)
theorem Bun.fix (h : Bun w0 w F L) {i g : Nat} {e : TypeId} {xs : List Value} (hi : F[i]? = some (g, e, xs)) : Row1 w g e xs := h.old _ (List.mem_of_getElem? hi)
theorem Bun.drop (h : Bun w0 w F L) : Bun w0 w F [] := ⟨h.b, h.old, fun x hx => by cases hx⟩
theorem Bun.keep (h : Bun w0 w F L) : Bun w0 w (L ++ F) [] := ⟨h.b, fun x hx => (List.mem_append.1 hx).elim (h.rows x) (h.old x), fun x hx => by cases hx⟩
theorem Bun.alloc (h : Bun w0 w F L) (xs : List Value) (e : TypeId) : Bun w0 (w.alloc (.cells xs.toArray e)) F ((w.heap.size, e, xs) :: L) :=
  ⟨below_next h.b h.b.size (below_alloc w _), fun x hx => (h.old x hx).alloc _, fun x hx => by
    rcases List.mem_cons.1 hx with rfl | hx
    · exact row1_new w xs e
    · exact (h.rows x hx).alloc _⟩
end
def isStore : Op → Bool
  | .store .. => true
  | _ => false
/-- the block that was laid last gets a name (behind its store). -/
theorem wpList_named {P : Program} {w0 w : World} {F L : List (Nat × TypeId × List Value)} (hB : Bun w0 w F L) {ops : Array Oper} {o : Oper} {rest : List Oper} {a : Act} {Q : Exit → Act → World → Prop} {xs : List Value} {e : TypeId} (_ : isStore o.op = false)
    (h : ∀ w' g, Bun w0 w' F ((g, e, xs) :: L) → Below w.heap.size w w' → w.heap.size = g → wpList P ops Q (o :: rest) a w') : wpList P ops Q (o :: rest) a (w.alloc (.cells xs.toArray e)) :=
  h _ _ (hB.alloc xs e) (below_alloc w _) rfl
theorem code_named {P : Program} {w0 w : World} {F L : List (Nat × TypeId × List Value)} (hB : Bun w0 w F L) {c : Code} {a : Act} {Q : Exit → Act → World → Prop} {xs : List Value} {e : TypeId}
    (h : ∀ w' g, Bun w0 w' F ((g, e, xs) :: L) → Below w.heap.size w w' → w.heap.size = g → Code.wp P c Q a w') : Code.wp P c Q a (w.alloc (.cells xs.toArray e)) :=
  h _ _ (hB.alloc xs e) (below_alloc w _) rfl
/-- rows of equal length, one behind the other. -/
theorem flat_at {α : Type} (h : α → List Value) (n : Nat) (hn : ∀ t, (h t).length = n) : ∀ (l : List α) (k i : Nat), i < n → (l.flatMap h)[k * n + i]? = (l[k]?).bind fun t => (h t)[i]?
  | [], k, i, _ => by simp
  | t :: l, 0, i, hi => by
    rw [List.flatMap_cons, Nat.zero_mul, Nat.zero_add, List.getElem?_append_left (by rw [hn]; exact hi)]
    rfl
  | t :: l, k + 1, i, hi => by
    rw [List.flatMap_cons, List.getElem?_append_right (by rw [hn, Nat.succ_mul]; omega), hn, show (k + 1) * n + i - n = k * n + i by rw [Nat.succ_mul]; omega, flat_at h n hn l k i hi]
    rfl

end Go.Proofs.YtgdfphcggjclkaaDoor
