/-
  Rows of the call's own beside several disks.
-/
import Derived.Test.YthllhnjbddpeoaaDkV
namespace Go.Proofs.Ythllhnjbddpeoaa
open Go.ChangeShapes Go.WideShapes Go.ChangeAt Go.RowKit Go.Maps Go.Shelf Go.Proofs

theorem elt_bool : Elt Try.prog 33 4 (.bool false) 1 := Elt.of Try.underlying33 (by kernel_rfl) rfl
theorem ownsRow_keep {w w' : World} {base size n : Nat} {u : Value} {e : TypeId} {xs : List Value} (h : w.ownsRow base e size u n xs) (hk : ∀ g, u.ownBlock = some g → w'.heap[g]? = w.heap[g]?) : w'.ownsRow base e size u n xs := by
  refine ⟨h.1, ?_⟩
  rcases h.2 with hn | ⟨b, cap, cur, rfl, hb, hg, rest⟩
  · exact .inl hn
  · exact .inr ⟨b, cap, cur, rfl, hb, (hk b rfl).trans hg, rest⟩
theorem ownsRow_below {w w' : World} {base size n : Nat} {u : Value} {e : TypeId} {xs : List Value} (h : w.ownsRow base e size u n xs) (hb : Below w.heap.size w w') : w'.ownsRow base e size u n xs :=
  ownsRow_keep h fun g hg => hb.block g (World.ownsRow.lt h g hg).2
theorem Many.grown {w0 w w' : World} {L : List Hd} (h : Many w0 w L) {base size n : Nat} {u : Value} {e : TypeId} {xs : List Value} (hr : w.ownsRow base e size u n xs) (hbase : w0.heap.size ≤ base) (hg : w.grownBy w' u.ownBlock) (h1 : e ≠ 85) (h2 : e ≠ 80) : Many w0 w' L := by
  have hne : ∀ (i : Nat) (X : Hd), L[i]? = some X → ∀ b, X.Feet b → some b ≠ u.ownBlock := fun i X hx b hb e1 => by
    rcases hr.2 with ⟨rfl, _⟩ | ⟨g, cap, cur, rfl, _, h3, _⟩
    · cases e1
    · simp only [Value.ownBlock, Option.some.injEq] at e1
      subst e1
      have := (h.lies i X hx).ne_cells h3 h1 h2
      rcases hb with hb | hb | hb
      · exact this.1 hb
      · exact this.2.1 hb
      · exact this.2.2 hb
  refine ⟨h.b.grown hg h.b.size fun k e => Nat.le_trans hbase (World.ownsRow.lt hr k e).1, fun i X hx => ?_, h.base, h.apart⟩
  have hl := h.lies i X hx
  exact hl.keep (hg.block _ hl.lt.1 (hne i X hx _ (.inl rfl))) (hg.block _ hl.lt.2.1 (hne i X hx _ (.inr (.inl rfl)))) fun b hb => hg.block _ (hl.vlt hb).1 (hne i X hx _ (.inr (.inr hb)))
theorem cellsS_new (w : World) (x : St) : CellsS (w.alloc (.cells (scl x).toArray 35)) (some ⟨w.heap.size, 0, none⟩) [x] := by
  have h := (row1_new w (scl x) 35).cells
  unfold CellsS
  rw [List.flatMap_cons, List.flatMap_nil, List.append_nil]
  exact h
theorem Own.cells_of {w : World} {base n c : Nat} {e : TypeId} {A : Option Addr} {xs : List Value} (h : Own w base e (.slice A n c) xs) : Cells w A xs := by
  obtain ⟨A', c', e, hc⟩ := h.form
  injection e with e1 e2 e3
  subst e1
  exact hc
theorem cellsS_of {w : World} {base n c : Nat} {A : Option Addr} {l : List St} (h : w.ownsRow base 35 5 (.slice A n c) l.length (l.flatMap scl)) : CellsS w A l := by
  obtain ⟨A', c', e, hc⟩ := cellsSt_of h
  injection e with e1 e2 e3
  subst e1
  exact hc
theorem withC_ok {d : Dk} {m : Nat} {l : List St} (h : d.Ok m) (hl : ∀ u ∈ l, okS u = true) : (withC d l).Ok (m + l.length) := by
  refine ⟨h.P, ⟨fun p hp => ?_, fun p hp => ?_⟩, h.le, h.fuse, ?_⟩
  · obtain ⟨u, hu, rfl⟩ := List.mem_map.1 hp
    have := hl u hu
    simp only [okS, Bool.and_eq_true] at this
    exact this.1
  · obtain ⟨u, hu, rfl⟩ := List.mem_map.1 hp
    have := hl u hu
    simp only [okS, Bool.and_eq_true, decide_eq_true_eq] at this
    exact pad_size this.2
  · have := h.len
    simp only [List.length_map]
    omega
theorem withC_nil {d : Dk} (h : d.C = []) : withC d [] = d := by
  cases d
  simp only at h
  subst h
  rfl
end Go.Proofs.Ythllhnjbddpeoaa
