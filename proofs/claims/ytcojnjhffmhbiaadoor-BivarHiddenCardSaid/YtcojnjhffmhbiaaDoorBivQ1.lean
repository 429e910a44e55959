/-
  Parts of these texts that the statement needs: Core, ModB, ShelfB, DivPlain, DivB, MulB, InvB, PrA, RaP.
-/
import Derived.Test.YtcojnjhffmhbiaaDoorRows
import Derived.Test.YtcojnjhffmhbiaaDoorPlain
import Derived.WalkKit
import Derived.WalkSpells
import Derived.WalkLawsBesides
import Derived.Deep.QuietTactic
import Derived.Deep.Upon
import Derived.BigQuiet
import Derived.OwnWalk
import Derived.Maps.AppendAt
import Derived.Shelf.Small.Bits
import Derived.Shelf.Strconv.Itoa0
import Derived.Shelf.Bits.Mul64
import Derived.Shelf.Spec.TrailingZeros
import Derived.Shelf.Lays7
import Derived.Test.YtcojnjhffmhbiaaDoorProg
import Derived.Lib.BitFns
import Derived.Lib.ItoaNum
import Derived.Laws.BitsAllLaws
import Derived.Test.YtcojnjhffmhbiaaDoorPrP
import Derived.Deep.LoopGhost

section
namespace Go.Proofs.YtcojnjhffmhbiaaDoor
open Go.RowKit
theorem hid {p : Prop} (h : p) : Hid p := h
theorem ret_int {k : IntKind} {a b : Int} (h : a = b) : Ending.returned (.int k a) = .returned (.int k b) := by rw [h]
theorem ret_bool {a b : Bool} (h : a = b) : Ending.returned (.bool a) = .returned (.bool b) := by rw [h]
/-- a world behind some draws. -/
def Dr (w w' : World) : Prop := ∃ n, w' = w.drewN n
theorem Dr.refl (w : World) : Dr w w := ⟨0, rfl⟩
theorem Dr.more {w w' : World} (h : Dr w w') (n : Nat) : Dr w (w'.drewN n) := by
  obtain ⟨m, rfl⟩ := h
  exact ⟨_, World.drewN_drewN _ _ _⟩
theorem Dr.cell {w w' : World} (h : Dr w w') (p : Addr) : w'.cell? p = w.cell? p := by
  obtain ⟨m, rfl⟩ := h; rfl
theorem Dr.trans {a b c : World} (h : Dr a b) (k : Dr b c) : Dr a c := by
  obtain ⟨m, rfl⟩ := k
  exact h.more m
/-- the slice at A reads as these values, one cell each. -/
def Cells (w : World) (A : Option Addr) (xs : List Value) : Prop :=
  xs = [] ∨ ∃ b off, A = some ⟨b, off, none⟩ ∧ ∀ i u, xs[i]? = some u → w.cell? ⟨b, off + i, none⟩ = some u
theorem Cells.nil (w : World) (A : Option Addr) : Cells w A [] := .inl rfl
theorem lt_of_cell {w : World} {a : Addr} {u : Value} (h : w.cell? a = some u) : a.block < w.heap.size := World.block_lt_of_cell? w a h
theorem Cells.keep {w w' : World} {A : Option Addr} {xs : List Value} (h : Cells w A xs) (hk : ∀ p : Addr, p.block < w.heap.size → w'.cell? p = w.cell? p) : Cells w' A xs := by
  rcases h with h | ⟨b, off, rfl, h⟩
  · exact .inl h
  · exact .inr ⟨b, off, rfl, fun i u hu => (hk _ (lt_of_cell (h i u hu))).trans (h i u hu)⟩
theorem Cells.below {w w' : World} {A : Option Addr} {xs : List Value} (h : Cells w A xs) (hb : Below w.heap.size w w') : Cells w' A xs := h.keep fun _ hp => hb.cell hp
theorem Cells.drewN {w : World} {A : Option Addr} {xs : List Value} (h : Cells w A xs) (n : Nat) : Cells (w.drewN n) A xs := h
theorem Cells.dr {w w' : World} {A : Option Addr} {xs : List Value} (h : Cells w A xs) (hd : Dr w w') : Cells w' A xs := by
  obtain ⟨n, rfl⟩ := hd; exact h
theorem Cells.at_ {w : World} {A : Option Addr} {xs : List Value} (h : Cells w A xs) {k : Nat} {u : Value} (hk : xs[k]? = some u) :
    ∃ b off, A = some ⟨b, off, none⟩ ∧ w.cell? ⟨b, off + k, none⟩ = some u := by
  rcases h with h | ⟨b, off, rfl, h⟩
  · subst h; simp at hk
  · exact ⟨b, off, rfl, h k u hk⟩
theorem Cells.at_map {w : World} {A : Option Addr} {α : Type} {f : α → Value} {l : List α} (h : Cells w A (l.map f)) {k : Nat} {x : α} (hk : l[k]? = some x) :
    ∃ b off, A = some ⟨b, off, none⟩ ∧ w.cell? ⟨b, off + k, none⟩ = some (f x) := h.at_ (by simp [hk])
theorem get_of_lt {α : Type} {l : List α} {k : Nat} (h : k < l.length) : ∃ x, l[k]? = some x := ⟨_, List.getElem?_eq_getElem h⟩
abbrev u64 (x : Int) : Value := .int .u64 x
/-- what the program's table says of a slice type and of its element type, of one cell. -/
structure Elt (P : Program) (t e : TypeId) (z : Value) (bytes : Nat) : Prop where
  under : P.underlying t = some (.slice e)
  info : ∃ i, P.info? e = some i ∧ i.zero = some z ∧ i.size = 1 ∧ i.bytes = bytes
  one : z.cells.size = 1
  zc : z.cells = #[z]
theorem Elt.of {P : Program} {t e : TypeId} {z : Value} {bytes : Nat} (hu : P.underlying t = some (.slice e)) (hi : (P.info? e).map (fun i => (i.zero, i.size, i.bytes)) = some (some z, 1, bytes)) (hz : z.cells = #[z]) : Elt P t e z bytes :=
  ⟨hu, info_parts hi, by rw [hz]; rfl, hz⟩
/-- v is a slice of this call's own (its block is 'base' or later), of elements of type e, of one cell each. -/
def Own (w : World) (base : Nat) (e : TypeId) (v : Value) (xs : List Value) : Prop := w.ownsRow base e 1 v xs.length xs
section
variable {w w' : World} {base : Nat} {e : TypeId} {v : Value} {xs : List Value}
theorem Own.nil (w : World) (base : Nat) (e : TypeId) : Own w base e (.slice none 0 0) [] := ⟨rfl, .inl ⟨rfl, rfl⟩⟩
theorem Own.block (h : Own w base e v xs) : ∀ g, v.ownBlock = some g → base ≤ g ∧ g < w.heap.size := World.ownsRow.lt h
theorem Own.form (h : Own w base e v xs) : ∃ A cap, v = .slice A xs.length cap ∧ Cells w A xs := by
  rcases h.2 with ⟨rfl, h0⟩ | ⟨g, cap, cur, rfl, hb, hg, hn, hm, hs, ht⟩
  · obtain rfl := List.eq_nil_of_length_eq_zero h0
    exact ⟨none, 0, rfl, .inl rfl⟩
  · refine ⟨_, cap, rfl, .inr ⟨g, 0, rfl, fun i u hu => ?_⟩⟩
    have := World.ownsRow.cells (w := w) h (g := g) rfl i u hu
    have hadd : (⟨g, 0, none⟩ : Addr).add i = ⟨g, 0 + i, none⟩ := by unfold Addr.add; split <;> simp_all
    rwa [hadd] at this
theorem Own.len_le (h : Own w base e v xs) : xs.length ≤ 9223372036854775807 := by
  rcases h.2 with ⟨rfl, h0⟩ | ⟨g, cap, cur, rfl, hb, hg, hn, hm, hs, ht⟩
  · omega
  · unfold maxLen at hm; omega
theorem Own.keep (h : Own w base e v xs) (hk : ∀ g, v.ownBlock = some g → w'.heap[g]? = w.heap[g]?) : Own w' base e v xs := by
  refine ⟨h.1, ?_⟩
  rcases h.2 with hn | ⟨g, cap, cur, rfl, hb, hg, rest⟩
  · exact .inl hn
  · exact .inr ⟨g, cap, cur, rfl, hb, (hk g rfl).trans hg, rest⟩
theorem Own.below (h : Own w base e v xs) (hb : Below w.heap.size w w') : Own w' base e v xs := h.keep fun g hg => hb.block g (h.block g hg).2
theorem Own.dr (h : Own w base e v xs) (hd : Dr w w') : Own w' base e v xs := by
  obtain ⟨n, rfl⟩ := hd; exact h
theorem Own.alloc (h : Own w base e v xs) (o : Obj) : Own (w.alloc o) base e v xs := h.keep fun g hg => Below.heap_alloc w o g (h.block g hg).2
theorem Own.from_ (h : Own w base e v xs) {b : Nat} (hb : b ≤ base) : Own w b e v xs := by
  refine ⟨h.1, ?_⟩
  rcases h.2 with hn | ⟨g, cap, cur, rfl, hg, rest⟩
  · exact .inl hn
  · exact .inr ⟨g, cap, cur, rfl, Nat.le_trans hb hg, rest⟩
end
theorem Dr.size {w w' : World} (h : Dr w w') : w'.heap.size = w.heap.size := by
  obtain ⟨n, rfl⟩ := h; rfl
theorem below_dr {B : Nat} {a w w' : World} (h : Below B a w) (hd : Dr w w') : Below B a w' := by
  obtain ⟨n, rfl⟩ := hd; exact ⟨h.os, h.tape, h.output, h.size, h.block⟩
theorem below_of_dr {B : Nat} {w w' : World} (hd : Dr w w') : Below B w w' := below_dr (Below.refl B w) hd
/-- behind a call that makes memory. -/
theorem below_next {B : Nat} {a w w' : World} (h : Below B a w) (hB : B ≤ w.heap.size) (hb : Below w.heap.size w w') : Below B a w' := h.trans (hb.mono hB)
/-- a row of a fixed length in a block of its own. -/
def Row1 (w : World) (g : Nat) (e : TypeId) (xs : List Value) : Prop := w.heap[g]? = some (.cells xs.toArray e (0, 0))
section
variable {w w' : World} {g : Nat} {e : TypeId} {xs : List Value}
theorem Row1.lt (h : Row1 w g e xs) : g < w.heap.size := (Array.getElem?_eq_some_iff.1 h).1
theorem Row1.keep (h : Row1 w g e xs) (hk : w'.heap[g]? = w.heap[g]?) : Row1 w' g e xs := hk.trans h
theorem Row1.below (h : Row1 w g e xs) (hb : Below w.heap.size w w') : Row1 w' g e xs := h.keep (hb.block g h.lt)
theorem Row1.dr (h : Row1 w g e xs) (hd : Dr w w') : Row1 w' g e xs := by
  obtain ⟨n, rfl⟩ := hd; exact h
theorem Row1.alloc (h : Row1 w g e xs) (o : Obj) : Row1 (w.alloc o) g e xs := h.keep (Below.heap_alloc w o g h.lt)
theorem Row1.cell (h : Row1 w g e xs) {k : Nat} {u : Value} (hk : xs[k]? = some u) : w.cell? ⟨g, k, none⟩ = some u := by
  rw [cell_of_row w g k _ e (0, 0) h]
  simpa using hk
theorem Row1.frozen (h : Row1 w g e xs) (k : Nat) : w.frozen? ⟨g, k, none⟩ = false := by
  unfold Row1 at h
  simp [World.frozen?, h]
theorem Row1.set (h : Row1 w g e xs) (k : Nat) (u : Value) : Row1 (w.setCell ⟨g, k, none⟩ u) g e (xs.set k u) := by
  unfold Row1 at h ⊢
  simp [World.setCell, Array.getElem?_modify, h]
theorem Row1.far (h : Row1 w g e xs) {p : Addr} (hp : p.block ≠ g) (u : Value) : Row1 (w.setCell p u) g e xs := h.keep (Below.heap_setCell w p u g (Ne.symm hp))
theorem Row1.cells (h : Row1 w g e xs) : Cells w (some ⟨g, 0, none⟩) xs := .inr ⟨g, 0, rfl, fun i u hu => by rw [Nat.zero_add]; exact h.cell hu⟩
theorem Row1.own {base : Nat} (h : Row1 w g e xs) (hb : base ≤ g) (hl : xs.length ≤ 9223372036854775807) : Own w base e (.slice (some ⟨g, 0, none⟩) xs.length xs.length) xs :=
  ⟨by omega, .inr ⟨g, xs.length, xs.toArray, rfl, hb, h, Nat.le_refl _, by unfold maxLen; omega, by simp, by simp⟩⟩
end
theorem madeCells_one (z : Value) (n : Nat) : madeCells #[z] n = (List.replicate n z).toArray := by
  simp only [madeCells]
  apply Array.ext
  · simp
  · intro i h1 h2
    simp [Nat.mod_one]
/-- 'make([]T, n)', n a variable: a row of zeros in a new block. -/
theorem wpList_make_row {P : Program} {t e : TypeId} {z : Value} {bytes : Nat} (E : Elt P t e z bytes) (w : World) {ops : Array Oper} {rest : List Oper} {o : Oper} {a : Act} {Q : Exit → Act → World → Prop}
    (hg : o.guard = none) (l c : Operand) (hop : o.op = Op.makeSlice t l c)
    (kl kc : IntKind) (L C : Int) (n : Nat) (hl : a.eval l = .int kl L) (hc : a.eval c = .int kc C) (hL : L = (n : Int)) (hC : C = (n : Int)) (b2 : bytes * n ≤ 281474976710656) (b3 : n ≤ 9223372036854775807)
    (hK : ∀ w', Row1 w' w.heap.size e (List.replicate n z) → w'.heap.size = w.heap.size + 1 → Below w.heap.size w w' → wpList P ops Q rest (a.put o.dst (.slice (some ⟨w.heap.size, 0, none⟩) n n)) w') :
    wpList P ops Q (o :: rest) a w := by
  obtain ⟨i, hi, hz, hs, hby⟩ := E.info
  refine wpList_plain hg fun K hK' => ?_
  have hb : (i.bytes : Int) * (n : Int) ≤ 281474976710656 := by
    rw [hby]
    have h : ((bytes * n : Nat) : Int) ≤ 281474976710656 := by omega
    rwa [Int.natCast_mul] at h
  have hr := run_make (P := P) w t e i z E.under hi hz kl kc (n : Int) (n : Int) (by omega) (by omega) hb (by omega)
  simp only [Int.toNat_natCast] at hr
  subst hL
  subst hC
  unfold Oper.wp
  simp [execOp, hop, hl, hc, hr, Result.andThen]
  refine hK' _ _ (hK _ ?_ (by simp) ((Below.refl _ _).alloc (Nat.le_refl _) _))
  unfold Row1
  rw [heap_alloc_new, hs, E.zc, Nat.mul_one, madeCells_one]
theorem wp_push {P : Program} {t e : TypeId} {z : Value} {bytes : Nat} (E : Elt P t e z bytes) (wr : World) {o : Oper} {a : Act} {K : Act → World → Prop} {Q : Exit → Act → World → Prop}
    (s x : Operand) (hop : o.op = .call { callee := .builtin .append, args := #[s, x], argTypes := #[t, t] })
    (base : Nat) {v : Value} {xs : List Value} (hown : Own wr base e v xs) (hs : a.eval s = v) (u : Value) (hx : a.eval x = .slice (some ⟨wr.heap.size, 0, none⟩) 1 1) (h1 : u.oneCell' = true)
    (hb : (xs.length + 1) * bytes ≤ 140737488355328) (hm : xs.length + 1 ≤ 9223372036854775807) (hbase : base ≤ wr.heap.size)
    (hK : ∀ v' w', Own w' base e v' (xs ++ [u]) → (∀ k, k < wr.heap.size → some k ≠ v.ownBlock → w'.heap[k]? = wr.heap[k]?) → Below base wr w' → K (a.put o.dst v') w') :
    o.wp P a (wr.alloc (.cells #[u] e)) K Q := by
  obtain ⟨i, hi, hz, hsz, hby⟩ := E.info
  refine wp_append_own (P := P) (wr.alloc (.cells #[u] e)) s x t hop base e i z 1 bytes E.under hi hz hsz hby E.one (by decide) v xs.length xs hs (hown.alloc _) ⟨wr.heap.size, 0, none⟩ 1 1 [u] hx rfl (cell_one_new _ _ _)
    (by simpa using h1) (by unfold maxLen; omega) hb (by simp; omega) ?_
  intro v' w' h2 h3 _
  refine hK v' w' ?_ (fun k hk hne => ?_) ?_
  · unfold Own; rw [List.length_append]; exact h2
  · rw [h3.block k (by simp; omega) hne, Below.heap_alloc wr _ k hk]
  · refine ((Below.refl _ _).alloc hbase _).grown h3 (by simp; omega) fun k hk => (hown.block k hk).1
/-- 'out = append(out, u)': u lies in a block that was laid for it just now. -/
theorem wpList_push {P : Program} {t e : TypeId} {z : Value} {bytes : Nat} (E : Elt P t e z bytes) (wr : World) {ops : Array Oper} {rest : List Oper} {o : Oper} {a : Act} {Q : Exit → Act → World → Prop}
    (hg : o.guard = none) (s x : Operand) (hop : o.op = .call { callee := .builtin .append, args := #[s, x], argTypes := #[t, t] })
    (base : Nat) {v : Value} {xs : List Value} (hown : Own wr base e v xs) (hs : a.eval s = v) (u : Value) (hx : a.eval x = .slice (some ⟨wr.heap.size, 0, none⟩) 1 1) (h1 : u.oneCell' = true)
    (hb : (xs.length + 1) * bytes ≤ 140737488355328) (hm : xs.length + 1 ≤ 9223372036854775807) (hbase : base ≤ wr.heap.size)
    (hK : ∀ v' w', Own w' base e v' (xs ++ [u]) → (∀ k, k < wr.heap.size → some k ≠ v.ownBlock → w'.heap[k]? = wr.heap[k]?) → Below base wr w' → wpList P ops Q rest (a.put o.dst v') w') :
    wpList P ops Q (o :: rest) a (wr.alloc (.cells #[u] e)) :=
  wpList_plain hg fun _ hK' => wp_push E wr s x hop base hown hs u hx h1 hb hm hbase fun v' w' h2 h3 h4 => hK' _ _ (hK v' w' h2 h3 h4)
/-- a row of this call's own that is not empty: its cells may be written. -/
theorem Own.row {w : World} {base : Nat} {e : TypeId} {v : Value} {xs : List Value} (h : Own w base e v xs) (hne : 0 < xs.length) :
    ∃ g cap, v = .slice (some ⟨g, 0, none⟩) xs.length cap ∧ base ≤ g ∧ g < w.heap.size ∧ (∀ k u, xs[k]? = some u → w.cell? ⟨g, k, none⟩ = some u) ∧ (∀ k, w.frozen? ⟨g, k, none⟩ = false) ∧
      ∀ w' : World, w'.heap[g]? = w.heap[g]? → ∀ k u', k < xs.length → Own (w'.setCell ⟨g, k, none⟩ u') base e v (xs.set k u') := by
  rcases h.2 with ⟨rfl, h0⟩ | ⟨g, cap, cur, rfl, hb, hg, hn, hm, hs, ht⟩
  · omega
  · refine ⟨g, cap, rfl, hb, (Array.getElem?_eq_some_iff.1 hg).1, fun k u hu => ?_, fun k => ?_, fun w' hw' k u' hk => ?_⟩
    · have := World.ownsRow.cells (w := w) h (g := g) rfl k u hu
      have hadd : (⟨g, 0, none⟩ : Addr).add k = ⟨g, 0 + k, none⟩ := by unfold Addr.add; split <;> simp_all
      rw [hadd, Nat.zero_add] at this
      exact this
    · simp [World.frozen?, hg]
    · refine ⟨by simp, .inr ⟨g, cap, cur.set! k u', by simp, hb, ?_, by simpa using hn, hm, by simpa using hs, ?_⟩⟩
      · rw [hg] at hw'
        simp [World.setCell, Array.getElem?_modify, hw']
      · rw [List.length_set, Array.set!_eq_setIfInBounds, Array.toList_setIfInBounds]
        rw [List.take_set, ht]
theorem row1_new (w : World) (xs : List Value) (e : TypeId) : Row1 (w.alloc (.cells xs.toArray e)) w.heap.size e xs := heap_alloc_new w _
theorem below_alloc (w : World) (o : Obj) : Below w.heap.size w (w.alloc o) := (Below.refl _ _).alloc (Nat.le_refl _) _
/-- a list that lies in blocks of the kind e. -/
def RowT (w : World) (e : TypeId) (v : Value) (xs : List Value) : Prop :=
  ∃ A c, v = .slice A xs.length c ∧ xs.length ≤ 9223372036854775807 ∧ (xs = [] ∨ ∃ b off arr fz, A = some ⟨b, off, none⟩ ∧ w.heap[b]? = some (Obj.cells arr e fz) ∧ ∀ i u, xs[i]? = some u → w.cell? ⟨b, off + i, none⟩ = some u)
section
variable {w w' : World} {e e0 : TypeId} {v v0 : Value} {xs ys : List Value} {base : Nat}
theorem RowT.form (h : RowT w e v xs) : ∃ A c, v = .slice A xs.length c ∧ Cells w A xs ∧ xs.length ≤ 9223372036854775807 := by
  obtain ⟨A, c, rfl, hl, h⟩ := h
  refine ⟨A, c, rfl, ?_, hl⟩
  rcases h with h | ⟨b, off, arr, fz, rfl, _, hc⟩
  · exact .inl h
  · exact .inr ⟨b, off, rfl, hc⟩
theorem RowT.block (h : RowT w e v xs) (hk : ∀ (b : Nat) (arr : Array Value) (fz : Nat × Nat), w.heap[b]? = some (Obj.cells arr e fz) → w'.heap[b]? = w.heap[b]?) : RowT w' e v xs := by
  obtain ⟨A, c, rfl, hl, h⟩ := h
  refine ⟨A, c, rfl, hl, ?_⟩
  rcases h with h | ⟨b, off, arr, fz, rfl, hb, hc⟩
  · exact .inl h
  · refine .inr ⟨b, off, arr, fz, rfl, (hk b arr fz hb).trans hb, fun i u hu => ?_⟩
    rw [World.cell?_of_block (a := ⟨b, off + i, none⟩) (hk b arr fz hb)]
    exact hc i u hu
theorem RowT.below (h : RowT w e v xs) (hb : Below w.heap.size w w') : RowT w' e v xs := h.block fun b _ _ h1 => hb.block b (Array.getElem?_eq_some_iff.1 h1).1
theorem RowT.other (h : RowT w e v xs) (hown : Own w base e0 v0 ys) (hne : e ≠ e0) (hk : ∀ k, k < w.heap.size → some k ≠ v0.ownBlock → w'.heap[k]? = w.heap[k]?) : RowT w' e v xs := by
  refine h.block fun b arr fz h1 => hk b (Array.getElem?_eq_some_iff.1 h1).1 fun hb => ?_
  rcases hown.2 with ⟨rfl, _⟩ | ⟨g, cap, cur, rfl, _, hg, _⟩
  · cases hb
  · simp only [Value.ownBlock, Option.some.injEq] at hb
    subst hb
    rw [h1] at hg
    simp only [Option.some.injEq, Obj.cells.injEq] at hg
    exact hne hg.2.1
theorem RowT.nil (w : World) (e : TypeId) (A : Option Addr) (c : Nat) : RowT w e (.slice A 0 c) [] := ⟨A, c, rfl, by simp, .inl rfl⟩
theorem Own.rowT (h : Own w base e v xs) : RowT w e v xs := by
  have hl := h.len_le
  obtain ⟨A, cap, rfl, hc⟩ := h.form
  rcases h.2 with ⟨h1, h0⟩ | ⟨g, cap', cur, h1, _, hg, _⟩
  · obtain rfl := List.eq_nil_of_length_eq_zero h0
    exact ⟨A, cap, rfl, hl, .inl rfl⟩
  · refine ⟨A, cap, rfl, hl, ?_⟩
    simp only [Value.slice.injEq] at h1
    obtain ⟨rfl, _, _⟩ := h1
    rcases hc with h2 | ⟨b, off, h2, hc⟩
    · exact .inl h2
    · simp only [Option.some.injEq, Addr.mk.injEq] at h2
      obtain ⟨rfl, rfl, _⟩ := h2
      exact .inr ⟨g, 0, cur, (0, 0), rfl, hg, hc⟩
end
/-- a list of lists whose own row this call owns. -/
def OwnRows (w : World) (base : Nat) (e0 e : TypeId) (v : Value) (f : List (List Value)) : Prop := ∃ vs : List Value, Own w base e0 v vs ∧ vs.length = f.length ∧ ∀ (j : Nat) u xs, vs[j]? = some u → f[j]? = some xs → RowT w e u xs
section
variable {w w' : World} {e e0 : TypeId} {v v' : Value} {f : List (List Value)} {base : Nat}
theorem OwnRows.nil (w : World) (base : Nat) (e0 e : TypeId) : OwnRows w base e0 e (.slice none 0 0) [] := ⟨[], Own.nil _ _ _, rfl, fun j u xs h => by simp at h⟩
theorem OwnRows.below (h : OwnRows w base e0 e v f) (hb : Below w.heap.size w w') : OwnRows w' base e0 e v f := by
  obtain ⟨vs, h1, h2, h3⟩ := h
  exact ⟨vs, h1.below hb, h2, fun j u xs a b => (h3 j u xs a b).below hb⟩
theorem OwnRows.from_ (h : OwnRows w base e0 e v f) {b : Nat} (hb : b ≤ base) : OwnRows w b e0 e v f := by
  obtain ⟨vs, h1, h2, h3⟩ := h
  exact ⟨vs, h1.from_ hb, h2, h3⟩
/-- one more. -/
theorem OwnRows.push {vs : List Value} {u : Value} {xs : List Value} (hne : e ≠ e0) (hl : vs.length = f.length) (h3 : ∀ (j : Nat) u xs, vs[j]? = some u → f[j]? = some xs → RowT w e u xs) (hold : Own w base e0 v vs) (hu : RowT w e u xs)
    (hnew : Own w' base e0 v' (vs ++ [u])) (hk : ∀ k, k < w.heap.size → some k ≠ v.ownBlock → w'.heap[k]? = w.heap[k]?) : OwnRows w' base e0 e v' (f ++ [xs]) := by
  refine ⟨vs ++ [u], hnew, by simp [hl], fun j u' xs' h1 h2 => ?_⟩
  rcases Nat.lt_or_ge j vs.length with h | h
  · rw [List.getElem?_append_left h] at h1
    rw [List.getElem?_append_left (by omega)] at h2
    exact (h3 j u' xs' h1 h2).other hold hne hk
  · rw [List.getElem?_append_right h] at h1
    rw [List.getElem?_append_right (by omega), ← hl] at h2
    cases hj : j - vs.length with
    | zero =>
      rw [hj] at h1 h2
      obtain rfl := Option.some.inj h1
      obtain rfl := Option.some.inj h2
      exact hu.other hold hne hk
    | succ n => rw [hj] at h1; simp at h1
end
/-- a row of this call's own, of which only the length counts: it may be written over. -/
def Writ (w : World) (base : Nat) (e : TypeId) (v : Value) (n : Nat) : Prop := ∃ xs, Own w base e v xs ∧ xs.length = n
theorem Writ.below {w w' : World} {base : Nat} {e : TypeId} {v : Value} {n : Nat} (h : Writ w base e v n) (hb : Below w.heap.size w w') : Writ w' base e v n := by
  obtain ⟨xs, h1, h2⟩ := h
  exact ⟨xs, h1.below hb, h2⟩
theorem Writ.set {w : World} {base : Nat} {e : TypeId} {v : Value} {n : Nat} (h : Writ w base e v n) (g k : Nat) (u : Value) : Writ (w.setCell ⟨g, k, none⟩ u) base e v n := by
  obtain ⟨xs, h1, h2⟩ := h
  rcases h1.2 with ⟨rfl, h0⟩ | ⟨g', cap, cur, rfl, hb, hg, hn, hm, hs, ht⟩
  · have hx := List.eq_nil_of_length_eq_zero h0
    subst hx
    exact ⟨[], Own.nil _ _ _, h2⟩
  · by_cases hgg : g' = g
    · subst hgg
      have hl : ((cur.set! k u).toList.take xs.length).length = xs.length := by
        simp at hs ⊢
        omega
      refine ⟨(cur.set! k u).toList.take xs.length, ⟨by simp, .inr ⟨g', cap, cur.set! k u, by rw [hl], hb, ?_, by rw [hl]; exact hn, hm, by simpa using hs, by rw [hl]; simp⟩⟩, by rw [hl, h2]⟩
      simp [World.setCell, Array.getElem?_modify, hg]
    · refine ⟨xs, h1.keep fun k' hk' => ?_, h2⟩
      simp only [Value.ownBlock, Option.some.injEq] at hk'
      subst hk'
      exact Below.heap_setCell w _ u _ hgg
/-- its cells. -/
theorem Writ.at_ {w : World} {base : Nat} {e : TypeId} {v : Value} {n : Nat} (h : Writ w base e v n) {k : Nat} (hk : k < n) : ∃ g cap u, v = .slice (some ⟨g, 0, none⟩) n cap ∧ base ≤ g ∧ g < w.heap.size ∧ w.cell? ⟨g, k, none⟩ = some u ∧ w.frozen? ⟨g, k, none⟩ = false ∧ ∃ arr, w.heap[g]? = some (Obj.cells arr e (0, 0)) := by
  obtain ⟨xs, h1, rfl⟩ := h
  obtain ⟨g, cap, rfl, h2, h3, h4, h5, _⟩ := h1.row (by omega)
  obtain ⟨u, hu⟩ := get_of_lt hk
  refine ⟨g, cap, u, rfl, h2, h3, h4 k u hu, h5 k, ?_⟩
  rcases h1.2 with ⟨h6, _⟩ | ⟨g', cap', cur, h6, _, hg, _⟩
  · cases h6
  · simp only [Value.slice.injEq, Option.some.injEq, Addr.mk.injEq] at h6
    obtain ⟨⟨rfl, _, _⟩, _, _⟩ := h6
    exact ⟨cur, hg⟩
theorem Writ.form {w : World} {base : Nat} {e : TypeId} {v : Value} {n : Nat} (h : Writ w base e v n) : ∃ A cap, v = .slice A n cap ∧ n ≤ 9223372036854775807 := by
  obtain ⟨xs, h1, rfl⟩ := h
  have hl := h1.len_le
  obtain ⟨A, cap, rfl, _⟩ := h1.form
  exact ⟨A, cap, rfl, hl⟩
theorem quiet_dr {P : Program} {f : FuncId} {args : Array Value} {w : World} {n : Nat} {v : Value}
    (h : Calls P f args (w.drewN n) fun e w' => e = .returned v ∧ Dr (w.drewN n) w') : Calls P f args (w.drewN n) fun e w'' => e = .returned v ∧ ∃ m, w'' = w.drewN m :=
  h.mono fun _ _ ⟨he, m, hm⟩ => ⟨he, n + m, by rw [hm, World.drewN_drewN]⟩
end Go.Proofs.YtcojnjhffmhbiaaDoor
end

section
namespace Go.Proofs.YtcojnjhffmhbiaaDoor
open Go.RowKit
set_option maxHeartbeats 400000 in
theorem may_c (m : Int) (hm : U64 m) (w : World) :
    Calls Tryd.prog 91 #[.int .u64 m] w fun e w' => e = .returned (.bool (okm m)) ∧ w = w' := by
  obtain ⟨h0, h1⟩ := hm
  by_cases h : 0 < m
  · go_enter Tryd.func91, Tryd.ntmps91
    go_wp2
    go_ret
    exact ⟨by simp [okm, h], rfl⟩
  · have hd : decide (0 < m) = false := by simpa using h
    go_enter Tryd.func91, Tryd.ntmps91
    go_wp2
    go_ret
    exact ⟨by simp [okm, hd], rfl⟩
set_option maxHeartbeats 400000 in
theorem add_c (a b m : Int) (ha : U64 a) (hb : U64 b) (hm : U64 m) (w : World) :
    Calls Tryd.prog 30 #[.int .u64 a, .int .u64 b, .int .u64 m] w fun e w' => e = .returned (.int .u64 (mAdd a b m)) ∧ ∃ n, w' = w.drewN n := by
  have hm' := hm
  obtain ⟨a1, a2⟩ := ha
  obtain ⟨b1, b2⟩ := hb
  obtain ⟨m1, m2⟩ := hm
  by_cases h : okm m = true
  · have h0 := okm_pos h
    have h1 := okm_le h
    have x1 := Int.emod_nonneg a (b := m) (by omega)
    have x2 := Int.emod_lt_of_pos a h0
    have y1 := Int.emod_nonneg b (b := m) (by omega)
    have y2 := Int.emod_lt_of_pos b h0
    go_enter Tryd.func30, Tryd.ntmps30
    go_wp2_with (go_at_call 91; refine (may_c _ hm' _).mono ?_; rintro e w' ⟨rfl, rfl⟩)
    go_quiet (fail)
    go_wp2
    go_ret
    refine ⟨ret_int ?_, _, rfl⟩
    rw [mAdd_ok h, ← Int.add_emod]
  · have h' : okm m = false := by simpa using h
    go_enter Tryd.func30, Tryd.ntmps30
    go_wp2_with (go_at_call 91; refine (may_c _ hm' _).mono ?_; rintro e w' ⟨rfl, rfl⟩)
    go_ret
    exact ⟨ret_int (mAdd_no h').symm, 0, rfl⟩
set_option maxHeartbeats 400000 in
theorem sub_c (a b m : Int) (ha : U64 a) (hb : U64 b) (hm : U64 m) (w : World) :
    Calls Tryd.prog 115 #[.int .u64 a, .int .u64 b, .int .u64 m] w fun e w' => e = .returned (.int .u64 (mSub a b m)) ∧ ∃ n, w' = w.drewN n := by
  have hm' := hm
  obtain ⟨a1, a2⟩ := ha
  obtain ⟨b1, b2⟩ := hb
  obtain ⟨m1, m2⟩ := hm
  by_cases h : okm m = true
  · have h0 := okm_pos h
    have h1 := okm_le h
    have x1 := Int.emod_nonneg a (b := m) (by omega)
    have x2 := Int.emod_lt_of_pos a h0
    have y1 := Int.emod_nonneg b (b := m) (by omega)
    have y2 := Int.emod_lt_of_pos b h0
    go_enter Tryd.func115, Tryd.ntmps115
    go_wp2_with (go_at_call 91; refine (may_c _ hm' _).mono ?_; rintro e w' ⟨rfl, rfl⟩)
    go_quiet (fail)
    go_wp2
    go_ret
    refine ⟨ret_int ?_, _, rfl⟩
    rw [mSub_ok h, Int.sub_emod a b, show a % m + m - b % m = a % m - b % m + m by omega, Int.add_emod_right]
  · have h' : okm m = false := by simpa using h
    go_enter Tryd.func115, Tryd.ntmps115
    go_wp2_with (go_at_call 91; refine (may_c _ hm' _).mono ?_; rintro e w' ⟨rfl, rfl⟩)
    go_ret
    exact ⟨ret_int (mSub_no h').symm, 0, rfl⟩
end Go.Proofs.YtcojnjhffmhbiaaDoor
end

section
namespace Go.Proofs.YtcojnjhffmhbiaaDoor
open Go.Shelf Go.Proofs
def lays134_ren : Go.Shelf.Ren := ⟨fun | 134 => 155 | 129 => 162 | n => n, fun | 53 => 24 | 3 => 3 | 4 => 4 | 46 => 35 | 5 => 5 | 9 => 9 | n => n, fun | n => n⟩
theorem lays134 : Go.Proofs.Lays.n134 Tryd.prog lays134_ren := {
  mixed := by kernel_rfl
  f129 := Tryd.func162.trans (congrArg some (by kernel_rfl))
  f134 := Tryd.func155.trans (congrArg some (by kernel_rfl))
  t3 := Tryd.underlying3
  a3 := Tryd.isAgg3
  z3 := Tryd.sizeOf3
  v3 := Tryd.zeroValue3
  t4 := Tryd.underlying4
  a4 := Tryd.isAgg4
  z4 := Tryd.sizeOf4
  v4 := Tryd.zeroValue4
  t5 := Tryd.underlying5
  a5 := Tryd.isAgg5
  z5 := Tryd.sizeOf5
  v5 := Tryd.zeroValue5
  t9 := Tryd.underlying9
  a9 := Tryd.isAgg9
  z9 := Tryd.sizeOf9
  v9 := Tryd.zeroValue9
  t46 := Tryd.underlying35
  a46 := Tryd.isAgg35
  z46 := Tryd.sizeOf35
  v46 := Tryd.zeroValue35
  t53 := Tryd.underlying24
  a53 := Tryd.isAgg24
  z53 := Tryd.sizeOf24
  v53 := Tryd.zeroValue24 }
/-- bits.LeadingZeros64: "LeadingZeros64 returns the number of leading zero bits in x; the result is 64 for x == 0.": IT RETURNS '64 - Lib.bitLen x'; the world is as it was. ITS CALLEE bits.Len64 IS MET BY ITS OWN CONTRACT OFF THE SHELF (lay that first): entered in place it sends the kernel out of memory. (LAID: no walk: one application.) -/
theorem bits_LeadingZeros64 (x : Int) (w : World) (h0 : 0 ≤ x) (h1 : x ≤ 18446744073709551615) :
    Calls Tryd.prog 155 #[.int .u64 x] w fun e w' => e = .returned (.int .i64 (64 - (Lib.bitLen x.toNat : Int))) ∧ w' = w := Any.bits_LeadingZeros64 lays134 x w h0 h1
def lays264_ren : Go.Shelf.Ren := ⟨fun | 264 => 92 | n => n, fun | 53 => 24 | 46 => 35 | n => n, fun | n => n⟩
theorem lays264 : Go.Proofs.Lays.n264 Tryd.prog lays264_ren := {
  mixed := by kernel_rfl
  f264 := Tryd.func92.trans (congrArg some (by kernel_rfl))
  t46 := Tryd.underlying35
  a46 := Tryd.isAgg35
  z46 := Tryd.sizeOf35
  v46 := Tryd.zeroValue35
  t53 := Tryd.underlying24
  a53 := Tryd.isAgg24
  z53 := Tryd.sizeOf24
  v53 := Tryd.zeroValue24 }
open Go.RowKit Go.Lib in
theorem bits_Mul64 (x y : Nat) (hx : x < 18446744073709551616) (hy : y < 18446744073709551616) (w : World) :
    Calls Tryd.prog 92 #[.int .u64 x, .int .u64 y] w fun e w' => e = .returned (.tuple #[.int .u64 ((x * y / 18446744073709551616 : Nat) : Int), .int .u64 ((x * y % 18446744073709551616 : Nat) : Int)]) ∧ w' = w := Any.bits_Mul64 lays264 x y hx hy w
def lays729_ren : Go.Shelf.Ren := ⟨fun | 29 => 108 | n => n, fun | 22 => 24 | 3 => 3 | 4 => 4 | 25 => 35 | 54 => 159 | 5 => 5 | n => n, fun | 1 => 1 | n => n⟩
theorem lays729 : Go.Proofs.Lays7.n29 Tryd.prog lays729_ren := {
  mixed := by kernel_rfl
  f29 := Tryd.func108.trans (congrArg some (by kernel_rfl))
  t0 := Tryd.underlying0
  a0 := Tryd.isAgg0
  z0 := Tryd.sizeOf0
  v0 := Tryd.zeroValue0
  i0 := by kernel_rfl
  t3 := Tryd.underlying3
  a3 := Tryd.isAgg3
  z3 := Tryd.sizeOf3
  v3 := Tryd.zeroValue3
  i3 := by kernel_rfl
  t4 := Tryd.underlying4
  a4 := Tryd.isAgg4
  z4 := Tryd.sizeOf4
  v4 := Tryd.zeroValue4
  i4 := by kernel_rfl
  t5 := Tryd.underlying5
  a5 := Tryd.isAgg5
  z5 := Tryd.sizeOf5
  v5 := Tryd.zeroValue5
  i5 := by kernel_rfl
  t22 := Tryd.underlying24
  a22 := Tryd.isAgg24
  z22 := Tryd.sizeOf24
  v22 := Tryd.zeroValue24
  i22 := by kernel_rfl
  t25 := Tryd.underlying35
  a25 := Tryd.isAgg35
  z25 := Tryd.sizeOf35
  v25 := Tryd.zeroValue35
  i25 := by kernel_rfl
  t54 := Tryd.underlying159
  a54 := Tryd.isAgg159
  z54 := Tryd.sizeOf159
  g1 := by kernel_rfl }
/-- bits.TrailingZeros64 -/
theorem bits_TrailingZeros64 (x : Nat) (hx : x < 18446744073709551616) (w : World) (hT : x ≠ 0 → TabAt 1 Lib.deBruijn64tab w) :
    Calls Tryd.prog 108 #[.int .u64 x] w fun e w' => e = .returned (.int .i64 (Lib.ctz 64 x)) ∧ w' = w := Any7.bits_TrailingZeros64 lays729 x hx w hT
end Go.Proofs.YtcojnjhffmhbiaaDoor
end

section
namespace Go.Proofs.YtcojnjhffmhbiaaDoor
theorem two63 : (2:Nat) ^ 63 = 9223372036854775808 := by decide
theorem two64 : (2:Nat) ^ 64 = 18446744073709551616 := by decide
/-- what the shift makes of a divisor and of the number. -/
theorem shifted (hi lo y : Nat) (hh : hi < y) (hy : y < 18446744073709551616) (hl : lo < 18446744073709551616) :
    ∃ k Y U L : Nat, k ≤ 63 ∧ 64 - Lib.bitLen y = k ∧ Lib.bitLen y ≤ 64 ∧ Y = y * 2 ^ k ∧ 9223372036854775808 ≤ Y ∧ Y < 18446744073709551616 ∧ U = hi * 2 ^ k + lo / 2 ^ (64 - k) ∧ U < Y ∧
      L = lo * 2 ^ k % 18446744073709551616 ∧ U * 18446744073709551616 + L = (hi * 18446744073709551616 + lo) * 2 ^ k ∧
      lo / 2 ^ (64 - k) < 2 ^ k ∧ hi * 2 ^ k < 18446744073709551616 := by
  obtain ⟨h1, h2, h3⟩ := Lib.bitLenAux_bounds 64 y (by rw [two64]; exact hy) (by omega)
  have h4 : Lib.bitLen y ≤ 64 := Lib.bitLen_le y 64 (by omega) (by rw [two64]; exact hy)
  change 1 ≤ Lib.bitLen y at h1
  change 2 ^ (Lib.bitLen y - 1) ≤ y at h2
  change y < 2 ^ Lib.bitLen y at h3
  generalize Lib.bitLen y = b at *
  have e1 : (2:Nat) ^ (b - 1) * 2 ^ (64 - b) = 2 ^ 63 := by rw [← Nat.pow_add]; congr 1; omega
  have e2 : (2:Nat) ^ b * 2 ^ (64 - b) = 2 ^ 64 := by rw [← Nat.pow_add]; congr 1; omega
  have e3 : (2:Nat) ^ (64 - (64 - b)) * 2 ^ (64 - b) = 2 ^ 64 := by rw [← Nat.pow_add]; congr 1; omega
  have hp : 0 < (2:Nat) ^ (64 - b) := Nat.pos_of_ne_zero (by simp)
  have hY1 : 2 ^ 63 ≤ y * 2 ^ (64 - b) := by rw [← e1]; exact Nat.mul_le_mul_right _ h2
  have hY2 : y * 2 ^ (64 - b) < 2 ^ 64 := by rw [← e2]; exact (Nat.mul_lt_mul_right hp).2 h3
  rw [two63] at hY1
  rw [two64] at hY2 e3
  have hlo : lo / 2 ^ (64 - (64 - b)) < 2 ^ (64 - b) := by
    rw [Nat.div_lt_iff_lt_mul (Nat.pos_of_ne_zero (by simp)), Nat.mul_comm, e3]; exact hl
  have hs : lo * 2 ^ (64 - b) / 18446744073709551616 = lo / 2 ^ (64 - (64 - b)) := by
    rw [← e3, Nat.mul_div_mul_right _ _ hp]
  have hd := Nat.div_add_mod (lo * 2 ^ (64 - b)) 18446744073709551616
  rw [hs] at hd
  have hhy : (hi + 1) * 2 ^ (64 - b) ≤ y * 2 ^ (64 - b) := Nat.mul_le_mul_right _ hh
  rw [Nat.add_mul, Nat.one_mul] at hhy
  refine ⟨64 - b, _, _, _, by omega, rfl, h4, rfl, hY1, hY2, rfl, by omega, rfl, ?_, hlo, by omega⟩
  rw [Nat.add_mul, Nat.add_mul, Nat.mul_right_comm hi]
  generalize hi * 2 ^ (64 - b) = A at *
  omega
/-- the loop's relation: u is what is divided by y1 2^32 + y0, with d behind it; q is a guess that is not too small, r what it leaves of y1. -/
structure DI (u d y1 y0 q r : Int) : Prop where
  q0 : 0 ≤ q
  q1 : q ≤ 4294967297
  r0 : 0 ≤ r
  r1 : r < 4294967296
  eq : q * y1 + r = u
  big : u * 4294967296 + d < (q + 1) * (y1 * 4294967296 + y0)
/-- what the loop comes to. -/
structure DE (u d Y q : Int) : Prop where
  q0 : 0 ≤ q
  q1 : q < 4294967296
  lo : q * Y ≤ u * 4294967296 + d
  hi : u * 4294967296 + d < (q + 1) * Y
structure DB (u d y1 y0 : Int) : Prop where
  y1lo : 2147483648 ≤ y1
  y1hi : y1 < 4294967296
  y0lo : 0 ≤ y0
  y0hi : y0 < 4294967296
  d0 : 0 ≤ d
  d1 : d < 4294967296
  u0 : 0 ≤ u
  u1 : u < y1 * 4294967296 + y0
theorem DI.start {u d y1 y0 : Int} (b : DB u d y1 y0) : DI u d y1 y0 (u / y1) (u - u / y1 * y1) := by
  obtain ⟨a1, a2, a3, a4, a5, a6, a7, a8⟩ := b
  have hq0 : 0 ≤ u / y1 := Int.ediv_nonneg a7 (by omega)
  have hm1 := Int.emod_nonneg u (b := y1) (by omega)
  have hm2 := Int.emod_lt_of_pos u (b := y1) (by omega)
  have hdm := Int.ediv_mul_add_emod u y1
  generalize u / y1 = q at *
  generalize u % y1 = r at *
  have hr : u - q * y1 = r := by omega
  rw [hr]
  have hq1 : q ≤ 4294967297 := by
    apply Classical.byContradiction
    intro hc
    have hc : 4294967298 ≤ q := by omega
    have h := Int.mul_le_mul_of_nonneg_right hc (show (0:Int) ≤ y1 by omega)
    omega
  refine ⟨hq0, hq1, hm1, by omega, hdm, ?_⟩
  have e : (q + 1) * (y1 * 4294967296 + y0) = (q * y1) * 4294967296 + y1 * 4294967296 + (q + 1) * y0 := by grind
  have hp : 0 ≤ (q + 1) * y0 := Int.mul_nonneg (by omega) a3
  omega
theorem DI.fits {u d y1 y0 q r : Int} (b : DB u d y1 y0) (h : DI u d y1 y0 q r) (hq : q < 4294967296) : q * y0 < 18446744073709551616 ∧ 0 ≤ q * y0 := by
  obtain ⟨a1, a2, a3, a4, a5, a6, a7, a8⟩ := b
  refine ⟨?_, Int.mul_nonneg h.q0 a3⟩
  have h1 := Int.mul_le_mul (show q ≤ 4294967295 by omega) (show y0 ≤ 4294967295 by omega) a3 (by omega)
  omega
theorem DI.done {u d y1 y0 q r : Int} (h : DI u d y1 y0 q r) (hq : q < 4294967296) (hc : q * y0 ≤ 4294967296 * r + d) : DE u d (y1 * 4294967296 + y0) q := by
  refine ⟨h.q0, hq, ?_, h.big⟩
  have e : q * (y1 * 4294967296 + y0) = (q * y1) * 4294967296 + q * y0 := by grind
  have := h.eq
  omega
theorem DI.greater {u d y1 y0 q r : Int} (b : DB u d y1 y0) (h : DI u d y1 y0 q r) (hc : 4294967296 ≤ q ∨ 4294967296 * r + d < q * y0) : u * 4294967296 + d < q * (y1 * 4294967296 + y0) := by
  obtain ⟨a1, a2, a3, a4, a5, a6, a7, a8⟩ := b
  have e : q * (y1 * 4294967296 + y0) = (q * y1) * 4294967296 + q * y0 := by grind
  have := h.eq
  rcases hc with hc | hc
  · have h1 := Int.mul_le_mul_of_nonneg_right hc (show (0:Int) ≤ y1 * 4294967296 + y0 by omega)
    omega
  · omega
theorem DI.pos {u d y1 y0 q r : Int} (b : DB u d y1 y0) (h : DI u d y1 y0 q r) (hc : 4294967296 ≤ q ∨ 4294967296 * r + d < q * y0) : 1 ≤ q := by
  rcases hc with hc | hc
  · omega
  · apply Classical.byContradiction
    intro hn
    have h0 : q = 0 := by have := h.q0; omega
    subst h0
    have := h.r0; have := b.d0
    omega
theorem DI.step {u d y1 y0 q r : Int} (b : DB u d y1 y0) (h : DI u d y1 y0 q r) (hc : 4294967296 ≤ q ∨ 4294967296 * r + d < q * y0) (hr : r + y1 < 4294967296) : DI u d y1 y0 (q - 1) (r + y1) := by
  have hg := h.greater b hc
  have hp := h.pos b hc
  obtain ⟨a1, a2, a3, a4, a5, a6, a7, a8⟩ := b
  have he := h.eq
  have := h.q1; have := h.r0
  refine ⟨by omega, by omega, by omega, hr, ?_, ?_⟩
  · rw [Int.sub_mul]; omega
  · rw [show q - 1 + 1 = q by omega]; exact hg
theorem DI.last {u d y1 y0 q r : Int} (b : DB u d y1 y0) (h : DI u d y1 y0 q r) (hc : 4294967296 ≤ q ∨ 4294967296 * r + d < q * y0) (hr : 4294967296 ≤ r + y1) : DE u d (y1 * 4294967296 + y0) (q - 1) := by
  have hg := h.greater b hc
  have hp := h.pos b hc
  obtain ⟨a1, a2, a3, a4, a5, a6, a7, a8⟩ := b
  have he := h.eq
  have := h.q1; have := h.r0
  have hlo : (q - 1) * (y1 * 4294967296 + y0) ≤ u * 4294967296 + d := by
    have e : (q - 1) * (y1 * 4294967296 + y0) = (q * y1) * 4294967296 - y1 * 4294967296 + (q - 1) * y0 := by grind
    have h1 := Int.mul_le_mul (show q - 1 ≤ 4294967296 by omega) (show y0 ≤ 4294967295 by omega) a3 (by omega)
    omega
  have hq : q - 1 < 4294967296 := by
    apply Classical.byContradiction
    intro hn
    have hn : 4294967296 ≤ q - 1 := by omega
    have h1 := Int.mul_le_mul_of_nonneg_right hn (show (0:Int) ≤ y1 * 4294967296 + y0 by omega)
    omega
  refine ⟨by omega, hq, hlo, ?_⟩
  rw [show q - 1 + 1 = q by omega]; exact hg
/-- the remainder by the shifted divisor is the shifted remainder. -/
theorem unshift (N y k R Q : Nat) (_hy : 0 < y) (h : Q * (y * 2 ^ k) + R = N * 2 ^ k) (hR : R < y * 2 ^ k) : R / 2 ^ k = N % y := by
  have hp : 0 < (2:Nat) ^ k := Nat.pos_of_ne_zero (by simp)
  have e : R = (N * 2 ^ k) % (y * 2 ^ k) := by
    rw [← h, Nat.mul_comm Q, Nat.mul_add_mod, Nat.mod_eq_of_lt hR]
  rw [e, Nat.mul_mod_mul_right, Nat.mul_div_cancel _ hp]
end Go.Proofs.YtcojnjhffmhbiaaDoor
end

section
namespace Go.Proofs.YtcojnjhffmhbiaaDoor
open Go.RowKit
/-- a quotient, and that remainder. -/
def RemIs (r : Int) (w : World) (e : Ending) (w' : World) : Prop := ∃ q, e = .returned (.tuple #[.int .u64 q, .int .u64 r]) ∧ w = w'
/-- what the walk of the division wants to know of its numbers, in the walk's own spelling. -/
theorem shift_facts (hi lo y : Nat) (hh : hi < y) (hy : y < 18446744073709551616) (hl : lo < 18446744073709551616) :
    ∃ (k Y L : Nat) (u y1 y0 d1 d0 q r : Int), k ≤ 63 ∧ min k 64 = k ∧ (64 - (Lib.bitLen y : Int)) = (k : Int) ∧ IntKind.u64.wrap ((y : Int) * 2 ^ k) = (Y : Int) ∧
      bits .or .u64 (IntKind.u64.wrap ((hi : Int) * 2 ^ k)) ((lo : Int) / 2 ^ (64 - k)) = u ∧
      IntKind.u64.wrap ((lo : Int) * 2 ^ k) = (L : Int) ∧ bits .and .u64 (Y : Int) 4294967295 = y0 ∧ bits .and .u64 (L : Int) 4294967295 = d0 ∧
      (Y : Int) / 4294967296 = y1 ∧ (L : Int) / 4294967296 = d1 ∧ u / y1 = q ∧ u - q * y1 = r ∧
      (Y = y * 2 ^ k ∧ 9223372036854775808 ≤ Y ∧ Y < 18446744073709551616 ∧ 0 ≤ u ∧ u < Y ∧ L < 18446744073709551616 ∧
        u * 18446744073709551616 + L = ((hi * 18446744073709551616 + lo) * 2 ^ k : Nat)) ∧
      ((Y : Int) = y1 * 4294967296 + y0 ∧ (L : Int) = d1 * 4294967296 + d0 ∧ 0 ≤ d0 ∧ d0 < 4294967296) ∧
      DB u d1 y1 y0 ∧ DI u d1 y1 y0 q r ∧ 0 ≤ q * y1 := by
  obtain ⟨k, Y, U, L, h1, h2, h3, h4, h5, h6, h7, h8, h9, h10, h11, h12⟩ := shifted hi lo y hh hy hl
  have mask : ∀ a : Nat, a < 18446744073709551616 → bits .and .u64 (a : Int) 4294967295 = (a : Int) % 4294967296 := by
    intro a ha
    have := u64_and_nat a 4294967295 ha (by omega)
    rw [show ((4294967295 : Nat) : Int) = 4294967295 from rfl] at this
    rw [this, Nat.and_two_pow_sub_one_eq_mod a 32]
    omega
  have c1 : ∀ a : Nat, (a : Int) * 2 ^ k = ((a * 2 ^ k : Nat) : Int) := by intro a; simp
  have hb : DB (U : Int) ((L : Int) / 4294967296) ((Y : Int) / 4294967296) ((Y : Int) % 4294967296) := ⟨by omega, by omega, by omega, by omega, by omega, by omega, by omega, by omega⟩
  have hs := DI.start hb
  refine ⟨k, Y, L, (U : Int), _, _, _, _, _, _, h1, by omega, by omega, ?_, ?_, ?_, mask Y h6, mask L (by omega), rfl, rfl, rfl, rfl, ⟨h4, h5, h6, by omega, by omega, by omega, by omega⟩, ⟨by omega, by omega, by omega, by omega⟩, hb, hs,
    Int.mul_nonneg hs.q0 (by omega)⟩
  · rw [c1, IntKind.wrap_u64, ← h4]; omega
  · have c2 : (lo : Int) / 2 ^ (64 - k) = ((lo / 2 ^ (64 - k) : Nat) : Int) := by simp
    have c3 : IntKind.u64.wrap ((hi : Int) * 2 ^ k) = ((hi * 2 ^ k : Nat) : Int) := by rw [c1, IntKind.wrap_u64]; omega
    have hu : lo / 2 ^ (64 - k) < 18446744073709551616 := Nat.lt_of_le_of_lt (Nat.div_le_self _ _) hl
    rw [c2, c3, u64_or_nat _ _ h12 hu, nat_join k _ _ (by simp) h11, h7]
  · rw [c1, IntKind.wrap_u64, h9]; omega
theorem wrap_left (u d q Y : Int) (h0 : 0 ≤ u * 4294967296 + d - q * Y) (h1 : u * 4294967296 + d - q * Y < 18446744073709551616) :
    IntKind.u64.wrap (IntKind.u64.wrap (IntKind.u64.wrap (u * 4294967296) + d) - IntKind.u64.wrap (q * Y)) = u * 4294967296 + d - q * Y := by
  simp only [IntKind.wrap_u64]
  omega
/-- what the first loop hands on. -/
theorem second {u d1 d0 y1 y0 qq : Int} {Y : Nat} (hY : (Y : Int) = y1 * 4294967296 + y0) (hb : DB u d1 y1 y0) (h0 : 0 ≤ d0) (h1 : d0 < 4294967296) (hE : DE u d1 (y1 * 4294967296 + y0) qq) :
    ∃ v q2 r2 : Int, IntKind.u64.wrap (IntKind.u64.wrap (IntKind.u64.wrap (u * 4294967296) + d1) - IntKind.u64.wrap (qq * (Y : Int))) = v ∧ v / y1 = q2 ∧ v - q2 * y1 = r2 ∧
      DB v d0 y1 y0 ∧ DI v d0 y1 y0 q2 r2 ∧ 0 ≤ q2 * y1 ∧ q2 * y1 < 18446744073709551616 ∧ v = u * 4294967296 + d1 - qq * (Y : Int) := by
  obtain ⟨a1, a2, a3, a4, a5, a6, a7, a8⟩ := hb
  obtain ⟨c1, c2, c3, c4⟩ := hE
  rw [← hY] at c3 c4 a8
  rw [Int.add_mul, Int.one_mul] at c4
  have hw := wrap_left u d1 qq Y (by omega) (by omega)
  have hb' : DB (u * 4294967296 + d1 - qq * (Y : Int)) d0 y1 y0 := ⟨a1, a2, a3, a4, h0, h1, by omega, by omega⟩
  have hs := DI.start hb'
  have hr1 := hs.r0
  have hr2 := hs.r1
  refine ⟨_, _, _, hw, rfl, rfl, hb', hs, Int.mul_nonneg hs.q0 (by omega), by omega, rfl⟩
/-- what the second loop hands on. -/
theorem third {u d1 d0 v y1 y0 qq q3 : Int} {Y L k y N : Nat} (hY : (Y : Int) = y1 * 4294967296 + y0) (hL : (L : Int) = d1 * 4294967296 + d0) (hb : DB v d0 y1 y0) (hv : v = u * 4294967296 + d1 - qq * (Y : Int)) (hq : 0 ≤ qq)
    (hE : DE v d0 (y1 * 4294967296 + y0) q3) (hk : Y = y * 2 ^ k) (hN : u * 18446744073709551616 + L = (N * 2 ^ k : Nat)) (hy : 0 < y) :
    IntKind.u64.wrap (IntKind.u64.wrap (IntKind.u64.wrap (v * 4294967296) + d0) - IntKind.u64.wrap (q3 * (Y : Int))) / 2 ^ k = ((N % y : Nat) : Int) := by
  obtain ⟨a1, a2, a3, a4, a5, a6, a7, a8⟩ := hb
  obtain ⟨c1, c2, c3, c4⟩ := hE
  rw [← hY] at c3 c4 a8
  rw [Int.add_mul, Int.one_mul] at c4
  rw [wrap_left v d0 q3 Y (by omega) (by omega)]
  have e : (qq * 4294967296 + q3) * (Y : Int) + (v * 4294967296 + d0 - q3 * (Y : Int)) = (N * 2 ^ k : Nat) := by
    rw [Int.add_mul, Int.mul_right_comm]
    generalize qq * (Y : Int) = A at *
    generalize q3 * (Y : Int) = B at *
    omega
  have hR1 : 0 ≤ v * 4294967296 + d0 - q3 * (Y : Int) := by omega
  have hR2 : v * 4294967296 + d0 - q3 * (Y : Int) < Y := by omega
  have hQ : 0 ≤ qq * 4294967296 + q3 := by omega
  generalize v * 4294967296 + d0 - q3 * (Y : Int) = R at *
  generalize qq * 4294967296 + q3 = Q at *
  obtain ⟨R, rfl⟩ := Int.eq_ofNat_of_zero_le hR1
  obtain ⟨Q, rfl⟩ := Int.eq_ofNat_of_zero_le hQ
  have e' : Q * (y * 2 ^ k) + R = N * 2 ^ k := by rw [← hk]; exact_mod_cast e
  have := unshift N y k R Q hy e' (by rw [← hk]; omega)
  rw [← this]
  simp
set_option maxRecDepth 100000 in
set_option maxHeartbeats 4000000 in
theorem div64_hi (hi lo y : Nat) (hh : 0 < hi) (hy : hi < y) (hy' : y < 18446744073709551616) (hl : lo < 18446744073709551616) (w : World) :
    Calls Tryd.prog 143 #[.int .u64 (hi : Int), .int .u64 (lo : Int), .int .u64 (y : Int)] w (RemIs (((hi * 18446744073709551616 + lo) % y : Nat) : Int) w) := by
  obtain ⟨k, Y, L, u, y1, y0, d1, d0, q, r, f1, f2, f3, f4, f5, f6, f7, f8, f9, f10, f11, f12, hf, hg, hb, hs, hqy⟩ := shift_facts hi lo y hy hy' hl
  have hff := hid hf
  have hgg := hid hg
  obtain ⟨-, g2, g3, g4, g5, g6, -⟩ := hf
  obtain ⟨-, -, e3, e4⟩ := hg
  obtain ⟨b1, b2, b3, b4, b5, b6, b7, b8⟩ := id hb
  obtain ⟨s1, s2, s3, s4, s5, s6⟩ := id hs
  have hqy2 : q * y1 < 18446744073709551616 := by omega
  clear s5 s6 b8
  have h1 : ((y : Int) == 0) = false := by simp; omega
  have h2 : ((hi : Int) == 0) = false := by simp; omega
  go_enter Tryd.func143, Tryd.ntmps143
  go_wp2_with (go_at_call 155; refine (bits_LeadingZeros64 _ _ (by omega) (by omega)).mono ?_; rintro e w' ⟨rfl, rfl⟩)
  go_loop [15, 16] (fun a b => ∃ q' r' : Int, a = .int .u64 q' ∧ b = .int .u64 r' ∧ DI u d1 y1 y0 q' r') (fun a _ => (intOf a).toNat)
  case atStart => exact ⟨q, r, by rw [f11], rfl, hs⟩
  case round =>
    obtain ⟨q', r', rfl, rfl, hd⟩ := hrel
    obtain ⟨t1, t2, t3, t4, -, -⟩ := id hd
    have e1 := hgg.out.1
    have e2 := hgg.out.2.1
    by_cases hc : 4294967296 ≤ q' ∨ 4294967296 * r' + d1 < q' * y0
    · have hp := DI.pos hb hd hc
      by_cases hr : r' + y1 < 4294967296
      · have hn := DI.step hb hd hc hr
        clear e1 e2
        by_cases hq : 4294967296 ≤ q'
        · go_wp2
          go_round
          case rel => exact ⟨_, _, rfl, rfl, hn⟩
          case measure => simp [intOf]; omega
        · obtain ⟨x1, x2⟩ := DI.fits hb hd (by omega)
          have hc' : 4294967296 * r' + d1 < q' * y0 := by omega
          go_wp2
          go_round
          case rel => exact ⟨_, _, rfl, rfl, hn⟩
          case measure => simp [intOf]; omega
      · obtain ⟨v, q2, r2, m1, m2, m3, m4, m5, m6, m7, m8⟩ := second e1 hb e3 e4 (DI.last hb hd hc (by omega))
        have hE := (DI.last hb hd hc (by omega)).q0
        have fin := fun q3 hE3 => third (q3 := q3) e1 e2 m4 m8 hE hE3 hff.out.1 hff.out.2.2.2.2.2.2 (by omega)
        have M8 := hid m8
        clear m8 e1 e2
        obtain ⟨n1, n2, n3, n4, n5, n6, n7, n8⟩ := id m4
        have n9 : v < 18446744073709551616 := by omega
        clear n8
        obtain ⟨o1, o2, o3, o4, -, -⟩ := id m5
        have fin := hid fin
        by_cases hq : 4294967296 ≤ q'
        · go_wp2
          go_loop [18, 16] (fun a b => ∃ q' r' : Int, a = .int .u64 q' ∧ b = .int .u64 r' ∧ DI v d0 y1 y0 q' r') (fun a _ => (intOf a).toNat)
          case atStart => exact ⟨q2, r2, by first | rfl | rw [m2], rfl, m5⟩
          case round =>
            obtain ⟨q'', r'', rfl, rfl, hd⟩ := hrel
            obtain ⟨t1, t2, t3, t4, -, -⟩ := id hd
            by_cases hc : 4294967296 ≤ q'' ∨ 4294967296 * r'' + d0 < q'' * y0
            · have hp := DI.pos m4 hd hc
              by_cases hr : r'' + y1 < 4294967296
              · have hn := DI.step m4 hd hc hr
                by_cases hq : 4294967296 ≤ q''
                · go_wp2
                  go_round
                  case rel => exact ⟨_, _, rfl, rfl, hn⟩
                  case measure => simp [intOf]; omega
                · obtain ⟨x1, x2⟩ := DI.fits m4 hd (by omega)
                  have hc' : 4294967296 * r'' + d0 < q'' * y0 := by omega
                  go_wp2
                  go_round
                  case rel => exact ⟨_, _, rfl, rfl, hn⟩
                  case measure => simp [intOf]; omega
              · have hlast := fin.out _ (DI.last m4 hd hc (by omega))
                by_cases hq : 4294967296 ≤ q''
                · go_wp2
                  go_ret2
                  exact ⟨_, rfl, rfl⟩
                · obtain ⟨x1, x2⟩ := DI.fits m4 hd (by omega)
                  have hc' : 4294967296 * r'' + d0 < q'' * y0 := by omega
                  go_wp2
                  go_ret2
                  exact ⟨_, rfl, rfl⟩
            · have hlast := fin.out _ (DI.done hd (by omega) (by omega))
              obtain ⟨x1, x2⟩ := DI.fits m4 hd (by omega)
              go_wp2
              go_ret2
              exact ⟨_, rfl, rfl⟩
        · obtain ⟨x1, x2⟩ := DI.fits hb hd (by omega)
          have hc' : 4294967296 * r' + d1 < q' * y0 := by omega
          go_wp2
          go_loop [18, 16] (fun a b => ∃ q' r' : Int, a = .int .u64 q' ∧ b = .int .u64 r' ∧ DI v d0 y1 y0 q' r') (fun a _ => (intOf a).toNat)
          case atStart => exact ⟨q2, r2, by first | rfl | rw [m2], rfl, m5⟩
          case round =>
            obtain ⟨q'', r'', rfl, rfl, hd⟩ := hrel
            obtain ⟨t1, t2, t3, t4, -, -⟩ := id hd
            by_cases hc : 4294967296 ≤ q'' ∨ 4294967296 * r'' + d0 < q'' * y0
            · have hp := DI.pos m4 hd hc
              by_cases hr : r'' + y1 < 4294967296
              · have hn := DI.step m4 hd hc hr
                by_cases hq : 4294967296 ≤ q''
                · go_wp2
                  go_round
                  case rel => exact ⟨_, _, rfl, rfl, hn⟩
                  case measure => simp [intOf]; omega
                · obtain ⟨z1, z2⟩ := DI.fits m4 hd (by omega)
                  have hc'' : 4294967296 * r'' + d0 < q'' * y0 := by omega
                  go_wp2
                  go_round
                  case rel => exact ⟨_, _, rfl, rfl, hn⟩
                  case measure => simp [intOf]; omega
              · have hlast := fin.out _ (DI.last m4 hd hc (by omega))
                by_cases hq : 4294967296 ≤ q''
                · go_wp2
                  go_ret2
                  exact ⟨_, rfl, rfl⟩
                · obtain ⟨z1, z2⟩ := DI.fits m4 hd (by omega)
                  have hc'' : 4294967296 * r'' + d0 < q'' * y0 := by omega
                  go_wp2
                  go_ret2
                  exact ⟨_, rfl, rfl⟩
            · have hlast := fin.out _ (DI.done hd (by omega) (by omega))
              obtain ⟨z1, z2⟩ := DI.fits m4 hd (by omega)
              go_wp2
              go_ret2
              exact ⟨_, rfl, rfl⟩
    · obtain ⟨v, q2, r2, m1, m2, m3, m4, m5, m6, m7, m8⟩ := second e1 hb e3 e4 (DI.done hd (by omega) (by omega))
      have fin := fun q3 hE3 => third (q3 := q3) e1 e2 m4 m8 t1 hE3 hff.out.1 hff.out.2.2.2.2.2.2 (by omega)
      have M8 := hid m8
      clear m8 e1 e2
      obtain ⟨n1, n2, n3, n4, n5, n6, n7, n8⟩ := id m4
      have n9 : v < 18446744073709551616 := by omega
      clear n8
      obtain ⟨o1, o2, o3, o4, -, -⟩ := id m5
      have fin := hid fin
      obtain ⟨x1, x2⟩ := DI.fits hb hd (by omega)
      go_wp2
      go_loop [18, 16] (fun a b => ∃ q' r' : Int, a = .int .u64 q' ∧ b = .int .u64 r' ∧ DI v d0 y1 y0 q' r') (fun a _ => (intOf a).toNat)
      case atStart => exact ⟨q2, r2, by first | rfl | rw [m2], rfl, m5⟩
      case round =>
        obtain ⟨q'', r'', rfl, rfl, hd⟩ := hrel
        obtain ⟨t1, t2, t3, t4, -, -⟩ := id hd
        by_cases hc : 4294967296 ≤ q'' ∨ 4294967296 * r'' + d0 < q'' * y0
        · have hp := DI.pos m4 hd hc
          by_cases hr : r'' + y1 < 4294967296
          · have hn := DI.step m4 hd hc hr
            by_cases hq : 4294967296 ≤ q''
            · go_wp2
              go_round
              case rel => exact ⟨_, _, rfl, rfl, hn⟩
              case measure => simp [intOf]; omega
            · obtain ⟨z1, z2⟩ := DI.fits m4 hd (by omega)
              have hc' : 4294967296 * r'' + d0 < q'' * y0 := by omega
              go_wp2
              go_round
              case rel => exact ⟨_, _, rfl, rfl, hn⟩
              case measure => simp [intOf]; omega
          · have hlast := fin.out _ (DI.last m4 hd hc (by omega))
            by_cases hq : 4294967296 ≤ q''
            · go_wp2
              go_ret2
              exact ⟨_, rfl, rfl⟩
            · obtain ⟨z1, z2⟩ := DI.fits m4 hd (by omega)
              have hc' : 4294967296 * r'' + d0 < q'' * y0 := by omega
              go_wp2
              go_ret2
              exact ⟨_, rfl, rfl⟩
        · have hlast := fin.out _ (DI.done hd (by omega) (by omega))
          obtain ⟨z1, z2⟩ := DI.fits m4 hd (by omega)
          go_wp2
          go_ret2
          exact ⟨_, rfl, rfl⟩
set_option maxHeartbeats 400000 in
theorem div64_lo (lo y : Nat) (hy : 0 < y) (hy' : y < 18446744073709551616) (hl : lo < 18446744073709551616) (w : World) :
    Calls Tryd.prog 143 #[.int .u64 0, .int .u64 (lo : Int), .int .u64 (y : Int)] w fun e w' => (∃ q, e = .returned (.tuple #[.int .u64 q, .int .u64 ((lo % y : Nat) : Int)])) ∧ ∃ n, w' = w.drewN n := by
  have h1 : ((y : Int) == 0) = false := by simp; omega
  go_enter Tryd.func143, Tryd.ntmps143
  go_wp2
  go_quiet (fail)
  go_wp2
  go_ret2
  exact ⟨⟨_, rfl⟩, _, rfl⟩
set_option maxHeartbeats 400000 in
theorem rem64_c (hi lo y : Nat) (hh : hi < 18446744073709551616) (hy : 0 < y) (hy' : y < 18446744073709551616) (hl : lo < 18446744073709551616) (w : World) :
    Calls Tryd.prog 93 #[.int .u64 (hi : Int), .int .u64 (lo : Int), .int .u64 (y : Int)] w fun e w' => e = .returned (.int .u64 (((hi * 18446744073709551616 + lo) % y : Nat) : Int)) ∧ ∃ n, w' = w.drewN n := by
  have hm : hi % y < y := Nat.mod_lt _ hy
  have e : (hi % y * 18446744073709551616 + lo) % y = (hi * 18446744073709551616 + lo) % y := by
    rw [Nat.add_mod, Nat.mul_mod, Nat.mod_mod, ← Nat.mul_mod, ← Nat.add_mod]
  by_cases h0 : hi % y = 0
  · have hz : (hi : Int) % (y : Int) = 0 := by omega
    have e' : lo % y = (hi * 18446744073709551616 + lo) % y := by rw [← e, h0]; simp
    have E := hid e'
    clear e e'
    go_enter Tryd.func93, Tryd.ntmps93
    go_wp2_with (go_at_call 143; refine (div64_lo _ _ hy hy' hl _).mono ?_; rintro e w' ⟨⟨q, rfl⟩, n, rfl⟩)
    go_ret
    exact ⟨ret_int (by rw [← E.out]; simp), _, rfl⟩
  · obtain ⟨r, hr⟩ : ∃ r, hi % y = r := ⟨_, rfl⟩
    have hz : (hi : Int) % (y : Int) = (r : Int) := by omega
    have E := hid e
    have R := hid hr
    have r0 : 0 < r := by omega
    have r1 : r < y := by omega
    clear e hr h0
    go_enter Tryd.func93, Tryd.ntmps93
    go_wp2_with (go_at_call 143; refine (div64_hi _ _ _ r0 r1 hy' hl _).mono ?_; rintro e w' ⟨q, rfl, rfl⟩)
    go_ret
    exact ⟨ret_int (by rw [← E.out, R.out]; simp), 0, rfl⟩
end Go.Proofs.YtcojnjhffmhbiaaDoor
end

section
namespace Go.Proofs.YtcojnjhffmhbiaaDoor
open Go.RowKit
/-- the product of two words as two words. -/
theorem mul64_c (x y : Nat) (hx : x < 18446744073709551616) (hy : y < 18446744073709551616) : ∃ hi lo : Nat, hi < 18446744073709551616 ∧ lo < 18446744073709551616 ∧ hi * 18446744073709551616 + lo = x * y ∧
    ∀ w : World, Calls Tryd.prog 92 #[.int .u64 x, .int .u64 y] w fun e w' => e = .returned (.tuple #[.int .u64 (hi : Int), .int .u64 (lo : Int)]) ∧ w' = w := by
  refine ⟨_, _, ?_, ?_, Nat.div_add_mod' _ 18446744073709551616, fun w => bits_Mul64 x y hx hy w⟩
  · have := Nat.mul_lt_mul'' hx hy
    omega
  · omega
set_option maxHeartbeats 400000 in
theorem mul_c (a b m : Int) (ha : U64 a) (hb : U64 b) (hm : U64 m) (w : World) :
    Calls Tryd.prog 29 #[.int .u64 a, .int .u64 b, .int .u64 m] w fun e w' => e = .returned (.int .u64 (mMul a b m)) ∧ ∃ n, w' = w.drewN n := by
  have hm' := hm
  obtain ⟨a1, a2⟩ := ha
  obtain ⟨b1, b2⟩ := hb
  obtain ⟨m1, m2⟩ := hm
  by_cases h : okm m = true
  · have h0 := okm_pos h
    have h1 := okm_le h
    obtain ⟨m, rfl⟩ := Int.eq_ofNat_of_zero_le m1
    obtain ⟨a, rfl⟩ := Int.eq_ofNat_of_zero_le a1
    obtain ⟨b, rfl⟩ := Int.eq_ofNat_of_zero_le b1
    have x1 : a % m < m := Nat.mod_lt _ (by omega)
    have y1 : b % m < m := Nat.mod_lt _ (by omega)
    obtain ⟨x, hx⟩ : ∃ x, a % m = x := ⟨_, rfl⟩
    obtain ⟨y, hy⟩ : ∃ y, b % m = y := ⟨_, rfl⟩
    have hX : (a : Int) % (m : Int) = (x : Int) := by omega
    have hY : (b : Int) % (m : Int) = (y : Int) := by omega
    rw [hx] at x1
    rw [hy] at y1
    obtain ⟨hi, lo, q1, q2, q3, hC⟩ := mul64_c x y (by omega) (by omega)
    have hfin : mMul (a : Int) (b : Int) (m : Int) = (((hi * 18446744073709551616 + lo) % m : Nat) : Int) := by
      rw [mMul_ok h, q3, ← hx, ← hy, ← Nat.mul_mod]; simp
    have H := hid hx
    have H2 := hid hy
    have H3 := hid hfin
    have HC := hid hC
    clear hx hy hfin q3 hC
    go_enter Tryd.func29, Tryd.ntmps29
    go_wp2_with (go_at_call 91; refine (may_c _ hm' _).mono ?_; rintro e w' ⟨rfl, rfl⟩)
    go_quiet ((go_at_call 92; exact Calls.quiet_of_same (HC.out _)))
    go_wp2_with (go_at_call 93; refine (rem64_c hi lo m q1 (by omega) (by omega) q2 _).mono ?_; rintro e w' ⟨rfl, n, rfl⟩)
    go_ret
    exact ⟨ret_int H3.out.symm, _, rfl⟩
  · have h' : okm m = false := by simpa using h
    go_enter Tryd.func29, Tryd.ntmps29
    go_wp2_with (go_at_call 91; refine (may_c _ hm' _).mono ?_; rintro e w' ⟨rfl, rfl⟩)
    go_ret
    exact ⟨ret_int (mMul_no h').symm, 0, rfl⟩
end Go.Proofs.YtcojnjhffmhbiaaDoor
end

section
namespace Go.Proofs.YtcojnjhffmhbiaaDoor
open Go.RowKit
attribute [local go_sem] Oper.semAt_some
/-- x is an inverse of a modulo m. -/
def InvIs (a m x : Int) : Prop := 0 ≤ x ∧ x < m ∧ ∃ k, x * a = 1 + m * k
theorem InvIs.unique {a m x y : Int} (h : InvIs a m x) (h' : InvIs a m y) : x = y := by
  obtain ⟨x0, x1, k, hk⟩ := h
  obtain ⟨y0, y1, j, hj⟩ := h'
  have h1 : x * (y * a) = y * (x * a) := by grind
  rw [hk, hj] at h1
  have h2 : x = y + m * (y * k - x * j) := by grind
  have h3 : x % m = y % m := by rw [h2, Int.add_mul_emod_self_left]
  rwa [Int.emod_eq_of_lt x0 x1, Int.emod_eq_of_lt y0 y1] at h3
open Classical in
/-- the inverse, and what is told. -/
noncomputable def iVal (a m : Int) : Int := if h : okm m = true ∧ ∃ x, InvIs a m x then Classical.choose h.2 else 0
open Classical in
noncomputable def iErr (a m : Int) : Int := if okm m = true then (if ∃ x, InvIs a m x then 0 else 5) else 1
theorem iVal_is {a m x : Int} (h : okm m = true) (hx : InvIs a m x) : iVal a m = x := by
  unfold iVal
  rw [dif_pos ⟨h, x, hx⟩]
  exact (Classical.choose_spec (⟨x, hx⟩ : ∃ x, InvIs a m x)).unique hx
theorem iErr_is {a m x : Int} (h : okm m = true) (hx : InvIs a m x) : iErr a m = 0 := by
  unfold iErr
  rw [if_pos h, if_pos ⟨x, hx⟩]
theorem iVal_none {a m : Int} (hx : ¬ ∃ x, InvIs a m x) : iVal a m = 0 := by
  unfold iVal
  rw [dif_neg (fun h => hx h.2)]
theorem iErr_none {a m : Int} (h : okm m = true) (hx : ¬ ∃ x, InvIs a m x) : iErr a m = 5 := by
  unfold iErr
  rw [if_pos h, if_neg hx]
theorem iVal_no {a m : Int} (h : okm m = false) : iVal a m = 0 := by
  unfold iVal
  rw [dif_neg (fun hh => by rw [h] at hh; exact absurd hh.1 (by decide))]
theorem iErr_no {a m : Int} (h : okm m = false) : iErr a m = 1 := by
  unfold iErr
  rw [if_neg (by rw [h]; decide)]
/-- Euclid, extended: what holds between two rounds. -/
structure Eu (a m r s x y : Int) : Prop where
  r0 : 0 < r
  r1 : r ≤ m
  s0 : 0 ≤ s
  s1 : s < m
  x0 : 0 ≤ x
  x1 : x < m ∨ (x = 0)
  y0 : 0 ≤ y
  y1 : y < m
  hx : ∃ k, x * a = r + m * k
  hy : ∃ k, y * a = s + m * k
  hd : ∀ d, d ∣ r → d ∣ s → d ∣ m ∧ d ∣ a
theorem Eu.start {a m : Int} (h : okm m = true) : Eu a m m (a % m) 0 (1 % m) := by
  have h0 := okm_pos h
  refine ⟨h0, Int.le_refl _, Int.emod_nonneg _ (by omega), Int.emod_lt_of_pos _ h0, by omega, .inr rfl, Int.emod_nonneg _ (by omega), Int.emod_lt_of_pos _ h0, ⟨-1, by grind⟩, ⟨a / m - 1 / m * a, ?_⟩, fun d h1 h2 => ⟨h1, ?_⟩⟩
  · have e1 := Int.emod_def a m
    have e2 := Int.emod_def 1 m
    rw [e1, e2]; grind
  · have e1 := Int.mul_ediv_add_emod a m
    rw [← e1]
    exact Int.dvd_add (Int.dvd_trans h1 (Int.dvd_mul_right _ _)) h2
theorem Eu.step {a m r s x y : Int} (h : okm m = true) (e : Eu a m r s x y) (hs : 0 < s) : Eu a m s (r % s) y (mSub x (mMul (r / s) y m) m) := by
  have h0 := okm_pos h
  have f1 := Int.emod_nonneg r (b := s) (by omega)
  have f2 := Int.emod_lt_of_pos r hs
  have f3 := Int.mul_ediv_add_emod r s
  have f4 := e.s1
  rw [mSub_ok h, mMul_ok h]
  refine ⟨hs, by omega, f1, by omega, e.y0, .inl e.y1, Int.emod_nonneg _ (by omega), Int.emod_lt_of_pos _ h0, e.hy, ?_, fun d h1 h2 => e.hd d ?_ h1⟩
  · obtain ⟨k1, hk1⟩ := e.hx
    obtain ⟨k2, hk2⟩ := e.hy
    have g1 := Int.emod_def (r / s * y) m
    have g2 := Int.emod_def (x - r / s * y % m) m
    generalize (x - r / s * y % m) / m = u at *
    generalize r / s * y / m = v at *
    generalize r / s = z at *
    generalize r % s = t at *
    refine ⟨k1 - z * k2 + v * a - u * a, ?_⟩
    rw [g2, g1]
    have : (x - (z * y - m * v) - m * u) * a = x * a - z * (y * a) + m * (v * a) - m * (u * a) := by grind
    rw [this, hk1, hk2, ← f3]
    grind
  · rw [← f3]
    exact Int.dvd_add (Int.dvd_trans h1 (Int.dvd_mul_right _ _)) h2
theorem Eu.yes {a m x y : Int} (h : okm m = true) (e : Eu a m 1 0 x y) : InvIs a m x := by
  have h0 := okm_pos h
  refine ⟨e.x0, ?_, e.hx⟩
  rcases e.x1 with h1 | h1
  · exact h1
  · omega
theorem Eu.no {a m r x y : Int} (e : Eu a m r 0 x y) (hr : r ≠ 1) : ¬ ∃ x, InvIs a m x := by
  rintro ⟨z, _, _, k, hk⟩
  obtain ⟨h1, h2⟩ := e.hd r (Int.dvd_refl _) (Int.dvd_zero _)
  have h3 : r ∣ 1 := by
    have : (1 : Int) = z * a - m * k := by omega
    rw [this]
    exact Int.dvd_sub (Int.dvd_trans h2 (Int.dvd_mul_left _ _)) (Int.dvd_trans h1 (Int.dvd_mul_right _ _))
  have h4 := Int.le_of_dvd (by decide) h3
  have := e.r0
  omega
set_option maxRecDepth 100000 in
set_option maxHeartbeats 2000000 in
theorem inv_c (a m : Int) (ha : U64 a) (hm : U64 m) (w : World) :
    Calls Tryd.prog 118 #[.int .u64 a, .int .u64 m] w fun e w' => e = .returned (.tuple #[.int .u64 (iVal a m), .int .i64 (iErr a m)]) ∧ Dr w w' := by
  by_cases h : okm m = true
  · have h0 := okm_pos h
    have h1 := okm_le h
    have hst := hid (Eu.start (a := a) h)
    obtain ⟨a0, a1⟩ := ha
    go_enter Tryd.func118, Tryd.ntmps118
    go_wp2_with (go_at_call 91; refine (may_c _ hm _).mono ?_; rintro e w' ⟨rfl, rfl⟩; rw [h])
    go_quiet (fail)
    go_wp2
    go_quiet (fail)
    go_wp2
    go_loopw [6, 7, 8, 9, 10] (fun vr vs vx vy _ wr => ∃ r s x y : Int, vr = .int .u64 r ∧ vs = .int .u64 s ∧ vx = .int .u64 x ∧ vy = .int .u64 y ∧ Hid (Eu a m r s x y) ∧ Dr w wr) (fun _ s _ _ _ _ => (intOf s).toNat)
    case atStart => exact ⟨_, _, _, _, rfl, rfl, rfl, rfl, hst, ((Dr.refl w).more _).more _⟩
    case round =>
      obtain ⟨r, s, x, y, rfl, rfl, rfl, rfl, he, hw⟩ := hrel
      have r0 := he.out.r0
      have r1 := he.out.r1
      have s0 := he.out.s0
      have s1 := he.out.s1
      have x0 := he.out.x0
      have x1 : x < 18446744073709551616 := by rcases he.out.x1 with h | h <;> omega
      have y0 := he.out.y0
      have y1 := he.out.y1
      by_cases hz : s = 0
      · subst hz
        by_cases hr : r = 1
        · subst hr
          have hi := he.out.yes h
          have v1 := hid (iVal_is h hi)
          have v2 := hid (iErr_is h hi)
          go_wp2
          go_ret2
          rw [v1.out, v2.out]
          exact ⟨rfl, hw⟩
        · have hi := he.out.no hr
          have v1 := hid (iVal_none hi)
          have v2 := hid (iErr_none h hi)
          have hbr : (r != 1) = true := bne_iff_ne.2 hr
          clear hi
          go_wp2
          go_ret2
          rw [v1.out, v2.out]
          exact ⟨rfl, hw⟩
      · have hs : 0 < s := by omega
        have hbs : (s != 0) = true := bne_iff_ne.2 hz
        have hn := hid (he.out.step h hs)
        have q0 : 0 ≤ r / s := Int.ediv_nonneg (by omega) (by omega)
        have q1 : r / s ≤ r := Int.ediv_le_self _ (by omega)
        have f1 := Int.emod_nonneg r (b := s) (by omega)
        have f2 := Int.emod_lt_of_pos r hs
        have uq : U64 (r / s) := ⟨q0, by omega⟩
        have uy : U64 y := ⟨y0, by omega⟩
        have ux : U64 x := ⟨x0, x1⟩
        clear hst
        go_wp2
        go_quiet (fail)
        go_wp2_with (first | (go_at_call 29; refine (mul_c _ _ _ uq uy hm _).mono ?_; rintro e w5 ⟨rfl, hw5⟩) | (go_at_call 115; refine (sub_c _ _ _ ux (mMul_u64 _ _ _) hm _).mono ?_; rintro e w6 ⟨rfl, hw6⟩))
        go_roundw
        case rel => exact ⟨_, _, _, _, rfl, rfl, rfl, rfl, hn, ((hw.more _).trans hw5).trans hw6⟩
        case measure => simp [intOf]; omega
  · have h' : okm m = false := by simpa using h
    have v1 := hid (iVal_no (a := a) h')
    have v2 := hid (iErr_no (a := a) h')
    go_enter Tryd.func118, Tryd.ntmps118
    go_wp2_with (go_at_call 91; refine (may_c _ hm _).mono ?_; rintro e w' ⟨rfl, rfl⟩; rw [h'])
    go_ret2
    rw [v1.out, v2.out]
    exact ⟨rfl, Dr.refl _⟩
end Go.Proofs.YtcojnjhffmhbiaaDoor
end

section
namespace Go.Proofs.YtcojnjhffmhbiaaDoor
open Go Go.RowKit
theorem and_one (e : Nat) (h : e < 18446744073709551616) : bits BinOp.and IntKind.u64 (e : Int) 1 = ((e % 2 : Nat) : Int) := by
  have := bits_and_u64_nat e 1 h (by omega)
  rw [Nat.and_one_is_mod] at this
  exact this
set_option maxRecDepth 100000 in
set_option maxHeartbeats 1000000 in
theorem pow_c (a : Int) (e : Nat) (m : Int) (ha : U64 a) (he : e < 18446744073709551616) (hm : U64 m) (w : World) :
    Calls Tryd.prog 109 #[.int .u64 a, .int .u64 (e : Int), .int .u64 m] w fun r w' => r = .returned (.int .u64 (powV a e m)) ∧ Dr w w' := by
  have hm' := hm
  obtain ⟨m1, m2⟩ := hm
  by_cases h : okm m = true
  · have h0 := okm_pos h
    have h1 := okm_le h
    obtain ⟨a1, a2⟩ := ha
    have HR := hid (show powV a e m = powF m 64 (1 % m) a e by unfold powV; rw [if_pos h])
    have h1m := Int.emod_nonneg 1 (b := m) (by omega)
    have h1l := Int.emod_lt_of_pos 1 h0
    generalize powV a e m = R at *
    have HM := hid (fun (x y : Int) (hx : U64 x) (hy : U64 y) (w' : World) => mul_c x y m hx hy hm' w')
    go_enter Tryd.func109, Tryd.ntmps109
    go_wp2_with (go_at_call 91; refine (may_c _ hm' _).mono ?_; rintro e w' ⟨rfl, rfl⟩; rw [h])
    go_wp2_with (fail)
    go_loopw [0, 1, 7] (fun va ve vo wr => ∃ (a' o : Int) (e' f : Nat), va = .int .u64 a' ∧ ve = .int .u64 (e' : Int) ∧ vo = .int .u64 o ∧ 0 ≤ a' ∧ a' < 18446744073709551616 ∧ 0 ≤ o ∧ o < 18446744073709551616 ∧ e' < 18446744073709551616 ∧ Hid (e' < 2 ^ f ∧ powF m f o a' e' = R) ∧ Dr w wr) (fun _ e _ _ => (intOf e).toNat)
    case atStart => exact ⟨a, 1 % m, e, 64, rfl, rfl, rfl, a1, a2, h1m, by omega, he, hid ⟨he, HR.out.symm⟩, Dr.refl _⟩
    case round =>
      obtain ⟨a', o, e', f, rfl, rfl, rfl, x1, x2, y1, y2, he', HF, hd⟩ := hrel
      by_cases hz : e' = 0
      · subst hz
        have HZ := hid (show o = R by rw [← HF.out.2, powF_done])
        go_wp2
        go_ret
        exact ⟨by rw [HZ.out]; rfl, hd⟩
      · obtain ⟨f', rfl⟩ : ∃ f', f = f' + 1 := ⟨f - 1, by
          have := HF.out.1
          cases f with
          | zero => omega
          | succ f => omega⟩
        have hpos : (0 : Int) < (e' : Int) := by omega
        have HA := hid (HM.out a' a' ⟨x1, x2⟩ ⟨x1, x2⟩)
        have hq1 := (mMul_u64 a' a' m).1
        have hq2 := (mMul_u64 a' a' m).2
        by_cases ho : e' % 2 = 1
        · have HN := hid (show e' / 2 < 2 ^ f' ∧ powF m f' (mMul o a' m) (mMul a' a' m) (e' / 2) = R by
            refine ⟨?_, ?_⟩
            · have := HF.out.1
              rw [Nat.pow_succ] at this
              omega
            · rw [← HF.out.2, powF_odd ho])
          have HO := hid (HM.out o a' ⟨y1, y2⟩ ⟨x1, x2⟩)
          have hb : bits BinOp.and IntKind.u64 (e' : Int) 1 = 1 := by rw [and_one e' he', ho]; rfl
          have hr1 := (mMul_u64 o a' m).1
          have hr2 := (mMul_u64 o a' m).2
          generalize mMul o a' m = o2 at *
          generalize mMul a' a' m = a2' at *
          clear HF
          go_wp2_with (fail)
          refine (HO.out _).mono ?_
          rintro e w2 ⟨rfl, hd2⟩
          go_wp2_with (fail)
          refine (HA.out _).mono ?_
          rintro e w3 ⟨rfl, hd3⟩
          go_wp2
          go_roundw
          case rel => exact ⟨a2', o2, e' / 2, f', rfl, by congr 1, rfl, hq1, hq2, hr1, hr2, by omega, HN, (hd.trans hd2).trans hd3⟩
          case measure => simp [intOf]; omega
        · have HN := hid (show e' / 2 < 2 ^ f' ∧ powF m f' o (mMul a' a' m) (e' / 2) = R by
            refine ⟨?_, ?_⟩
            · have := HF.out.1
              rw [Nat.pow_succ] at this
              omega
            · rw [← HF.out.2, powF_even hz (by omega)])
          have hb : bits BinOp.and IntKind.u64 (e' : Int) 1 = 0 := by rw [and_one e' he', show e' % 2 = 0 by omega]; rfl
          generalize mMul a' a' m = a2' at *
          clear HF
          go_wp2_with (fail)
          refine (HA.out _).mono ?_
          rintro e w3 ⟨rfl, hd3⟩
          go_wp2
          go_roundw
          case rel => exact ⟨a2', o, e' / 2, f', rfl, by congr 1, rfl, hq1, hq2, y1, y2, by omega, HN, hd.trans hd3⟩
          case measure => simp [intOf]; omega
  · have h' : okm m = false := by simpa using h
    go_enter Tryd.func109, Tryd.ntmps109
    go_wp2_with (go_at_call 91; refine (may_c _ hm' _).mono ?_; rintro e w' ⟨rfl, rfl⟩; rw [h'])
    go_wp2
    go_ret
    exact ⟨by unfold powV; rw [h']; rfl, Dr.refl _⟩
/-- the tables that the test looks into. -/
structure Tabs (w : World) : Prop where
  tz : TabAt 1 Lib.deBruijn64tab w
  tr : ∀ k z, triedL[k]? = some z → w.cell? ⟨0, k, none⟩ = some (.int .u64 z)
theorem Tabs.keep {w w' : World} (h : Tabs w) (hk : ∀ p : Addr, p.block < w.heap.size → w'.cell? p = w.cell? p) : Tabs w' :=
  ⟨fun j hj => (hk _ (lt_of_cell (h.tz j hj))).trans (h.tz j hj), fun k z hz => (hk _ (lt_of_cell (h.tr k z hz))).trans (h.tr k z hz)⟩
theorem Tabs.below {w w' : World} (h : Tabs w) (hb : Below w.heap.size w w') : Tabs w' := h.keep fun _ hp => hb.cell hp
theorem Tabs.dr {w w' : World} (h : Tabs w) (hd : Dr w w') : Tabs w' := by
  obtain ⟨n, rfl⟩ := hd
  exact ⟨fun j hj => h.tz j hj, h.tr⟩
theorem ctz_lt {x : Nat} (h0 : x ≠ 0) (h : x < 18446744073709551616) : Lib.ctz 64 x < 64 := (Lib.lowest_bit 64 x h0 h).2
theorem run_tried (w : World) {k : Nat} {z : Int} (h : triedL[k]? = some z) : (Instr.index 124 (.agg #[.int .u64 2, .int .u64 3, .int .u64 5, .int .u64 7, .int .u64 11, .int .u64 13, .int .u64 17, .int .u64 19, .int .u64 23, .int .u64 29, .int .u64 31, .int .u64 37]) (.int .i64 (k : Int))).run Tryd.prog w = .ok (.int .u64 z) w := by
  have hk : k < 12 := (List.getElem?_eq_some_iff.1 h).1
  have e0 : (Instr.index 124 (.agg #[.int .u64 2, .int .u64 3, .int .u64 5, .int .u64 7, .int .u64 11, .int .u64 13, .int .u64 17, .int .u64 19, .int .u64 23, .int .u64 29, .int .u64 31, .int .u64 37]) (.int .i64 ((0 : Nat) : Int))).run Tryd.prog w = .ok (.int .u64 2) w := by kernel_rfl
  have e1 : (Instr.index 124 (.agg #[.int .u64 2, .int .u64 3, .int .u64 5, .int .u64 7, .int .u64 11, .int .u64 13, .int .u64 17, .int .u64 19, .int .u64 23, .int .u64 29, .int .u64 31, .int .u64 37]) (.int .i64 ((1 : Nat) : Int))).run Tryd.prog w = .ok (.int .u64 3) w := by kernel_rfl
  have e2 : (Instr.index 124 (.agg #[.int .u64 2, .int .u64 3, .int .u64 5, .int .u64 7, .int .u64 11, .int .u64 13, .int .u64 17, .int .u64 19, .int .u64 23, .int .u64 29, .int .u64 31, .int .u64 37]) (.int .i64 ((2 : Nat) : Int))).run Tryd.prog w = .ok (.int .u64 5) w := by kernel_rfl
  have e3 : (Instr.index 124 (.agg #[.int .u64 2, .int .u64 3, .int .u64 5, .int .u64 7, .int .u64 11, .int .u64 13, .int .u64 17, .int .u64 19, .int .u64 23, .int .u64 29, .int .u64 31, .int .u64 37]) (.int .i64 ((3 : Nat) : Int))).run Tryd.prog w = .ok (.int .u64 7) w := by kernel_rfl
  have e4 : (Instr.index 124 (.agg #[.int .u64 2, .int .u64 3, .int .u64 5, .int .u64 7, .int .u64 11, .int .u64 13, .int .u64 17, .int .u64 19, .int .u64 23, .int .u64 29, .int .u64 31, .int .u64 37]) (.int .i64 ((4 : Nat) : Int))).run Tryd.prog w = .ok (.int .u64 11) w := by kernel_rfl
  have e5 : (Instr.index 124 (.agg #[.int .u64 2, .int .u64 3, .int .u64 5, .int .u64 7, .int .u64 11, .int .u64 13, .int .u64 17, .int .u64 19, .int .u64 23, .int .u64 29, .int .u64 31, .int .u64 37]) (.int .i64 ((5 : Nat) : Int))).run Tryd.prog w = .ok (.int .u64 13) w := by kernel_rfl
  have e6 : (Instr.index 124 (.agg #[.int .u64 2, .int .u64 3, .int .u64 5, .int .u64 7, .int .u64 11, .int .u64 13, .int .u64 17, .int .u64 19, .int .u64 23, .int .u64 29, .int .u64 31, .int .u64 37]) (.int .i64 ((6 : Nat) : Int))).run Tryd.prog w = .ok (.int .u64 17) w := by kernel_rfl
  have e7 : (Instr.index 124 (.agg #[.int .u64 2, .int .u64 3, .int .u64 5, .int .u64 7, .int .u64 11, .int .u64 13, .int .u64 17, .int .u64 19, .int .u64 23, .int .u64 29, .int .u64 31, .int .u64 37]) (.int .i64 ((7 : Nat) : Int))).run Tryd.prog w = .ok (.int .u64 19) w := by kernel_rfl
  have e8 : (Instr.index 124 (.agg #[.int .u64 2, .int .u64 3, .int .u64 5, .int .u64 7, .int .u64 11, .int .u64 13, .int .u64 17, .int .u64 19, .int .u64 23, .int .u64 29, .int .u64 31, .int .u64 37]) (.int .i64 ((8 : Nat) : Int))).run Tryd.prog w = .ok (.int .u64 23) w := by kernel_rfl
  have e9 : (Instr.index 124 (.agg #[.int .u64 2, .int .u64 3, .int .u64 5, .int .u64 7, .int .u64 11, .int .u64 13, .int .u64 17, .int .u64 19, .int .u64 23, .int .u64 29, .int .u64 31, .int .u64 37]) (.int .i64 ((9 : Nat) : Int))).run Tryd.prog w = .ok (.int .u64 29) w := by kernel_rfl
  have e10 : (Instr.index 124 (.agg #[.int .u64 2, .int .u64 3, .int .u64 5, .int .u64 7, .int .u64 11, .int .u64 13, .int .u64 17, .int .u64 19, .int .u64 23, .int .u64 29, .int .u64 31, .int .u64 37]) (.int .i64 ((10 : Nat) : Int))).run Tryd.prog w = .ok (.int .u64 31) w := by kernel_rfl
  have e11 : (Instr.index 124 (.agg #[.int .u64 2, .int .u64 3, .int .u64 5, .int .u64 7, .int .u64 11, .int .u64 13, .int .u64 17, .int .u64 19, .int .u64 23, .int .u64 29, .int .u64 31, .int .u64 37]) (.int .i64 ((11 : Nat) : Int))).run Tryd.prog w = .ok (.int .u64 37) w := by kernel_rfl
  have : k = 0 ∨ k = 1 ∨ k = 2 ∨ k = 3 ∨ k = 4 ∨ k = 5 ∨ k = 6 ∨ k = 7 ∨ k = 8 ∨ k = 9 ∨ k = 10 ∨ k = 11 := by omega
  rcases this with rfl | rfl | rfl | rfl | rfl | rfl | rfl | rfl | rfl | rfl | rfl | rfl
  · rw [← Option.some.inj h]; exact e0
  · rw [← Option.some.inj h]; exact e1
  · rw [← Option.some.inj h]; exact e2
  · rw [← Option.some.inj h]; exact e3
  · rw [← Option.some.inj h]; exact e4
  · rw [← Option.some.inj h]; exact e5
  · rw [← Option.some.inj h]; exact e6
  · rw [← Option.some.inj h]; exact e7
  · rw [← Option.some.inj h]; exact e8
  · rw [← Option.some.inj h]; exact e9
  · rw [← Option.some.inj h]; exact e10
  · rw [← Option.some.inj h]; exact e11
theorem tried_ge {z : Int} (h : z ∈ triedL) : 2 ≤ z ∧ z ≤ 37 := by
  simp only [triedL, List.mem_cons, List.not_mem_nil, or_false] at h
  omega
set_option maxRecDepth 100000 in
set_option maxHeartbeats 2000000 in
theorem prime_c (n : Int) (hn : U64 n) (w : World) (hT : Tabs w) :
    Calls Tryd.prog 45 #[.int .u64 n] w fun r w' => r = .returned (.bool (primeV n)) ∧ Dr w w' := by
  obtain ⟨n1, n2⟩ := hn
  by_cases hlo : n < 2
  · have HR := hid (show primeV n = false by unfold primeV; rw [if_pos (.inl hlo)])
    have hd1 : decide (n < 2) = true := by simpa using hlo
    generalize primeV n = R at *
    go_enter Tryd.func45, Tryd.ntmps45
    go_wp2
    go_step3
    go_wp2
    try rw [Exit.noGoto_ret]
    go_ret
    exact ⟨by rw [HR.out]; rfl, Dr.refl _⟩
  · have hd1 : decide (n < 2) = false := by simpa using hlo
    by_cases hhi : 2305843009213693952 < n
    · have HR := hid (show primeV n = false by unfold primeV; rw [if_pos (.inr hhi)])
      have hd2 : decide (2305843009213693952 < n) = true := by simpa using hhi
      generalize primeV n = R at *
      go_enter Tryd.func45, Tryd.ntmps45
      go_wp2
      go_step3
      go_wp2
      try rw [Exit.noGoto_ret]
      go_ret
      exact ⟨by rw [HR.out]; rfl, Dr.refl _⟩
    · have hd2 : decide (2305843009213693952 < n) = false := by simpa using hhi
      obtain ⟨N, hN⟩ : ∃ N : Nat, n = (N : Int) + 1 := ⟨(n - 1).toNat, by omega⟩
      have hN1 : (n - 1).toNat = N := by omega
      have htw := ctz_lt (x := N) (by omega) (by omega)
      have HZ := hid (bits_TrailingZeros64 N (by omega) w fun _ => hT.tz)
      have HR := hid (show primeV n = mrAll n (Lib.ctz 64 N) (triedL.drop 0) by unfold primeV; rw [if_neg (by omega), hN1]; rfl)
      have HT := hid hT
      have HOKM := hid (okm_of (m := n) (by omega) (by omega))
      generalize Lib.ctz 64 N = tw at *
      generalize primeV n = R at *
      have hnn : n - 1 = (N : Int) := by omega
      clear hT hN hN1
      have c0 := HT.out.tr 0 _ rfl
      have c1 := HT.out.tr 1 _ rfl
      have c2 := HT.out.tr 2 _ rfl
      have c3 := HT.out.tr 3 _ rfl
      have c4 := HT.out.tr 4 _ rfl
      have c5 := HT.out.tr 5 _ rfl
      have c6 := HT.out.tr 6 _ rfl
      have c7 := HT.out.tr 7 _ rfl
      have c8 := HT.out.tr 8 _ rfl
      have c9 := HT.out.tr 9 _ rfl
      have ca := HT.out.tr 10 _ rfl
      have cb := HT.out.tr 11 _ rfl
      go_enter Tryd.func45, Tryd.ntmps45
      go_wp2
      go_step3
      go_wp2_with (fail)
      refine HZ.out.mono ?_
      rintro e wo ⟨rfl, hw⟩
      subst hw
      go_wp2
      go_step3
      go_wp2
      go_loopg [17] 12 (fun gg s17 wr => ∃ k : Nat, k + gg = 12 ∧ s17 = .int .i64 (k : Int) ∧ Hid (mrAll n tw (triedL.drop k) = R) ∧ Dr wo wr)
      case atStart => exact ⟨0, by omega, rfl, hid HR.out.symm, Dr.refl _⟩
      case round =>
        obtain ⟨k, hkg, rfl, HI, hd⟩ := hrel
        cases gk with
        | zero =>
          have HR2 := hid (show R = true by
            have := HI.out
            rw [show k = 12 by omega] at this
            rw [← this]; rfl)
          go_wp2
          try rw [Exit.noGoto_ret]
          go_ret
          exact ⟨by rw [HR2.out]; rfl, hd⟩
        | succ gg =>
          obtain ⟨z, hz⟩ : ∃ z, triedL[k]? = some z := get_of_lt (l := triedL) (show k < 12 by omega)
          have hix := run_tried wr hz
          obtain ⟨hz2, hz3⟩ := tried_ge (List.mem_of_getElem? hz)
          have HD := hid (show mrAll n tw (triedL.drop k) = match mrOne n z tw with | some b => b | none => mrAll n tw (triedL.drop (k + 1)) by
            have h1 := (List.getElem?_eq_some_iff.1 hz).1
            rw [List.drop_eq_getElem_cons h1, (List.getElem?_eq_some_iff.1 hz).2, mrAll]; rfl)
          have hk12 : (k : Int) < 12 := by omega
          clear hz
          by_cases hdiv : n % z = 0
          · have HV := hid (show R = decide (n = z) by rw [← HI.out, HD.out]; unfold mrOne; rw [if_pos hdiv])
            by_cases heq : n = z
            · have he : (n == z) = true := by simpa using heq
              have HV2 := hid (show R = true by rw [HV.out]; exact decide_eq_true heq)
              clear heq
              go_wp2
              try rw [Exit.noGoto_ret]
              go_ret
              exact ⟨by rw [HV2.out]; rfl, hd⟩
            · have he : (n == z) = false := by simpa using heq
              have HV2 := hid (show R = false by rw [HV.out]; exact decide_eq_false heq)
              clear heq
              go_wp2
              try rw [Exit.noGoto_ret]
              go_ret
              exact ⟨by rw [HV2.out]; rfl, hd⟩
          · have hnd : (n % z == 0) = false := by simpa using hdiv
            have HND := hid hdiv
            clear hdiv
            have HP := hid (pow_c z (N / 2 ^ tw) n ⟨by omega, by omega⟩ (by have := Nat.div_le_self N (2 ^ tw); omega) ⟨by omega, by omega⟩ wr)
            have HO := hid (show mrOne n z tw = if powV z (N / 2 ^ tw) n = 1 then none else if mrT n tw (powV z (N / 2 ^ tw) n) then none else some false by
              unfold mrOne
              rw [if_neg HND.out, show (n - 1).toNat = N by omega])
            have hp1 := (powV_u64 z (N / 2 ^ tw) n).1
            have hp2 := (powV_u64 z (N / 2 ^ tw) n).2
            generalize powV z (N / 2 ^ tw) n = x0 at *
            go_wp2_with (fail)
            refine HP.out.mono ?_
            rintro e w2 ⟨rfl, hd2⟩
            have hd3 := hd.trans hd2
            clear HP hd hd2 HND
            by_cases hx1 : x0 = 1
            · have he : (x0 == 1) = true := by simpa using hx1
              have HN := hid (show mrAll n tw (triedL.drop (k + 1)) = R by
                rw [← HI.out, HD.out, HO.out, if_pos hx1])
              clear hx1 HI HD HO
              go_wp2
              go_roundg gg
              case measure => omega
              case rel => exact ⟨k + 1, by omega, by first | rfl | simp, HN, hd3⟩
            · have he : (x0 == 1) = false := by simpa using hx1
              have HX := hid hx1
              clear hx1
              obtain ⟨B, hB⟩ : ∃ B, mrT n tw x0 = B := ⟨_, rfl⟩
              have HB := hid (show mrT n (tw - 0) x0 = B from hB)
              rw [hB, if_neg HX.out] at HO
              clear hB
              go_wp2
              go_loopg [37, 6] tw (fun g2 s37 s6 wy => ∃ (j : Nat) (x : Int), j + g2 = tw ∧ s37 = .int .i64 (j : Int) ∧ s6 = .int .u64 x ∧ 0 ≤ x ∧ x < 18446744073709551616 ∧ Hid (mrT n (tw - j) x = B) ∧ Dr wo wy)
              case atStart => exact ⟨0, x0, by omega, rfl, rfl, hp1, hp2, HB, hd3⟩
              case round =>
                obtain ⟨j, x, hjg, rfl, rfl, hx1, hx2, HJ, hdj⟩ := hrel
                cases gk with
                | zero =>
                  have HBF := hid (show R = false by
                    have h1 := HJ.out
                    rw [show tw - j = 0 by omega] at h1
                    have h2 : B = false := h1.symm
                    rw [← HI.out, HD.out, HO.out, h2]
                    rfl)
                  have hjt : ¬ ((j : Int) < (tw : Int)) := by omega
                  clear HI HD HO HB HX
                  go_wp2
                  try rw [Exit.noGoto_ret]
                  go_ret
                  exact ⟨by rw [HBF.out]; rfl, hdj⟩
                | succ g2 =>
                  have hjt : (j : Int) < (tw : Int) := by omega
                  have hsub : tw - j = (tw - (j + 1)) + 1 := by omega
                  have HM := hid (mul_c x x n ⟨hx1, hx2⟩ ⟨hx1, hx2⟩ ⟨by omega, by omega⟩ wr)
                  have hq1 := (mMul_u64 x x n).1
                  have hq2 := (mMul_u64 x x n).2
                  by_cases hxn : x = (N : Int)
                  · have he : (x == (N : Int)) = true := by simpa using hxn
                    have HN := hid (show mrAll n tw (triedL.drop (k + 1)) = R by
                      have h1 := HJ.out
                      rw [hsub, mrT, if_pos (by omega)] at h1
                      rw [← HI.out, HD.out, HO.out, ← h1]
                      rfl)
                    clear hxn HI HD HO HB HX HJ
                    go_wp2
                    go_roundg gg
                    case measure => omega
                    case rel => exact ⟨k + 1, by omega, by first | rfl | simp, HN, hdj⟩
                  · have he : (x == (N : Int)) = false := by simpa using hxn
                    have HN := hid (show mrT n (tw - (j + 1)) (mMul x x n) = B by
                      have h1 := HJ.out
                      rw [hsub, mrT, if_neg (by omega)] at h1
                      exact h1)
                    generalize mMul x x n = x2 at *
                    clear hxn HB HJ
                    go_wp2_with (fail)
                    refine HM.out.mono ?_
                    rintro e w4 ⟨rfl, hd4⟩
                    go_wp2
                    go_roundg g2
                    case measure => omega
                    case rel => exact ⟨j + 1, x2, by omega, by first | rfl | simp, rfl, hq1, hq2, HN, hdj.trans hd4⟩
end Go.Proofs.YtcojnjhffmhbiaaDoor
end

section
namespace Go.Proofs.YtcojnjhffmhbiaaDoor
abbrev nth (l : List Int) (j : Nat) : Int := l.getD j 0
theorem nth_lt {l : List Int} {j : Nat} (h : j < l.length) : nth l j = l[j] := by simp [nth, h]
theorem nth_ge {l : List Int} {j : Nat} (h : l.length ≤ j) : nth l j = 0 := by simp [nth, List.getElem?_eq_none h]
/-- f of each place. -/
def tabL (n : Nat) (f : Nat → Int) : List Int := (List.range n).map f
theorem tabL_len (n : Nat) (f : Nat → Int) : (tabL n f).length = n := by simp [tabL]
theorem tabL_at {n : Nat} {f : Nat → Int} {j : Nat} (h : j < n) : nth (tabL n f) j = f j := by simp [nth, tabL, h]
/-- a row of its own, as wide as all. -/
def redL (W : Nat) (q : Int) (row : List Int) : List Int := tabL (max W row.length) fun j => nth row j % q
/-- a row less so many times another one. -/
def lessL (q : Int) (row other : List Int) (t : Int) : List Int := tabL row.length fun j => if j < other.length then (nth row j - nth other j * t) % q else nth row j
theorem lessL_len (q : Int) (row other : List Int) (t : Int) : (lessL q row other t).length = row.length := tabL_len _ _
theorem lessL_at (q : Int) (row other : List Int) (t : Int) (j : Nat) : nth (lessL q row other t) j = if j < row.length ∧ j < other.length then (nth row j - nth other j * t) % q else nth row j := by
  by_cases h : j < row.length
  · unfold lessL
    rw [tabL_at h]
    by_cases h2 : j < other.length
    · rw [if_pos h2, if_pos ⟨h, h2⟩]
    · rw [if_neg h2, if_neg (fun e => h2 e.2)]
  · rw [if_neg (fun e => h e.1), nth_ge (by rw [lessL_len]; omega), nth_ge (by omega)]
/-- a row, and where it begins. -/
structure En where
  at_ : Nat
  row : List Int
/-- one row's part is taken off. -/
def stepL (q : Int) (o : List Int) (p : En) : List Int := lessL q o p.row (nth o p.at_)
theorem stepL_len (q : Int) (o : List Int) (p : En) : (stepL q o p).length = o.length := lessL_len ..
def leftL (q : Int) (W : Nat) (S : List En) (row : List Int) : List Int := S.foldl (stepL q) (redL W q row)
theorem foldl_len (q : Int) (S : List En) : ∀ o : List Int, (S.foldl (stepL q) o).length = o.length := by
  induction S with
  | nil => intro o; rfl
  | cons p S ih => intro o; rw [List.foldl_cons, ih, stepL_len]
theorem leftL_len (q : Int) (W : Nat) (S : List En) (row : List Int) : (leftL q W S row).length = max W row.length := by
  unfold leftL
  rw [foldl_len, redL, tabL_len]
/-- where a row begins. -/
def firstL (o : List Int) : Option Nat := o.findIdx? fun x => decide (x ≠ 0)
theorem firstL_some {o : List Int} {at_ : Nat} (h : firstL o = some at_) : at_ < o.length ∧ nth o at_ ≠ 0 := by
  unfold firstL at h
  rw [List.findIdx?_eq_some_iff_getElem] at h
  obtain ⟨h1, h2, _⟩ := h
  refine ⟨h1, ?_⟩
  rw [nth_lt h1]
  simpa using h2
/-- the row, so many times. -/
def timesL (q : Int) (o : List Int) (b : Int) : List Int := tabL o.length fun j => nth o j * b % q
def putL (q : Int) (inv : Int → Int) (W : Nat) (S : List En) (row : List Int) : List En :=
  match firstL (leftL q W S row) with
  | none => S
  | some k => ⟨k, timesL q (leftL q W S row) (inv (nth (leftL q W S row) k))⟩ :: (S.map fun p => (⟨p.at_, lessL q p.row (timesL q (leftL q W S row) (inv (nth (leftL q W S row) k))) (nth p.row k)⟩ : En)).filter fun p => decide (p.at_ ≠ k)
def wideL (rows : List (List Int)) : Nat := rows.foldl (fun m r => max m r.length) 0
def spaceL (q : Int) (inv : Int → Int) (W : Nat) (rows : List (List Int)) : List En := rows.foldl (putL q inv W) []
def hangsL (q : Int) (inv : Int → Int) (rows : List (List Int)) (row : List Int) : Bool := (firstL (leftL q (wideL rows) (spaceL q inv (wideL rows) rows) row)).isNone
def ZeroL (r : List Int) : Prop := ∀ j, nth r j = 0
def RedL (q : Int) (r : List Int) : Prop := ∀ j, 0 ≤ nth r j ∧ nth r j < q
/-- what rows come to. -/
structure GoodS (q : Int) (W : Nat) (S : List En) : Prop where
  nd : S.Pairwise fun p p' => p.at_ ≠ p'.at_
  lt : ∀ p ∈ S, p.at_ < W
  len : ∀ p ∈ S, p.row.length = W
  red : ∀ p ∈ S, RedL q p.row
  piv : ∀ p ∈ S, ZeroL p.row ∨ nth p.row p.at_ = 1 ∧ ∀ p' ∈ S, p'.at_ ≠ p.at_ → nth p'.row p.at_ = 0
theorem GoodS.nil (q : Int) (W : Nat) : GoodS q W [] := ⟨.nil, (fun p h => by cases h), (fun p h => by cases h), (fun p h => by cases h), (fun p h => by cases h)⟩
theorem key_one {S : List En} (h : S.Pairwise fun p p' => p.at_ ≠ p'.at_) {p p' : En} (hp : p ∈ S) (hp' : p' ∈ S) (he : p.at_ = p'.at_) : p = p' := by
  induction S with
  | nil => cases hp
  | cons x l ih =>
    obtain ⟨h1, h2⟩ := List.pairwise_cons.1 h
    rcases List.mem_cons.1 hp with e1 | hp1
    · rcases List.mem_cons.1 hp' with e2 | hp2
      · rw [e1, e2]
      · rw [e1] at he
        exact absurd he (h1 p' hp2)
    · rcases List.mem_cons.1 hp' with e2 | hp2
      · rw [e2] at he
        exact absurd he.symm (h1 p hp1)
      · exact ih h2 hp1 hp2
/-- what is left: reduced, and 0 where a row of the others begins. -/
theorem foldl_red {q : Int} (hq : 0 < q) (S : List En) : ∀ o : List Int, RedL q o → RedL q (S.foldl (stepL q) o) := by
  induction S with
  | nil => intro o h; exact h
  | cons p S ih =>
    intro o h
    rw [List.foldl_cons]
    refine ih _ fun j => ?_
    unfold stepL
    rw [lessL_at]
    split
    · exact ⟨Int.emod_nonneg _ (by omega), Int.emod_lt_of_pos _ hq⟩
    · exact h j
theorem redL_red {q : Int} (hq : 0 < q) (W : Nat) (row : List Int) : RedL q (redL W q row) := by
  intro j
  by_cases h : j < max W row.length
  · unfold redL
    rw [tabL_at h]
    exact ⟨Int.emod_nonneg _ (by omega), Int.emod_lt_of_pos _ hq⟩
  · rw [nth_ge (by unfold redL; rw [tabL_len]; omega)]
    exact ⟨Int.le_refl 0, hq⟩
theorem leftL_red {q : Int} (hq : 0 < q) (W : Nat) (S : List En) (row : List Int) : RedL q (leftL q W S row) := foldl_red hq S _ (redL_red hq W row)
theorem foldl_zero {q : Int} {W : Nat} {S : List En} (hG : GoodS q W S) {p : En} (hp : p ∈ S) (h1 : nth p.row p.at_ = 1) (h2 : ∀ p' ∈ S, p'.at_ ≠ p.at_ → nth p'.row p.at_ = 0) :
    ∀ (l : List En) (o : List Int), (∀ x ∈ l, x ∈ S) → RedL q o → (p ∈ l ∨ nth o p.at_ = 0) → nth (l.foldl (stepL q) o) p.at_ = 0 := by
  intro l
  induction l with
  | nil => intro o _ _ h; rcases h with h | h; cases h; exact h
  | cons x l ih =>
    intro o hl hr h
    rw [List.foldl_cons]
    have hq : 0 < q := by have := hr 0; omega
    have hxS := hl x (List.mem_cons_self ..)
    have hr2 := foldl_red hq [x] o hr
    refine ih _ (fun y hy => hl y (List.mem_cons_of_mem _ hy)) hr2 ?_
    by_cases hx : x.at_ = p.at_
    · right
      obtain rfl := key_one hG.nd hxS hp hx
      unfold stepL
      rw [lessL_at]
      split
      · rw [h1, Int.one_mul, Int.sub_self]; simp
      · rename_i hn
        rw [nth_ge]
        rw [hG.len x hp] at hn
        have := hG.lt x hp
        omega
    · rcases h with h | h
      · rcases List.mem_cons.1 h with rfl | h
        · exact absurd rfl hx
        · exact .inl h
      · right
        unfold stepL
        rw [lessL_at]
        split
        · rw [h, h2 x hxS hx, Int.zero_mul, Int.sub_self]; simp
        · exact h
/-- an inverse, or 0. -/
structure InvOf (q : Int) (inv : Int → Int) : Prop where
  one : ∀ x, inv x = 0 ∨ x * inv x % q = 1
theorem put_good {q : Int} {inv : Int → Int} (hq : 0 < q) (hI : InvOf q inv) {W : Nat} {S : List En} (hG : GoodS q W S) {row : List Int} (hr : row.length ≤ W) : GoodS q W (putL q inv W S row) := by
  unfold putL
  have hlen : (leftL q W S row).length = W := by rw [leftL_len]; omega
  have hred := leftL_red hq W S row
  have hz : ∀ p ∈ S, (nth p.row p.at_ = 1 ∧ ∀ p' ∈ S, p'.at_ ≠ p.at_ → nth p'.row p.at_ = 0) → nth (leftL q W S row) p.at_ = 0 := fun p hp h => foldl_zero hG hp h.1 h.2 S _ (fun _ h => h) (redL_red hq W row) (.inl hp)
  generalize leftL q W S row = o at *
  cases hf : firstL o with
  | none => exact hG
  | some k =>
    obtain ⟨hk1, hk2⟩ := firstL_some hf
    rw [hlen] at hk1
    simp only
    have htl : (timesL q o (inv (nth o k))).length = W := by unfold timesL; rw [tabL_len, hlen]
    have hta : ∀ j, nth (timesL q o (inv (nth o k))) j = nth o j * inv (nth o k) % q := by
      intro j
      by_cases hj : j < o.length
      · unfold timesL; rw [tabL_at hj]
      · rw [nth_ge (by rw [htl]; omega), nth_ge (l := o) (by omega), Int.zero_mul]; simp
    have hr1 : ZeroL (timesL q o (inv (nth o k))) ∨ nth (timesL q o (inv (nth o k))) k = 1 := by
      rcases hI.one (nth o k) with h | h
      · left; intro j; rw [hta, h, Int.mul_zero]; simp
      · right; rw [hta]; exact h
    have hrz : ∀ p ∈ S, (nth p.row p.at_ = 1 ∧ ∀ p' ∈ S, p'.at_ ≠ p.at_ → nth p'.row p.at_ = 0) → nth (timesL q o (inv (nth o k))) p.at_ = 0 := fun p hp h => by rw [hta, hz p hp h, Int.zero_mul]; simp
    have hrr : RedL q (timesL q o (inv (nth o k))) := fun j => by rw [hta]; exact ⟨Int.emod_nonneg _ (by omega), Int.emod_lt_of_pos _ hq⟩
    generalize timesL q o (inv (nth o k)) = r at *
    have hmem : ∀ x ∈ (S.map fun p => (⟨p.at_, lessL q p.row r (nth p.row k)⟩ : En)).filter fun p => decide (p.at_ ≠ k), x.at_ ≠ k ∧ ∃ p ∈ S, x = ⟨p.at_, lessL q p.row r (nth p.row k)⟩ := by
      intro x hx
      obtain ⟨h1, h2⟩ := List.mem_filter.1 hx
      obtain ⟨p, hp, rfl⟩ := List.mem_map.1 h1
      exact ⟨by simpa using h2, p, hp, rfl⟩
    have hat : ∀ p ∈ S, ∀ j, nth (lessL q p.row r (nth p.row k)) j = if j < W then (nth p.row j - nth r j * nth p.row k) % q else 0 := by
      intro p hp j
      rw [lessL_at, hG.len p hp, htl]
      by_cases hj : j < W
      · rw [if_pos ⟨hj, hj⟩, if_pos hj]
      · rw [if_neg (fun e => hj e.1), if_neg hj, nth_ge (by rw [hG.len p hp]; omega)]
    refine ⟨?_, ?_, ?_, ?_, ?_⟩
    · refine List.pairwise_cons.2 ⟨fun x hx => Ne.symm (hmem x hx).1, ?_⟩
      refine List.Pairwise.filter _ ?_
      rw [List.pairwise_map]
      exact hG.nd
    · intro x hx
      rcases List.mem_cons.1 hx with rfl | hx
      · exact hk1
      · obtain ⟨_, p, hp, rfl⟩ := hmem x hx
        exact hG.lt p hp
    · intro x hx
      rcases List.mem_cons.1 hx with rfl | hx
      · exact htl
      · obtain ⟨_, p, hp, rfl⟩ := hmem x hx
        show (lessL q p.row r (nth p.row k)).length = W
        rw [lessL_len]; exact hG.len p hp
    · intro x hx
      rcases List.mem_cons.1 hx with rfl | hx
      · exact hrr
      · obtain ⟨_, p, hp, rfl⟩ := hmem x hx
        intro j
        show 0 ≤ nth (lessL q p.row r (nth p.row k)) j ∧ nth (lessL q p.row r (nth p.row k)) j < q
        rw [hat p hp]
        split
        · exact ⟨Int.emod_nonneg _ (by omega), Int.emod_lt_of_pos _ hq⟩
        · exact ⟨Int.le_refl 0, hq⟩
    · intro x hx
      rcases List.mem_cons.1 hx with rfl | hx
      · rcases hr1 with h | h
        · exact .inl h
        · refine .inr ⟨h, fun x' hx' hne => ?_⟩
          rcases List.mem_cons.1 hx' with rfl | hx'
          · exact absurd rfl hne
          · obtain ⟨_, p, hp, rfl⟩ := hmem x' hx'
            show nth (lessL q p.row r (nth p.row k)) k = 0
            rw [hat p hp, if_pos hk1, h, Int.one_mul, Int.sub_self]; simp
      · obtain ⟨hne, p, hp, rfl⟩ := hmem x hx
        rcases hG.piv p hp with h | h
        · left
          intro j
          show nth (lessL q p.row r (nth p.row k)) j = 0
          rw [hat p hp]
          split
          · rw [h j, h k, Int.mul_zero, Int.sub_self]; simp
          · rfl
        · right
          have h0 := hrz p hp h
          refine ⟨?_, fun x' hx' hne' => ?_⟩
          · show nth (lessL q p.row r (nth p.row k)) p.at_ = 1
            have h1 := hG.red p hp p.at_
            rw [h.1] at h1
            rw [hat p hp, if_pos (hG.lt p hp), h.1, h0, Int.zero_mul, Int.sub_zero]
            exact Int.emod_eq_of_lt (by omega) h1.2
          · rcases List.mem_cons.1 hx' with rfl | hx'
            · exact h0
            · obtain ⟨_, p', hp', rfl⟩ := hmem x' hx'
              show nth (lessL q p'.row r (nth p'.row k)) p.at_ = 0
              rw [hat p' hp', if_pos (hG.lt p hp), h.2 p' hp' hne', h0, Int.zero_mul, Int.sub_zero]; simp
end Go.Proofs.YtcojnjhffmhbiaaDoor
end
