/-
  Parts of these texts that the statement needs: Core, JoinT, OpenT, ModB, ShelfB, DivPlain, DivB, MulB, InvB.
-/
import Derived.Test.YtpdgalclnlbeaaaDoorRows
import Derived.Test.YtpdgalclnlbeaaaDoorPlain
import Derived.WalkKit
import Derived.WalkSpells
import Derived.WalkLawsBesides
import Derived.Deep.QuietTactic
import Derived.Deep.Upon
import Derived.BigQuiet
import Derived.OwnWalk
import Derived.Maps.AppendAt
import Derived.Below
import Derived.ChangeSame
import Derived.ProofKit
import Derived.Carry
import Derived.Deep.Matrix
import Derived.Deep.Fields
import Derived.Shelf.Small.Bits
import Derived.Shelf.Strconv.Itoa0
import Derived.Shelf.Bits.Mul64
import Derived.Shelf.Spec.TrailingZeros
import Derived.Shelf.Lays7
import Derived.Test.YtpdgalclnlbeaaaDoorProg
import Derived.Lib.BitFns
import Derived.Lib.ItoaNum
import Derived.Laws.BitsAllLaws

section
namespace Go.Proofs.YtpdgalclnlbeaaaDoor
open Go.RowKit
theorem hid {p : Prop} (h : p) : Hid p := h
theorem ret_int {k : IntKind} {a b : Int} (h : a = b) : Ending.returned (.int k a) = .returned (.int k b) := by rw [h]
theorem ret_bool {a b : Bool} (h : a = b) : Ending.returned (.bool a) = .returned (.bool b) := by rw [h]
/-- a world behind some draws. -/
def Dr (w w' : World) : Prop := ∃ n, w' = w.drewN n
theorem Dr.refl (w : World) : Dr w w := ⟨0, rfl⟩
theorem Dr.more {w w' : World} (h : Dr w w') (n : Nat) : Dr w (w'.drewN n) := by
  obtain ⟨m, rfl⟩ := h
  exact ⟨_, World.drewN_drewN _ _ _⟩
theorem Dr.cell {w w' : World} (h : Dr w w') (p : Addr) : w'.cell? p = w.cell? p := by
  obtain ⟨m, rfl⟩ := h; rfl
theorem Dr.trans {a b c : World} (h : Dr a b) (k : Dr b c) : Dr a c := by
  obtain ⟨m, rfl⟩ := k
  exact h.more m
/-- the slice at A reads as these values, one cell each. -/
def Cells (w : World) (A : Option Addr) (xs : List Value) : Prop :=
  xs = [] ∨ ∃ b off, A = some ⟨b, off, none⟩ ∧ ∀ i u, xs[i]? = some u → w.cell? ⟨b, off + i, none⟩ = some u
theorem Cells.nil (w : World) (A : Option Addr) : Cells w A [] := .inl rfl
theorem lt_of_cell {w : World} {a : Addr} {u : Value} (h : w.cell? a = some u) : a.block < w.heap.size := World.block_lt_of_cell? w a h
theorem Cells.keep {w w' : World} {A : Option Addr} {xs : List Value} (h : Cells w A xs) (hk : ∀ p : Addr, p.block < w.heap.size → w'.cell? p = w.cell? p) : Cells w' A xs := by
  rcases h with h | ⟨b, off, rfl, h⟩
  · exact .inl h
  · exact .inr ⟨b, off, rfl, fun i u hu => (hk _ (lt_of_cell (h i u hu))).trans (h i u hu)⟩
theorem Cells.below {w w' : World} {A : Option Addr} {xs : List Value} (h : Cells w A xs) (hb : Below w.heap.size w w') : Cells w' A xs := h.keep fun _ hp => hb.cell hp
theorem Cells.drewN {w : World} {A : Option Addr} {xs : List Value} (h : Cells w A xs) (n : Nat) : Cells (w.drewN n) A xs := h
theorem Cells.dr {w w' : World} {A : Option Addr} {xs : List Value} (h : Cells w A xs) (hd : Dr w w') : Cells w' A xs := by
  obtain ⟨n, rfl⟩ := hd; exact h
theorem Cells.at_ {w : World} {A : Option Addr} {xs : List Value} (h : Cells w A xs) {k : Nat} {u : Value} (hk : xs[k]? = some u) :
    ∃ b off, A = some ⟨b, off, none⟩ ∧ w.cell? ⟨b, off + k, none⟩ = some u := by
  rcases h with h | ⟨b, off, rfl, h⟩
  · subst h; simp at hk
  · exact ⟨b, off, rfl, h k u hk⟩
theorem Cells.at_map {w : World} {A : Option Addr} {α : Type} {f : α → Value} {l : List α} (h : Cells w A (l.map f)) {k : Nat} {x : α} (hk : l[k]? = some x) :
    ∃ b off, A = some ⟨b, off, none⟩ ∧ w.cell? ⟨b, off + k, none⟩ = some (f x) := h.at_ (by simp [hk])
theorem get_of_lt {α : Type} {l : List α} {k : Nat} (h : k < l.length) : ∃ x, l[k]? = some x := ⟨_, List.getElem?_eq_getElem h⟩
abbrev u64 (x : Int) : Value := .int .u64 x
/-- what the program's table says of a slice type and of its element type, of one cell. -/
structure Elt (P : Program) (t e : TypeId) (z : Value) (bytes : Nat) : Prop where
  under : P.underlying t = some (.slice e)
  info : ∃ i, P.info? e = some i ∧ i.zero = some z ∧ i.size = 1 ∧ i.bytes = bytes
  one : z.cells.size = 1
  zc : z.cells = #[z]
theorem Elt.of {P : Program} {t e : TypeId} {z : Value} {bytes : Nat} (hu : P.underlying t = some (.slice e)) (hi : (P.info? e).map (fun i => (i.zero, i.size, i.bytes)) = some (some z, 1, bytes)) (hz : z.cells = #[z]) : Elt P t e z bytes :=
  ⟨hu, info_parts hi, by rw [hz]; rfl, hz⟩
/-- v is a slice of this call's own (its block is 'base' or later), of elements of type e, of one cell each. -/
def Own (w : World) (base : Nat) (e : TypeId) (v : Value) (xs : List Value) : Prop := w.ownsRow base e 1 v xs.length xs
section
variable {w w' : World} {base : Nat} {e : TypeId} {v : Value} {xs : List Value}
theorem Own.nil (w : World) (base : Nat) (e : TypeId) : Own w base e (.slice none 0 0) [] := ⟨rfl, .inl ⟨rfl, rfl⟩⟩
theorem Own.block (h : Own w base e v xs) : ∀ g, v.ownBlock = some g → base ≤ g ∧ g < w.heap.size := World.ownsRow.lt h
theorem Own.form (h : Own w base e v xs) : ∃ A cap, v = .slice A xs.length cap ∧ Cells w A xs := by
  rcases h.2 with ⟨rfl, h0⟩ | ⟨g, cap, cur, rfl, hb, hg, hn, hm, hs, ht⟩
  · obtain rfl := List.eq_nil_of_length_eq_zero h0
    exact ⟨none, 0, rfl, .inl rfl⟩
  · refine ⟨_, cap, rfl, .inr ⟨g, 0, rfl, fun i u hu => ?_⟩⟩
    have := World.ownsRow.cells (w := w) h (g := g) rfl i u hu
    have hadd : (⟨g, 0, none⟩ : Addr).add i = ⟨g, 0 + i, none⟩ := by unfold Addr.add; split <;> simp_all
    rwa [hadd] at this
theorem Own.len_le (h : Own w base e v xs) : xs.length ≤ 9223372036854775807 := by
  rcases h.2 with ⟨rfl, h0⟩ | ⟨g, cap, cur, rfl, hb, hg, hn, hm, hs, ht⟩
  · omega
  · unfold maxLen at hm; omega
theorem Own.keep (h : Own w base e v xs) (hk : ∀ g, v.ownBlock = some g → w'.heap[g]? = w.heap[g]?) : Own w' base e v xs := by
  refine ⟨h.1, ?_⟩
  rcases h.2 with hn | ⟨g, cap, cur, rfl, hb, hg, rest⟩
  · exact .inl hn
  · exact .inr ⟨g, cap, cur, rfl, hb, (hk g rfl).trans hg, rest⟩
theorem Own.below (h : Own w base e v xs) (hb : Below w.heap.size w w') : Own w' base e v xs := h.keep fun g hg => hb.block g (h.block g hg).2
theorem Own.dr (h : Own w base e v xs) (hd : Dr w w') : Own w' base e v xs := by
  obtain ⟨n, rfl⟩ := hd; exact h
theorem Own.alloc (h : Own w base e v xs) (o : Obj) : Own (w.alloc o) base e v xs := h.keep fun g hg => Below.heap_alloc w o g (h.block g hg).2
theorem Own.from_ (h : Own w base e v xs) {b : Nat} (hb : b ≤ base) : Own w b e v xs := by
  refine ⟨h.1, ?_⟩
  rcases h.2 with hn | ⟨g, cap, cur, rfl, hg, rest⟩
  · exact .inl hn
  · exact .inr ⟨g, cap, cur, rfl, Nat.le_trans hb hg, rest⟩
end
theorem Dr.size {w w' : World} (h : Dr w w') : w'.heap.size = w.heap.size := by
  obtain ⟨n, rfl⟩ := h; rfl
theorem below_dr {B : Nat} {a w w' : World} (h : Below B a w) (hd : Dr w w') : Below B a w' := by
  obtain ⟨n, rfl⟩ := hd; exact ⟨h.os, h.tape, h.output, h.size, h.block⟩
theorem below_of_dr {B : Nat} {w w' : World} (hd : Dr w w') : Below B w w' := below_dr (Below.refl B w) hd
/-- behind a call that makes memory. -/
theorem below_next {B : Nat} {a w w' : World} (h : Below B a w) (hB : B ≤ w.heap.size) (hb : Below w.heap.size w w') : Below B a w' := h.trans (hb.mono hB)
/-- a row of a fixed length in a block of its own. -/
def Row1 (w : World) (g : Nat) (e : TypeId) (xs : List Value) : Prop := w.heap[g]? = some (.cells xs.toArray e (0, 0))
section
variable {w w' : World} {g : Nat} {e : TypeId} {xs : List Value}
theorem Row1.lt (h : Row1 w g e xs) : g < w.heap.size := (Array.getElem?_eq_some_iff.1 h).1
theorem Row1.keep (h : Row1 w g e xs) (hk : w'.heap[g]? = w.heap[g]?) : Row1 w' g e xs := hk.trans h
theorem Row1.below (h : Row1 w g e xs) (hb : Below w.heap.size w w') : Row1 w' g e xs := h.keep (hb.block g h.lt)
theorem Row1.dr (h : Row1 w g e xs) (hd : Dr w w') : Row1 w' g e xs := by
  obtain ⟨n, rfl⟩ := hd; exact h
theorem Row1.alloc (h : Row1 w g e xs) (o : Obj) : Row1 (w.alloc o) g e xs := h.keep (Below.heap_alloc w o g h.lt)
theorem Row1.cell (h : Row1 w g e xs) {k : Nat} {u : Value} (hk : xs[k]? = some u) : w.cell? ⟨g, k, none⟩ = some u := by
  rw [cell_of_row w g k _ e (0, 0) h]
  simpa using hk
theorem Row1.frozen (h : Row1 w g e xs) (k : Nat) : w.frozen? ⟨g, k, none⟩ = false := by
  unfold Row1 at h
  simp [World.frozen?, h]
theorem Row1.set (h : Row1 w g e xs) (k : Nat) (u : Value) : Row1 (w.setCell ⟨g, k, none⟩ u) g e (xs.set k u) := by
  unfold Row1 at h ⊢
  simp [World.setCell, Array.getElem?_modify, h]
theorem Row1.far (h : Row1 w g e xs) {p : Addr} (hp : p.block ≠ g) (u : Value) : Row1 (w.setCell p u) g e xs := h.keep (Below.heap_setCell w p u g (Ne.symm hp))
theorem Row1.cells (h : Row1 w g e xs) : Cells w (some ⟨g, 0, none⟩) xs := .inr ⟨g, 0, rfl, fun i u hu => by rw [Nat.zero_add]; exact h.cell hu⟩
theorem Row1.own {base : Nat} (h : Row1 w g e xs) (hb : base ≤ g) (hl : xs.length ≤ 9223372036854775807) : Own w base e (.slice (some ⟨g, 0, none⟩) xs.length xs.length) xs :=
  ⟨by omega, .inr ⟨g, xs.length, xs.toArray, rfl, hb, h, Nat.le_refl _, by unfold maxLen; omega, by simp, by simp⟩⟩
end
theorem madeCells_one (z : Value) (n : Nat) : madeCells #[z] n = (List.replicate n z).toArray := by
  simp only [madeCells]
  apply Array.ext
  · simp
  · intro i h1 h2
    simp [Nat.mod_one]
/-- 'make([]T, n)', n a variable: a row of zeros in a new block. -/
theorem wpList_make_row {P : Program} {t e : TypeId} {z : Value} {bytes : Nat} (E : Elt P t e z bytes) (w : World) {ops : Array Oper} {rest : List Oper} {o : Oper} {a : Act} {Q : Exit → Act → World → Prop}
    (hg : o.guard = none) (l c : Operand) (hop : o.op = Op.makeSlice t l c)
    (kl kc : IntKind) (L C : Int) (n : Nat) (hl : a.eval l = .int kl L) (hc : a.eval c = .int kc C) (hL : L = (n : Int)) (hC : C = (n : Int)) (b2 : bytes * n ≤ 281474976710656) (b3 : n ≤ 9223372036854775807)
    (hK : ∀ w', Row1 w' w.heap.size e (List.replicate n z) → w'.heap.size = w.heap.size + 1 → Below w.heap.size w w' → wpList P ops Q rest (a.put o.dst (.slice (some ⟨w.heap.size, 0, none⟩) n n)) w') :
    wpList P ops Q (o :: rest) a w := by
  obtain ⟨i, hi, hz, hs, hby⟩ := E.info
  refine wpList_plain hg fun K hK' => ?_
  have hb : (i.bytes : Int) * (n : Int) ≤ 281474976710656 := by
    rw [hby]
    have h : ((bytes * n : Nat) : Int) ≤ 281474976710656 := by omega
    rwa [Int.natCast_mul] at h
  have hr := run_make (P := P) w t e i z E.under hi hz kl kc (n : Int) (n : Int) (by omega) (by omega) hb (by omega)
  simp only [Int.toNat_natCast] at hr
  subst hL
  subst hC
  unfold Oper.wp
  simp [execOp, hop, hl, hc, hr, Result.andThen]
  refine hK' _ _ (hK _ ?_ (by simp) ((Below.refl _ _).alloc (Nat.le_refl _) _))
  unfold Row1
  rw [heap_alloc_new, hs, E.zc, Nat.mul_one, madeCells_one]
theorem wp_push {P : Program} {t e : TypeId} {z : Value} {bytes : Nat} (E : Elt P t e z bytes) (wr : World) {o : Oper} {a : Act} {K : Act → World → Prop} {Q : Exit → Act → World → Prop}
    (s x : Operand) (hop : o.op = .call { callee := .builtin .append, args := #[s, x], argTypes := #[t, t] })
    (base : Nat) {v : Value} {xs : List Value} (hown : Own wr base e v xs) (hs : a.eval s = v) (u : Value) (hx : a.eval x = .slice (some ⟨wr.heap.size, 0, none⟩) 1 1) (h1 : u.oneCell' = true)
    (hb : (xs.length + 1) * bytes ≤ 140737488355328) (hm : xs.length + 1 ≤ 9223372036854775807) (hbase : base ≤ wr.heap.size)
    (hK : ∀ v' w', Own w' base e v' (xs ++ [u]) → (∀ k, k < wr.heap.size → some k ≠ v.ownBlock → w'.heap[k]? = wr.heap[k]?) → Below base wr w' → K (a.put o.dst v') w') :
    o.wp P a (wr.alloc (.cells #[u] e)) K Q := by
  obtain ⟨i, hi, hz, hsz, hby⟩ := E.info
  refine wp_append_own (P := P) (wr.alloc (.cells #[u] e)) s x t hop base e i z 1 bytes E.under hi hz hsz hby E.one (by decide) v xs.length xs hs (hown.alloc _) ⟨wr.heap.size, 0, none⟩ 1 1 [u] hx rfl (cell_one_new _ _ _)
    (by simpa using h1) (by unfold maxLen; omega) hb (by simp; omega) ?_
  intro v' w' h2 h3 _
  refine hK v' w' ?_ (fun k hk hne => ?_) ?_
  · unfold Own; rw [List.length_append]; exact h2
  · rw [h3.block k (by simp; omega) hne, Below.heap_alloc wr _ k hk]
  · refine ((Below.refl _ _).alloc hbase _).grown h3 (by simp; omega) fun k hk => (hown.block k hk).1
/-- 'out = append(out, u)': u lies in a block that was laid for it just now. -/
theorem wpList_push {P : Program} {t e : TypeId} {z : Value} {bytes : Nat} (E : Elt P t e z bytes) (wr : World) {ops : Array Oper} {rest : List Oper} {o : Oper} {a : Act} {Q : Exit → Act → World → Prop}
    (hg : o.guard = none) (s x : Operand) (hop : o.op = .call { callee := .builtin .append, args := #[s, x], argTypes := #[t, t] })
    (base : Nat) {v : Value} {xs : List Value} (hown : Own wr base e v xs) (hs : a.eval s = v) (u : Value) (hx : a.eval x = .slice (some ⟨wr.heap.size, 0, none⟩) 1 1) (h1 : u.oneCell' = true)
    (hb : (xs.length + 1) * bytes ≤ 140737488355328) (hm : xs.length + 1 ≤ 9223372036854775807) (hbase : base ≤ wr.heap.size)
    (hK : ∀ v' w', Own w' base e v' (xs ++ [u]) → (∀ k, k < wr.heap.size → some k ≠ v.ownBlock → w'.heap[k]? = wr.heap[k]?) → Below base wr w' → wpList P ops Q rest (a.put o.dst v') w') :
    wpList P ops Q (o :: rest) a (wr.alloc (.cells #[u] e)) :=
  wpList_plain hg fun _ hK' => wp_push E wr s x hop base hown hs u hx h1 hb hm hbase fun v' w' h2 h3 h4 => hK' _ _ (hK v' w' h2 h3 h4)
/-- 'append(s, l...)': l lies anywhere. -/
theorem wpList_appends {P : Program} {t e : TypeId} {z : Value} {bytes : Nat} (E : Elt P t e z bytes) (wr : World) {ops : Array Oper} {rest : List Oper} {o : Oper} {a : Act} {Q : Exit → Act → World → Prop}
    (hg : o.guard = none) (s x : Operand) (hop : o.op = .call { callee := .builtin .append, args := #[s, x], argTypes := #[t, t] })
    (base : Nat) {v : Value} {xs : List Value} (hown : Own wr base e v xs) (hs : a.eval s = v) {A : Addr} {c : Nat} {news : List Value} (hnew : Cells wr (some A) news) (hx : a.eval x = .slice (some A) news.length c) (h1 : ∀ u ∈ news, u.oneCell' = true)
    (hb : (xs.length + news.length) * bytes ≤ 140737488355328) (hm : xs.length + news.length ≤ 9223372036854775807) (hbase : base ≤ wr.heap.size)
    (hK : ∀ v' w', Own w' base e v' (xs ++ news) → (∀ k, k < wr.heap.size → some k ≠ v.ownBlock → w'.heap[k]? = wr.heap[k]?) → Below base wr w' → wpList P ops Q rest (a.put o.dst v') w') :
    wpList P ops Q (o :: rest) a wr := by
  obtain ⟨i, hi, hz, hsz, hby⟩ := E.info
  refine wpList_append_own wr hg s x t hop base e i z 1 bytes E.under hi hz hsz hby E.one (by decide) v xs.length xs hs hown A news.length c news hx (by omega) (fun j u hu => ?_) h1 (by unfold maxLen; omega) hb hbase ?_
  · rcases hnew with h | ⟨b, off, h, hc⟩
    · subst h; simp at hu
    · obtain rfl := Option.some.inj h
      have hadd : (⟨b, off, none⟩ : Addr).add j = ⟨b, off + j, none⟩ := by unfold Addr.add; split <;> simp_all
      rw [hadd]
      exact hc j u hu
  · intro v' w' h2 h3 _
    refine hK v' w' ?_ (fun k hk hne => h3.block k hk hne) ((Below.refl _ _).grown h3 hbase fun k hk => (hown.block k hk).1)
    unfold Own; rw [List.length_append]; exact h2
/-- a row of this call's own that is not empty: its cells may be written. -/
theorem Own.row {w : World} {base : Nat} {e : TypeId} {v : Value} {xs : List Value} (h : Own w base e v xs) (hne : 0 < xs.length) :
    ∃ g cap, v = .slice (some ⟨g, 0, none⟩) xs.length cap ∧ base ≤ g ∧ g < w.heap.size ∧ (∀ k u, xs[k]? = some u → w.cell? ⟨g, k, none⟩ = some u) ∧ (∀ k, w.frozen? ⟨g, k, none⟩ = false) ∧
      ∀ w' : World, w'.heap[g]? = w.heap[g]? → ∀ k u', k < xs.length → Own (w'.setCell ⟨g, k, none⟩ u') base e v (xs.set k u') := by
  rcases h.2 with ⟨rfl, h0⟩ | ⟨g, cap, cur, rfl, hb, hg, hn, hm, hs, ht⟩
  · omega
  · refine ⟨g, cap, rfl, hb, (Array.getElem?_eq_some_iff.1 hg).1, fun k u hu => ?_, fun k => ?_, fun w' hw' k u' hk => ?_⟩
    · have := World.ownsRow.cells (w := w) h (g := g) rfl k u hu
      have hadd : (⟨g, 0, none⟩ : Addr).add k = ⟨g, 0 + k, none⟩ := by unfold Addr.add; split <;> simp_all
      rw [hadd, Nat.zero_add] at this
      exact this
    · simp [World.frozen?, hg]
    · refine ⟨by simp, .inr ⟨g, cap, cur.set! k u', by simp, hb, ?_, by simpa using hn, hm, by simpa using hs, ?_⟩⟩
      · rw [hg] at hw'
        simp [World.setCell, Array.getElem?_modify, hw']
      · rw [List.length_set, Array.set!_eq_setIfInBounds, Array.toList_setIfInBounds]
        rw [List.take_set, ht]
theorem row1_new (w : World) (xs : List Value) (e : TypeId) : Row1 (w.alloc (.cells xs.toArray e)) w.heap.size e xs := heap_alloc_new w _
theorem below_alloc (w : World) (o : Obj) : Below w.heap.size w (w.alloc o) := (Below.refl _ _).alloc (Nat.le_refl _) _
/-- a list that lies in blocks of the kind e. -/
def RowT (w : World) (e : TypeId) (v : Value) (xs : List Value) : Prop :=
  ∃ A c, v = .slice A xs.length c ∧ xs.length ≤ 9223372036854775807 ∧ (xs = [] ∨ ∃ b off arr fz, A = some ⟨b, off, none⟩ ∧ w.heap[b]? = some (Obj.cells arr e fz) ∧ ∀ i u, xs[i]? = some u → w.cell? ⟨b, off + i, none⟩ = some u)
section
variable {w w' : World} {e e0 : TypeId} {v v0 : Value} {xs ys : List Value} {base : Nat}
theorem RowT.form (h : RowT w e v xs) : ∃ A c, v = .slice A xs.length c ∧ Cells w A xs ∧ xs.length ≤ 9223372036854775807 := by
  obtain ⟨A, c, rfl, hl, h⟩ := h
  refine ⟨A, c, rfl, ?_, hl⟩
  rcases h with h | ⟨b, off, arr, fz, rfl, _, hc⟩
  · exact .inl h
  · exact .inr ⟨b, off, rfl, hc⟩
theorem RowT.block (h : RowT w e v xs) (hk : ∀ (b : Nat) (arr : Array Value) (fz : Nat × Nat), w.heap[b]? = some (Obj.cells arr e fz) → w'.heap[b]? = w.heap[b]?) : RowT w' e v xs := by
  obtain ⟨A, c, rfl, hl, h⟩ := h
  refine ⟨A, c, rfl, hl, ?_⟩
  rcases h with h | ⟨b, off, arr, fz, rfl, hb, hc⟩
  · exact .inl h
  · refine .inr ⟨b, off, arr, fz, rfl, (hk b arr fz hb).trans hb, fun i u hu => ?_⟩
    rw [World.cell?_of_block (a := ⟨b, off + i, none⟩) (hk b arr fz hb)]
    exact hc i u hu
theorem RowT.below (h : RowT w e v xs) (hb : Below w.heap.size w w') : RowT w' e v xs := h.block fun b _ _ h1 => hb.block b (Array.getElem?_eq_some_iff.1 h1).1
theorem RowT.other (h : RowT w e v xs) (hown : Own w base e0 v0 ys) (hne : e ≠ e0) (hk : ∀ k, k < w.heap.size → some k ≠ v0.ownBlock → w'.heap[k]? = w.heap[k]?) : RowT w' e v xs := by
  refine h.block fun b arr fz h1 => hk b (Array.getElem?_eq_some_iff.1 h1).1 fun hb => ?_
  rcases hown.2 with ⟨rfl, _⟩ | ⟨g, cap, cur, rfl, _, hg, _⟩
  · cases hb
  · simp only [Value.ownBlock, Option.some.injEq] at hb
    subst hb
    rw [h1] at hg
    simp only [Option.some.injEq, Obj.cells.injEq] at hg
    exact hne hg.2.1
theorem RowT.nil (w : World) (e : TypeId) (A : Option Addr) (c : Nat) : RowT w e (.slice A 0 c) [] := ⟨A, c, rfl, by simp, .inl rfl⟩
theorem Own.rowT (h : Own w base e v xs) : RowT w e v xs := by
  have hl := h.len_le
  obtain ⟨A, cap, rfl, hc⟩ := h.form
  rcases h.2 with ⟨h1, h0⟩ | ⟨g, cap', cur, h1, _, hg, _⟩
  · obtain rfl := List.eq_nil_of_length_eq_zero h0
    exact ⟨A, cap, rfl, hl, .inl rfl⟩
  · refine ⟨A, cap, rfl, hl, ?_⟩
    simp only [Value.slice.injEq] at h1
    obtain ⟨rfl, _, _⟩ := h1
    rcases hc with h2 | ⟨b, off, h2, hc⟩
    · exact .inl h2
    · simp only [Option.some.injEq, Addr.mk.injEq] at h2
      obtain ⟨rfl, rfl, _⟩ := h2
      exact .inr ⟨g, 0, cur, (0, 0), rfl, hg, hc⟩
end
/-- a list of lists whose own row this call owns. -/
def OwnRows (w : World) (base : Nat) (e0 e : TypeId) (v : Value) (f : List (List Value)) : Prop := ∃ vs : List Value, Own w base e0 v vs ∧ vs.length = f.length ∧ ∀ (j : Nat) u xs, vs[j]? = some u → f[j]? = some xs → RowT w e u xs
section
variable {w w' : World} {e e0 : TypeId} {v v' : Value} {f : List (List Value)} {base : Nat}
theorem OwnRows.nil (w : World) (base : Nat) (e0 e : TypeId) : OwnRows w base e0 e (.slice none 0 0) [] := ⟨[], Own.nil _ _ _, rfl, fun j u xs h => by simp at h⟩
theorem OwnRows.below (h : OwnRows w base e0 e v f) (hb : Below w.heap.size w w') : OwnRows w' base e0 e v f := by
  obtain ⟨vs, h1, h2, h3⟩ := h
  exact ⟨vs, h1.below hb, h2, fun j u xs a b => (h3 j u xs a b).below hb⟩
theorem OwnRows.from_ (h : OwnRows w base e0 e v f) {b : Nat} (hb : b ≤ base) : OwnRows w b e0 e v f := by
  obtain ⟨vs, h1, h2, h3⟩ := h
  exact ⟨vs, h1.from_ hb, h2, h3⟩
/-- one more. -/
theorem OwnRows.push {vs : List Value} {u : Value} {xs : List Value} (hne : e ≠ e0) (hl : vs.length = f.length) (h3 : ∀ (j : Nat) u xs, vs[j]? = some u → f[j]? = some xs → RowT w e u xs) (hold : Own w base e0 v vs) (hu : RowT w e u xs)
    (hnew : Own w' base e0 v' (vs ++ [u])) (hk : ∀ k, k < w.heap.size → some k ≠ v.ownBlock → w'.heap[k]? = w.heap[k]?) : OwnRows w' base e0 e v' (f ++ [xs]) := by
  refine ⟨vs ++ [u], hnew, by simp [hl], fun j u' xs' h1 h2 => ?_⟩
  rcases Nat.lt_or_ge j vs.length with h | h
  · rw [List.getElem?_append_left h] at h1
    rw [List.getElem?_append_left (by omega)] at h2
    exact (h3 j u' xs' h1 h2).other hold hne hk
  · rw [List.getElem?_append_right h] at h1
    rw [List.getElem?_append_right (by omega), ← hl] at h2
    cases hj : j - vs.length with
    | zero =>
      rw [hj] at h1 h2
      obtain rfl := Option.some.inj h1
      obtain rfl := Option.some.inj h2
      exact hu.other hold hne hk
    | succ n => rw [hj] at h1; simp at h1
end
/-- a row of this call's own, of which only the length counts: it may be written over. -/
def Writ (w : World) (base : Nat) (e : TypeId) (v : Value) (n : Nat) : Prop := ∃ xs, Own w base e v xs ∧ xs.length = n
theorem Own.writ {w : World} {base : Nat} {e : TypeId} {v : Value} {xs : List Value} (h : Own w base e v xs) : Writ w base e v xs.length := ⟨xs, h, rfl⟩
theorem Writ.below {w w' : World} {base : Nat} {e : TypeId} {v : Value} {n : Nat} (h : Writ w base e v n) (hb : Below w.heap.size w w') : Writ w' base e v n := by
  obtain ⟨xs, h1, h2⟩ := h
  exact ⟨xs, h1.below hb, h2⟩
theorem Writ.set {w : World} {base : Nat} {e : TypeId} {v : Value} {n : Nat} (h : Writ w base e v n) (g k : Nat) (u : Value) : Writ (w.setCell ⟨g, k, none⟩ u) base e v n := by
  obtain ⟨xs, h1, h2⟩ := h
  rcases h1.2 with ⟨rfl, h0⟩ | ⟨g', cap, cur, rfl, hb, hg, hn, hm, hs, ht⟩
  · have hx := List.eq_nil_of_length_eq_zero h0
    subst hx
    exact ⟨[], Own.nil _ _ _, h2⟩
  · by_cases hgg : g' = g
    · subst hgg
      have hl : ((cur.set! k u).toList.take xs.length).length = xs.length := by
        simp at hs ⊢
        omega
      refine ⟨(cur.set! k u).toList.take xs.length, ⟨by simp, .inr ⟨g', cap, cur.set! k u, by rw [hl], hb, ?_, by rw [hl]; exact hn, hm, by simpa using hs, by rw [hl]; simp⟩⟩, by rw [hl, h2]⟩
      simp [World.setCell, Array.getElem?_modify, hg]
    · refine ⟨xs, h1.keep fun k' hk' => ?_, h2⟩
      simp only [Value.ownBlock, Option.some.injEq] at hk'
      subst hk'
      exact Below.heap_setCell w _ u _ hgg
/-- its cells. -/
theorem Writ.at_ {w : World} {base : Nat} {e : TypeId} {v : Value} {n : Nat} (h : Writ w base e v n) {k : Nat} (hk : k < n) : ∃ g cap u, v = .slice (some ⟨g, 0, none⟩) n cap ∧ base ≤ g ∧ g < w.heap.size ∧ w.cell? ⟨g, k, none⟩ = some u ∧ w.frozen? ⟨g, k, none⟩ = false ∧ ∃ arr, w.heap[g]? = some (Obj.cells arr e (0, 0)) := by
  obtain ⟨xs, h1, rfl⟩ := h
  obtain ⟨g, cap, rfl, h2, h3, h4, h5, _⟩ := h1.row (by omega)
  obtain ⟨u, hu⟩ := get_of_lt hk
  refine ⟨g, cap, u, rfl, h2, h3, h4 k u hu, h5 k, ?_⟩
  rcases h1.2 with ⟨h6, _⟩ | ⟨g', cap', cur, h6, _, hg, _⟩
  · cases h6
  · simp only [Value.slice.injEq, Option.some.injEq, Addr.mk.injEq] at h6
    obtain ⟨⟨rfl, _, _⟩, _, _⟩ := h6
    exact ⟨cur, hg⟩
theorem Writ.form {w : World} {base : Nat} {e : TypeId} {v : Value} {n : Nat} (h : Writ w base e v n) : ∃ A cap, v = .slice A n cap ∧ n ≤ 9223372036854775807 := by
  obtain ⟨xs, h1, rfl⟩ := h
  have hl := h1.len_le
  obtain ⟨A, cap, rfl, _⟩ := h1.form
  exact ⟨A, cap, rfl, hl⟩
theorem quiet_dr {P : Program} {f : FuncId} {args : Array Value} {w : World} {n : Nat} {v : Value}
    (h : Calls P f args (w.drewN n) fun e w' => e = .returned v ∧ Dr (w.drewN n) w') : Calls P f args (w.drewN n) fun e w'' => e = .returned v ∧ ∃ m, w'' = w.drewN m :=
  h.mono fun _ _ ⟨he, m, hm⟩ => ⟨he, n + m, by rw [hm, World.drewN_drewN]⟩
end Go.Proofs.YtpdgalclnlbeaaaDoor
end

section
namespace Go.Proofs.YtpdgalclnlbeaaaDoor
open Go.ChangeShapes Go.WideShapes Go.ChangeAt Go.RowKit
theorem Tryd.own : ownKnob Tryd.prog.godebug = none := by kernel_rfl
section
variable {H : Type} {enc : TypeId × Value → H} {P : Program}
end
/-- what the opening of a number tells. -/
theorem u64_of {x : Int} (h : (Lit.int .u64 x).wf = true) : U64 x := by
  simp [Lit.wf, IntKind.min, IntKind.max, IntKind.signed, IntKind.bits] at h
  exact ⟨by omega, by omega⟩
theorem i64_of {x : Int} (h : (Lit.int .i64 x).wf = true) : I64 x := by
  simp [Lit.wf, IntKind.min, IntKind.max, IntKind.signed, IntKind.bits] at h
  exact ⟨by omega, by omega⟩
end Go.Proofs.YtpdgalclnlbeaaaDoor
end

section
namespace Go.Proofs.YtpdgalclnlbeaaaDoor
open Go.ChangeShapes Go.WideShapes Go.ChangeAt Go.RowKit Go.Deep
theorem Tryd.laidOut : laidOutB Tryd.prog = true := by kernel_rfl
section
variable {H : Type} {enc : TypeId × Value → H} {P : Program}
/-- types that may be read again. -/
def again (P : Program) (ts : List TypeId) : Bool := ts.all fun t => P.readableRec t && decide (t < P.types.size)
theorem trodAll_below (hl : laidOutB P = true) {W W' : World} (hb : Below W.heap.size W W') : ∀ {ts : List TypeId} {vs : List Value} {ds : List (DataW H)} {ps : List MemPlace}, again P ts = true →
    DataW.TrodAll enc P W 0 (fun _ => true) true ts vs ds ps → (∀ x ∈ ps, x.block < W.heap.size) → DataW.TrodAll enc P W' 0 (fun b => decide (b < W.heap.size)) true ts vs ds ps
  | [], [], [], _, _, h, _ => h
  | t :: ts, v :: vs, d :: ds, _, ht, ⟨p, q, h1, h2, rfl⟩, hlt => by
    simp only [again, List.all_cons, Bool.and_eq_true, decide_eq_true_eq] at ht
    exact ⟨p, q, Below.trod hl ht.1.1 ht.1.2 h1 hb fun x hx => hlt x (List.mem_append_left _ hx),
      trodAll_below hl hb (by simpa only [again, Bool.and_eq_true, decide_eq_true_eq] using ht.2) h2 fun x hx => hlt x (List.mem_append_right _ hx), rfl⟩
  | [], [], _ :: _, _, _, h, _ => h.elim
  | [], _ :: _, _, _, _, h, _ => h.elim
  | _ :: _, [], _, _, _, h, _ => h.elim
  | _ :: _, _ :: _, [], _, _, h, _ => h.elim
/-- a law that answers true, and leaves all that was there. -/
theorem post_true {f : Func} {s : ChangeSpec} {fresh handsOn : Bool} {W W' : World} {args : Array Value} {ds gs : List (DataW H)} {before : List MemPlace} {tb : TypeId}
    (hW : DataW.Whole enc P f.params.toList s.vars false W args.toList ds gs before) (hb : Below W.heap.size W W') (hl : laidOutB P = true) (hts : again P f.params.toList = true) (hv : s.vars = [])
    (hr : (s.fn H (ds ++ gs)).results = [.lit (.bool true)]) (ha : (s.fn H (ds ++ gs)).args = ds) (hvs : (s.fn H (ds ++ gs)).vars = []) (hrt : f.resultTypes = #[tb]) (htb : P.underlying tb = some .bool) :
    s.post enc P f false fresh handsOn false W args (.bool true) W' := by
  have hlt := hW.lt
  have hW2 := hW
  obtain ⟨p, q, hA, hV, rfl, _⟩ := hW2
  rw [hv] at hV
  obtain ⟨rfl, rfl⟩ := trodVars_none hV
  rw [List.append_nil] at hlt
  have hA' := trodAll_below hl hb hts hA hlt
  refine ⟨ds, [], p ++ [], [], p, [], hW, ?_, ?_, ?_, World.keptBut_mono (fun x hx => ⟨hx, .inr (.inl (by simpa using hx))⟩) (hb.frame (· ∈ p ++ [])), fun h => by cases h⟩
  · rw [hr, hrt]
    exact trodAll_mk1 (shut_bool htb true)
  · rw [ha]; exact hA'
  · rw [hvs, hv]; exact rfl
theorem trodAll_more {w : World} {base : Nat} {spare : Nat → Bool} {held : Bool} {t : TypeId} {ts : List TypeId} {vs : List Value} {ds : List (DataW H)} {ps : List MemPlace} (h : DataW.TrodAll enc P w base spare held (t :: ts) vs ds ps) :
    ∃ v vs' d ds' p q, vs = v :: vs' ∧ ds = d :: ds' ∧ ps = p ++ q ∧ DataW.Trod enc P w base spare held t v d p ∧ DataW.TrodAll enc P w base spare held ts vs' ds' q := by
  cases vs with
  | nil => cases ds <;> exact h.elim
  | cons v vs' =>
    cases ds with
    | nil => exact h.elim
    | cons d ds' =>
      obtain ⟨p, q, h1, h2, rfl⟩ := h
      exact ⟨v, vs', d, ds', p, q, rfl, rfl, rfl, h1, h2⟩
theorem trodAll_end {w : World} {base : Nat} {spare : Nat → Bool} {held : Bool} {vs : List Value} {ds : List (DataW H)} {ps : List MemPlace} (h : DataW.TrodAll enc P w base spare held [] vs ds ps) : vs = [] ∧ ds = [] ∧ ps = [] := by
  cases vs <;> cases ds <;> first | exact ⟨rfl, rfl, h⟩ | exact h.elim
theorem spot_none {w : World} {a : Addr} {u : Value} (h : w.cell? a = some u) : a.spot = none := by
  unfold World.cell? at h
  split at h
  · split at h
    · cases h
    · rename_i hs; simpa using hs
  · cases h
/-- a row of numbers. -/
theorem nums_at {t e : TypeId} {k : IntKind} {fuel : Nat} {v : Value} {x : DataW H × List MemPlace} {w : World} (ht : P.underlying t = some (.slice e)) (he : P.underlying e = some (.int k)) (hc : P.cellsOf e = 1)
    (h : DataW.trod enc P w 0 (fun _ => true) true fuel t [v] = some x) : ∃ (A : Option Addr) (l : List Int) (c : Nat), v = .slice A l.length c ∧ Cells w A (l.map (.int k)) ∧ l.length ≤ 9223372036854775807 ∧ ∀ n ∈ l, (Lit.int k n).wf = true := by
  rcases open_ints ht he hc h with ⟨h1, _⟩ | ⟨a, len, cap, zs, h1, _, hl, hm, hz, _, hcell, hw⟩
  · simp only [List.cons.injEq, and_true] at h1
    exact ⟨none, [], 0, h1, .inl rfl, by simp, by simp⟩
  · simp only [List.cons.injEq, and_true] at h1
    simp only [if_true] at hz
    have hlen : (zs.take len).length = len := by simp; omega
    refine ⟨some a, zs.take len, cap, by rw [hlen]; exact h1, ?_, by rw [hlen]; unfold maxLen at hm; omega, fun n hn => hw n (List.mem_of_mem_take hn)⟩
    cases len with
    | zero => exact .inl (by simp)
    | succ len =>
      right
      have h0 := hcell 0 (by omega)
      have ha0 : a.add 0 = a := rfl
      rw [ha0] at h0
      have hs := spot_none h0
      refine ⟨a.block, a.off, by cases a; simp only at hs; subst hs; rfl, fun i u hu => ?_⟩
      rw [List.getElem?_map, List.getElem?_take] at hu
      split at hu
      · rename_i hi
        have h2 := hcell i (by omega)
        have hadd : a.add i = ⟨a.block, a.off + i, none⟩ := by
          unfold Addr.add
          split
          · rename_i h3; subst h3; cases a; simp only at hs; subst hs; rfl
          · rfl
        rw [hadd] at h2
        rw [h2]
        rw [List.getD_eq_getElem?_getD] 
        have hi2 : i < zs.length := by omega
        rw [List.getElem?_eq_getElem hi2] at hu ⊢
        simpa using hu
      · simp at hu
/-- a struct of fields of one cell each, by value. -/
theorem fields_at {r : Reach} {b0 : Nat} {t : TypeId} {fs : Array Field} {v : Value} {d : DataW H} {p : List MemPlace} {w : World} {base : Nat} {spare : Nat → Bool} {held : Bool} (hs : P.underlying t = some (.struct fs)) (hone : oneCellFields P fs = true) (hC : P.cellsOf t = fs.size)
    (hv : Value.okWide P w r b0 t v) (h : DataW.Trod enc P w base spare held t v d p) :
    ∃ (cs : List Value) (n : Nat), v = .agg cs.toArray ∧ cs.length = fs.size ∧ ∀ (j : Nat) (f : Field) (c : Value), fs[j]? = some f → cs[j]? = some c → ∃ y, DataW.trod enc P w base spare held n f.type [c] = some y := by
  obtain ⟨cs, rfl, hsz⟩ := okWide_struct hs hv
  obtain ⟨l⟩ := cs
  obtain ⟨fuel, hf⟩ := h
  obtain ⟨xs, n, _, _, _, hlen, hg⟩ := DataW.trod_struct hs hf
  refine ⟨l, n, rfl, by simpa [hC] using hsz, fun j f c hj hc => ?_⟩
  obtain ⟨h1, h2⟩ := hone_of hone j f hj
  have h3 := hg j f hj
  have hjl : j < fs.size := (Array.getElem?_eq_some_iff.1 hj).1
  have hll : l.length = fs.size := by simpa [hC] using hsz
  have h4 : (l.drop j).take 1 = [c] := by
    rw [List.drop_eq_getElem_cons (by omega)]
    have := (List.getElem?_eq_some_iff.1 hc).2
    rw [← this]; rfl
  have h5 : (Value.agg l.toArray).cells.toList = l := by simp [Value.cells]
  rw [h1, h2, h5, h4] at h3
  exact ⟨xs[j]'(by omega), by rw [h3]; exact List.getElem?_eq_getElem (by omega)⟩
end
end Go.Proofs.YtpdgalclnlbeaaaDoor
end

section
namespace Go.Proofs.YtpdgalclnlbeaaaDoor
open Go.RowKit
set_option maxHeartbeats 400000 in
theorem may_c (m : Int) (hm : U64 m) (w : World) :
    Calls Tryd.prog 44 #[.int .u64 m] w fun e w' => e = .returned (.bool (okm m)) ∧ w = w' := by
  obtain ⟨h0, h1⟩ := hm
  by_cases h : 0 < m
  · go_enter Tryd.func44, Tryd.ntmps44
    go_wp2
    go_ret
    exact ⟨by simp [okm, h], rfl⟩
  · have hd : decide (0 < m) = false := by simpa using h
    go_enter Tryd.func44, Tryd.ntmps44
    go_wp2
    go_ret
    exact ⟨by simp [okm, hd], rfl⟩
set_option maxHeartbeats 400000 in
theorem add_c (a b m : Int) (ha : U64 a) (hb : U64 b) (hm : U64 m) (w : World) :
    Calls Tryd.prog 53 #[.int .u64 a, .int .u64 b, .int .u64 m] w fun e w' => e = .returned (.int .u64 (mAdd a b m)) ∧ ∃ n, w' = w.drewN n := by
  have hm' := hm
  obtain ⟨a1, a2⟩ := ha
  obtain ⟨b1, b2⟩ := hb
  obtain ⟨m1, m2⟩ := hm
  by_cases h : okm m = true
  · have h0 := okm_pos h
    have h1 := okm_le h
    have x1 := Int.emod_nonneg a (b := m) (by omega)
    have x2 := Int.emod_lt_of_pos a h0
    have y1 := Int.emod_nonneg b (b := m) (by omega)
    have y2 := Int.emod_lt_of_pos b h0
    go_enter Tryd.func53, Tryd.ntmps53
    go_wp2_with (go_at_call 44; refine (may_c _ hm' _).mono ?_; rintro e w' ⟨rfl, rfl⟩)
    go_quiet (fail)
    go_wp2
    go_ret
    refine ⟨ret_int ?_, _, rfl⟩
    rw [mAdd_ok h, ← Int.add_emod]
  · have h' : okm m = false := by simpa using h
    go_enter Tryd.func53, Tryd.ntmps53
    go_wp2_with (go_at_call 44; refine (may_c _ hm' _).mono ?_; rintro e w' ⟨rfl, rfl⟩)
    go_ret
    exact ⟨ret_int (mAdd_no h').symm, 0, rfl⟩
set_option maxHeartbeats 400000 in
theorem sub_c (a b m : Int) (ha : U64 a) (hb : U64 b) (hm : U64 m) (w : World) :
    Calls Tryd.prog 52 #[.int .u64 a, .int .u64 b, .int .u64 m] w fun e w' => e = .returned (.int .u64 (mSub a b m)) ∧ ∃ n, w' = w.drewN n := by
  have hm' := hm
  obtain ⟨a1, a2⟩ := ha
  obtain ⟨b1, b2⟩ := hb
  obtain ⟨m1, m2⟩ := hm
  by_cases h : okm m = true
  · have h0 := okm_pos h
    have h1 := okm_le h
    have x1 := Int.emod_nonneg a (b := m) (by omega)
    have x2 := Int.emod_lt_of_pos a h0
    have y1 := Int.emod_nonneg b (b := m) (by omega)
    have y2 := Int.emod_lt_of_pos b h0
    go_enter Tryd.func52, Tryd.ntmps52
    go_wp2_with (go_at_call 44; refine (may_c _ hm' _).mono ?_; rintro e w' ⟨rfl, rfl⟩)
    go_quiet (fail)
    go_wp2
    go_ret
    refine ⟨ret_int ?_, _, rfl⟩
    rw [mSub_ok h, Int.sub_emod a b, show a % m + m - b % m = a % m - b % m + m by omega, Int.add_emod_right]
  · have h' : okm m = false := by simpa using h
    go_enter Tryd.func52, Tryd.ntmps52
    go_wp2_with (go_at_call 44; refine (may_c _ hm' _).mono ?_; rintro e w' ⟨rfl, rfl⟩)
    go_ret
    exact ⟨ret_int (mSub_no h').symm, 0, rfl⟩
end Go.Proofs.YtpdgalclnlbeaaaDoor
end

section
namespace Go.Proofs.YtpdgalclnlbeaaaDoor
open Go.Shelf Go.Proofs
def lays134_ren : Go.Shelf.Ren := ⟨fun | 134 => 57 | 129 => 58 | n => n, fun | 53 => 22 | 3 => 3 | 4 => 4 | 46 => 35 | 5 => 5 | 9 => 9 | n => n, fun | n => n⟩
theorem lays134 : Go.Proofs.Lays.n134 Tryd.prog lays134_ren := {
  mixed := by kernel_rfl
  f129 := Tryd.func58.trans (congrArg some (by kernel_rfl))
  f134 := Tryd.func57.trans (congrArg some (by kernel_rfl))
  t3 := Tryd.underlying3
  a3 := Tryd.isAgg3
  z3 := Tryd.sizeOf3
  v3 := Tryd.zeroValue3
  t4 := Tryd.underlying4
  a4 := Tryd.isAgg4
  z4 := Tryd.sizeOf4
  v4 := Tryd.zeroValue4
  t5 := Tryd.underlying5
  a5 := Tryd.isAgg5
  z5 := Tryd.sizeOf5
  v5 := Tryd.zeroValue5
  t9 := Tryd.underlying9
  a9 := Tryd.isAgg9
  z9 := Tryd.sizeOf9
  v9 := Tryd.zeroValue9
  t46 := Tryd.underlying35
  a46 := Tryd.isAgg35
  z46 := Tryd.sizeOf35
  v46 := Tryd.zeroValue35
  t53 := Tryd.underlying22
  a53 := Tryd.isAgg22
  z53 := Tryd.sizeOf22
  v53 := Tryd.zeroValue22 }
/-- bits.LeadingZeros64: "LeadingZeros64 returns the number of leading zero bits in x; the result is 64 for x == 0.": IT RETURNS '64 - Lib.bitLen x'; the world is as it was. ITS CALLEE bits.Len64 IS MET BY ITS OWN CONTRACT OFF THE SHELF (lay that first): entered in place it sends the kernel out of memory. (LAID: no walk: one application.) -/
theorem bits_LeadingZeros64 (x : Int) (w : World) (h0 : 0 ≤ x) (h1 : x ≤ 18446744073709551615) :
    Calls Tryd.prog 57 #[.int .u64 x] w fun e w' => e = .returned (.int .i64 (64 - (Lib.bitLen x.toNat : Int))) ∧ w' = w := Any.bits_LeadingZeros64 lays134 x w h0 h1
def lays264_ren : Go.Shelf.Ren := ⟨fun | 264 => 45 | n => n, fun | 53 => 22 | 46 => 35 | n => n, fun | n => n⟩
theorem lays264 : Go.Proofs.Lays.n264 Tryd.prog lays264_ren := {
  mixed := by kernel_rfl
  f264 := Tryd.func45.trans (congrArg some (by kernel_rfl))
  t46 := Tryd.underlying35
  a46 := Tryd.isAgg35
  z46 := Tryd.sizeOf35
  v46 := Tryd.zeroValue35
  t53 := Tryd.underlying22
  a53 := Tryd.isAgg22
  z53 := Tryd.sizeOf22
  v53 := Tryd.zeroValue22 }
open Go.RowKit Go.Lib in
theorem bits_Mul64 (x y : Nat) (hx : x < 18446744073709551616) (hy : y < 18446744073709551616) (w : World) :
    Calls Tryd.prog 45 #[.int .u64 x, .int .u64 y] w fun e w' => e = .returned (.tuple #[.int .u64 ((x * y / 18446744073709551616 : Nat) : Int), .int .u64 ((x * y % 18446744073709551616 : Nat) : Int)]) ∧ w' = w := Any.bits_Mul64 lays264 x y hx hy w
def lays729_ren : Go.Shelf.Ren := ⟨fun | 29 => 31 | n => n, fun | 22 => 22 | 3 => 3 | 4 => 4 | 25 => 35 | 54 => 74 | 5 => 5 | n => n, fun | 1 => 1 | n => n⟩
theorem lays729 : Go.Proofs.Lays7.n29 Tryd.prog lays729_ren := {
  mixed := by kernel_rfl
  f29 := Tryd.func31.trans (congrArg some (by kernel_rfl))
  t0 := Tryd.underlying0
  a0 := Tryd.isAgg0
  z0 := Tryd.sizeOf0
  v0 := Tryd.zeroValue0
  i0 := by kernel_rfl
  t3 := Tryd.underlying3
  a3 := Tryd.isAgg3
  z3 := Tryd.sizeOf3
  v3 := Tryd.zeroValue3
  i3 := by kernel_rfl
  t4 := Tryd.underlying4
  a4 := Tryd.isAgg4
  z4 := Tryd.sizeOf4
  v4 := Tryd.zeroValue4
  i4 := by kernel_rfl
  t5 := Tryd.underlying5
  a5 := Tryd.isAgg5
  z5 := Tryd.sizeOf5
  v5 := Tryd.zeroValue5
  i5 := by kernel_rfl
  t22 := Tryd.underlying22
  a22 := Tryd.isAgg22
  z22 := Tryd.sizeOf22
  v22 := Tryd.zeroValue22
  i22 := by kernel_rfl
  t25 := Tryd.underlying35
  a25 := Tryd.isAgg35
  z25 := Tryd.sizeOf35
  v25 := Tryd.zeroValue35
  i25 := by kernel_rfl
  t54 := Tryd.underlying74
  a54 := Tryd.isAgg74
  z54 := Tryd.sizeOf74
  g1 := by kernel_rfl }
/-- bits.TrailingZeros64 -/
theorem bits_TrailingZeros64 (x : Nat) (hx : x < 18446744073709551616) (w : World) (hT : x ≠ 0 → TabAt 1 Lib.deBruijn64tab w) :
    Calls Tryd.prog 31 #[.int .u64 x] w fun e w' => e = .returned (.int .i64 (Lib.ctz 64 x)) ∧ w' = w := Any7.bits_TrailingZeros64 lays729 x hx w hT
end Go.Proofs.YtpdgalclnlbeaaaDoor
end

section
namespace Go.Proofs.YtpdgalclnlbeaaaDoor
theorem two63 : (2:Nat) ^ 63 = 9223372036854775808 := by decide
theorem two64 : (2:Nat) ^ 64 = 18446744073709551616 := by decide
/-- what the shift makes of a divisor and of the number. -/
theorem shifted (hi lo y : Nat) (hh : hi < y) (hy : y < 18446744073709551616) (hl : lo < 18446744073709551616) :
    ∃ k Y U L : Nat, k ≤ 63 ∧ 64 - Lib.bitLen y = k ∧ Lib.bitLen y ≤ 64 ∧ Y = y * 2 ^ k ∧ 9223372036854775808 ≤ Y ∧ Y < 18446744073709551616 ∧ U = hi * 2 ^ k + lo / 2 ^ (64 - k) ∧ U < Y ∧
      L = lo * 2 ^ k % 18446744073709551616 ∧ U * 18446744073709551616 + L = (hi * 18446744073709551616 + lo) * 2 ^ k ∧
      lo / 2 ^ (64 - k) < 2 ^ k ∧ hi * 2 ^ k < 18446744073709551616 := by
  obtain ⟨h1, h2, h3⟩ := Lib.bitLenAux_bounds 64 y (by rw [two64]; exact hy) (by omega)
  have h4 : Lib.bitLen y ≤ 64 := Lib.bitLen_le y 64 (by omega) (by rw [two64]; exact hy)
  change 1 ≤ Lib.bitLen y at h1
  change 2 ^ (Lib.bitLen y - 1) ≤ y at h2
  change y < 2 ^ Lib.bitLen y at h3
  generalize Lib.bitLen y = b at *
  have e1 : (2:Nat) ^ (b - 1) * 2 ^ (64 - b) = 2 ^ 63 := by rw [← Nat.pow_add]; congr 1; omega
  have e2 : (2:Nat) ^ b * 2 ^ (64 - b) = 2 ^ 64 := by rw [← Nat.pow_add]; congr 1; omega
  have e3 : (2:Nat) ^ (64 - (64 - b)) * 2 ^ (64 - b) = 2 ^ 64 := by rw [← Nat.pow_add]; congr 1; omega
  have hp : 0 < (2:Nat) ^ (64 - b) := Nat.pos_of_ne_zero (by simp)
  have hY1 : 2 ^ 63 ≤ y * 2 ^ (64 - b) := by rw [← e1]; exact Nat.mul_le_mul_right _ h2
  have hY2 : y * 2 ^ (64 - b) < 2 ^ 64 := by rw [← e2]; exact (Nat.mul_lt_mul_right hp).2 h3
  rw [two63] at hY1
  rw [two64] at hY2 e3
  have hlo : lo / 2 ^ (64 - (64 - b)) < 2 ^ (64 - b) := by
    rw [Nat.div_lt_iff_lt_mul (Nat.pos_of_ne_zero (by simp)), Nat.mul_comm, e3]; exact hl
  have hs : lo * 2 ^ (64 - b) / 18446744073709551616 = lo / 2 ^ (64 - (64 - b)) := by
    rw [← e3, Nat.mul_div_mul_right _ _ hp]
  have hd := Nat.div_add_mod (lo * 2 ^ (64 - b)) 18446744073709551616
  rw [hs] at hd
  have hhy : (hi + 1) * 2 ^ (64 - b) ≤ y * 2 ^ (64 - b) := Nat.mul_le_mul_right _ hh
  rw [Nat.add_mul, Nat.one_mul] at hhy
  refine ⟨64 - b, _, _, _, by omega, rfl, h4, rfl, hY1, hY2, rfl, by omega, rfl, ?_, hlo, by omega⟩
  rw [Nat.add_mul, Nat.add_mul, Nat.mul_right_comm hi]
  generalize hi * 2 ^ (64 - b) = A at *
  omega
/-- the loop's relation: u is what is divided by y1 2^32 + y0, with d behind it; q is a guess that is not too small, r what it leaves of y1. -/
structure DI (u d y1 y0 q r : Int) : Prop where
  q0 : 0 ≤ q
  q1 : q ≤ 4294967297
  r0 : 0 ≤ r
  r1 : r < 4294967296
  eq : q * y1 + r = u
  big : u * 4294967296 + d < (q + 1) * (y1 * 4294967296 + y0)
/-- what the loop comes to. -/
structure DE (u d Y q : Int) : Prop where
  q0 : 0 ≤ q
  q1 : q < 4294967296
  lo : q * Y ≤ u * 4294967296 + d
  hi : u * 4294967296 + d < (q + 1) * Y
structure DB (u d y1 y0 : Int) : Prop where
  y1lo : 2147483648 ≤ y1
  y1hi : y1 < 4294967296
  y0lo : 0 ≤ y0
  y0hi : y0 < 4294967296
  d0 : 0 ≤ d
  d1 : d < 4294967296
  u0 : 0 ≤ u
  u1 : u < y1 * 4294967296 + y0
theorem DI.start {u d y1 y0 : Int} (b : DB u d y1 y0) : DI u d y1 y0 (u / y1) (u - u / y1 * y1) := by
  obtain ⟨a1, a2, a3, a4, a5, a6, a7, a8⟩ := b
  have hq0 : 0 ≤ u / y1 := Int.ediv_nonneg a7 (by omega)
  have hm1 := Int.emod_nonneg u (b := y1) (by omega)
  have hm2 := Int.emod_lt_of_pos u (b := y1) (by omega)
  have hdm := Int.ediv_mul_add_emod u y1
  generalize u / y1 = q at *
  generalize u % y1 = r at *
  have hr : u - q * y1 = r := by omega
  rw [hr]
  have hq1 : q ≤ 4294967297 := by
    apply Classical.byContradiction
    intro hc
    have hc : 4294967298 ≤ q := by omega
    have h := Int.mul_le_mul_of_nonneg_right hc (show (0:Int) ≤ y1 by omega)
    omega
  refine ⟨hq0, hq1, hm1, by omega, hdm, ?_⟩
  have e : (q + 1) * (y1 * 4294967296 + y0) = (q * y1) * 4294967296 + y1 * 4294967296 + (q + 1) * y0 := by grind
  have hp : 0 ≤ (q + 1) * y0 := Int.mul_nonneg (by omega) a3
  omega
theorem DI.fits {u d y1 y0 q r : Int} (b : DB u d y1 y0) (h : DI u d y1 y0 q r) (hq : q < 4294967296) : q * y0 < 18446744073709551616 ∧ 0 ≤ q * y0 := by
  obtain ⟨a1, a2, a3, a4, a5, a6, a7, a8⟩ := b
  refine ⟨?_, Int.mul_nonneg h.q0 a3⟩
  have h1 := Int.mul_le_mul (show q ≤ 4294967295 by omega) (show y0 ≤ 4294967295 by omega) a3 (by omega)
  omega
theorem DI.done {u d y1 y0 q r : Int} (h : DI u d y1 y0 q r) (hq : q < 4294967296) (hc : q * y0 ≤ 4294967296 * r + d) : DE u d (y1 * 4294967296 + y0) q := by
  refine ⟨h.q0, hq, ?_, h.big⟩
  have e : q * (y1 * 4294967296 + y0) = (q * y1) * 4294967296 + q * y0 := by grind
  have := h.eq
  omega
theorem DI.greater {u d y1 y0 q r : Int} (b : DB u d y1 y0) (h : DI u d y1 y0 q r) (hc : 4294967296 ≤ q ∨ 4294967296 * r + d < q * y0) : u * 4294967296 + d < q * (y1 * 4294967296 + y0) := by
  obtain ⟨a1, a2, a3, a4, a5, a6, a7, a8⟩ := b
  have e : q * (y1 * 4294967296 + y0) = (q * y1) * 4294967296 + q * y0 := by grind
  have := h.eq
  rcases hc with hc | hc
  · have h1 := Int.mul_le_mul_of_nonneg_right hc (show (0:Int) ≤ y1 * 4294967296 + y0 by omega)
    omega
  · omega
theorem DI.pos {u d y1 y0 q r : Int} (b : DB u d y1 y0) (h : DI u d y1 y0 q r) (hc : 4294967296 ≤ q ∨ 4294967296 * r + d < q * y0) : 1 ≤ q := by
  rcases hc with hc | hc
  · omega
  · apply Classical.byContradiction
    intro hn
    have h0 : q = 0 := by have := h.q0; omega
    subst h0
    have := h.r0; have := b.d0
    omega
theorem DI.step {u d y1 y0 q r : Int} (b : DB u d y1 y0) (h : DI u d y1 y0 q r) (hc : 4294967296 ≤ q ∨ 4294967296 * r + d < q * y0) (hr : r + y1 < 4294967296) : DI u d y1 y0 (q - 1) (r + y1) := by
  have hg := h.greater b hc
  have hp := h.pos b hc
  obtain ⟨a1, a2, a3, a4, a5, a6, a7, a8⟩ := b
  have he := h.eq
  have := h.q1; have := h.r0
  refine ⟨by omega, by omega, by omega, hr, ?_, ?_⟩
  · rw [Int.sub_mul]; omega
  · rw [show q - 1 + 1 = q by omega]; exact hg
theorem DI.last {u d y1 y0 q r : Int} (b : DB u d y1 y0) (h : DI u d y1 y0 q r) (hc : 4294967296 ≤ q ∨ 4294967296 * r + d < q * y0) (hr : 4294967296 ≤ r + y1) : DE u d (y1 * 4294967296 + y0) (q - 1) := by
  have hg := h.greater b hc
  have hp := h.pos b hc
  obtain ⟨a1, a2, a3, a4, a5, a6, a7, a8⟩ := b
  have he := h.eq
  have := h.q1; have := h.r0
  have hlo : (q - 1) * (y1 * 4294967296 + y0) ≤ u * 4294967296 + d := by
    have e : (q - 1) * (y1 * 4294967296 + y0) = (q * y1) * 4294967296 - y1 * 4294967296 + (q - 1) * y0 := by grind
    have h1 := Int.mul_le_mul (show q - 1 ≤ 4294967296 by omega) (show y0 ≤ 4294967295 by omega) a3 (by omega)
    omega
  have hq : q - 1 < 4294967296 := by
    apply Classical.byContradiction
    intro hn
    have hn : 4294967296 ≤ q - 1 := by omega
    have h1 := Int.mul_le_mul_of_nonneg_right hn (show (0:Int) ≤ y1 * 4294967296 + y0 by omega)
    omega
  refine ⟨by omega, hq, hlo, ?_⟩
  rw [show q - 1 + 1 = q by omega]; exact hg
/-- the remainder by the shifted divisor is the shifted remainder. -/
theorem unshift (N y k R Q : Nat) (_hy : 0 < y) (h : Q * (y * 2 ^ k) + R = N * 2 ^ k) (hR : R < y * 2 ^ k) : R / 2 ^ k = N % y := by
  have hp : 0 < (2:Nat) ^ k := Nat.pos_of_ne_zero (by simp)
  have e : R = (N * 2 ^ k) % (y * 2 ^ k) := by
    rw [← h, Nat.mul_comm Q, Nat.mul_add_mod, Nat.mod_eq_of_lt hR]
  rw [e, Nat.mul_mod_mul_right, Nat.mul_div_cancel _ hp]
end Go.Proofs.YtpdgalclnlbeaaaDoor
end

section
namespace Go.Proofs.YtpdgalclnlbeaaaDoor
open Go.RowKit
/-- a quotient, and that remainder. -/
def RemIs (r : Int) (w : World) (e : Ending) (w' : World) : Prop := ∃ q, e = .returned (.tuple #[.int .u64 q, .int .u64 r]) ∧ w = w'
/-- what the walk of the division wants to know of its numbers, in the walk's own spelling. -/
theorem shift_facts (hi lo y : Nat) (hh : hi < y) (hy : y < 18446744073709551616) (hl : lo < 18446744073709551616) :
    ∃ (k Y L : Nat) (u y1 y0 d1 d0 q r : Int), k ≤ 63 ∧ min k 64 = k ∧ (64 - (Lib.bitLen y : Int)) = (k : Int) ∧ IntKind.u64.wrap ((y : Int) * 2 ^ k) = (Y : Int) ∧
      bits .or .u64 (IntKind.u64.wrap ((hi : Int) * 2 ^ k)) ((lo : Int) / 2 ^ (64 - k)) = u ∧
      IntKind.u64.wrap ((lo : Int) * 2 ^ k) = (L : Int) ∧ bits .and .u64 (Y : Int) 4294967295 = y0 ∧ bits .and .u64 (L : Int) 4294967295 = d0 ∧
      (Y : Int) / 4294967296 = y1 ∧ (L : Int) / 4294967296 = d1 ∧ u / y1 = q ∧ u - q * y1 = r ∧
      (Y = y * 2 ^ k ∧ 9223372036854775808 ≤ Y ∧ Y < 18446744073709551616 ∧ 0 ≤ u ∧ u < Y ∧ L < 18446744073709551616 ∧
        u * 18446744073709551616 + L = ((hi * 18446744073709551616 + lo) * 2 ^ k : Nat)) ∧
      ((Y : Int) = y1 * 4294967296 + y0 ∧ (L : Int) = d1 * 4294967296 + d0 ∧ 0 ≤ d0 ∧ d0 < 4294967296) ∧
      DB u d1 y1 y0 ∧ DI u d1 y1 y0 q r ∧ 0 ≤ q * y1 := by
  obtain ⟨k, Y, U, L, h1, h2, h3, h4, h5, h6, h7, h8, h9, h10, h11, h12⟩ := shifted hi lo y hh hy hl
  have mask : ∀ a : Nat, a < 18446744073709551616 → bits .and .u64 (a : Int) 4294967295 = (a : Int) % 4294967296 := by
    intro a ha
    have := u64_and_nat a 4294967295 ha (by omega)
    rw [show ((4294967295 : Nat) : Int) = 4294967295 from rfl] at this
    rw [this, Nat.and_two_pow_sub_one_eq_mod a 32]
    omega
  have c1 : ∀ a : Nat, (a : Int) * 2 ^ k = ((a * 2 ^ k : Nat) : Int) := by intro a; simp
  have hb : DB (U : Int) ((L : Int) / 4294967296) ((Y : Int) / 4294967296) ((Y : Int) % 4294967296) := ⟨by omega, by omega, by omega, by omega, by omega, by omega, by omega, by omega⟩
  have hs := DI.start hb
  refine ⟨k, Y, L, (U : Int), _, _, _, _, _, _, h1, by omega, by omega, ?_, ?_, ?_, mask Y h6, mask L (by omega), rfl, rfl, rfl, rfl, ⟨h4, h5, h6, by omega, by omega, by omega, by omega⟩, ⟨by omega, by omega, by omega, by omega⟩, hb, hs,
    Int.mul_nonneg hs.q0 (by omega)⟩
  · rw [c1, IntKind.wrap_u64, ← h4]; omega
  · have c2 : (lo : Int) / 2 ^ (64 - k) = ((lo / 2 ^ (64 - k) : Nat) : Int) := by simp
    have c3 : IntKind.u64.wrap ((hi : Int) * 2 ^ k) = ((hi * 2 ^ k : Nat) : Int) := by rw [c1, IntKind.wrap_u64]; omega
    have hu : lo / 2 ^ (64 - k) < 18446744073709551616 := Nat.lt_of_le_of_lt (Nat.div_le_self _ _) hl
    rw [c2, c3, u64_or_nat _ _ h12 hu, nat_join k _ _ (by simp) h11, h7]
  · rw [c1, IntKind.wrap_u64, h9]; omega
theorem wrap_left (u d q Y : Int) (h0 : 0 ≤ u * 4294967296 + d - q * Y) (h1 : u * 4294967296 + d - q * Y < 18446744073709551616) :
    IntKind.u64.wrap (IntKind.u64.wrap (IntKind.u64.wrap (u * 4294967296) + d) - IntKind.u64.wrap (q * Y)) = u * 4294967296 + d - q * Y := by
  simp only [IntKind.wrap_u64]
  omega
/-- what the first loop hands on. -/
theorem second {u d1 d0 y1 y0 qq : Int} {Y : Nat} (hY : (Y : Int) = y1 * 4294967296 + y0) (hb : DB u d1 y1 y0) (h0 : 0 ≤ d0) (h1 : d0 < 4294967296) (hE : DE u d1 (y1 * 4294967296 + y0) qq) :
    ∃ v q2 r2 : Int, IntKind.u64.wrap (IntKind.u64.wrap (IntKind.u64.wrap (u * 4294967296) + d1) - IntKind.u64.wrap (qq * (Y : Int))) = v ∧ v / y1 = q2 ∧ v - q2 * y1 = r2 ∧
      DB v d0 y1 y0 ∧ DI v d0 y1 y0 q2 r2 ∧ 0 ≤ q2 * y1 ∧ q2 * y1 < 18446744073709551616 ∧ v = u * 4294967296 + d1 - qq * (Y : Int) := by
  obtain ⟨a1, a2, a3, a4, a5, a6, a7, a8⟩ := hb
  obtain ⟨c1, c2, c3, c4⟩ := hE
  rw [← hY] at c3 c4 a8
  rw [Int.add_mul, Int.one_mul] at c4
  have hw := wrap_left u d1 qq Y (by omega) (by omega)
  have hb' : DB (u * 4294967296 + d1 - qq * (Y : Int)) d0 y1 y0 := ⟨a1, a2, a3, a4, h0, h1, by omega, by omega⟩
  have hs := DI.start hb'
  have hr1 := hs.r0
  have hr2 := hs.r1
  refine ⟨_, _, _, hw, rfl, rfl, hb', hs, Int.mul_nonneg hs.q0 (by omega), by omega, rfl⟩
/-- what the second loop hands on. -/
theorem third {u d1 d0 v y1 y0 qq q3 : Int} {Y L k y N : Nat} (hY : (Y : Int) = y1 * 4294967296 + y0) (hL : (L : Int) = d1 * 4294967296 + d0) (hb : DB v d0 y1 y0) (hv : v = u * 4294967296 + d1 - qq * (Y : Int)) (hq : 0 ≤ qq)
    (hE : DE v d0 (y1 * 4294967296 + y0) q3) (hk : Y = y * 2 ^ k) (hN : u * 18446744073709551616 + L = (N * 2 ^ k : Nat)) (hy : 0 < y) :
    IntKind.u64.wrap (IntKind.u64.wrap (IntKind.u64.wrap (v * 4294967296) + d0) - IntKind.u64.wrap (q3 * (Y : Int))) / 2 ^ k = ((N % y : Nat) : Int) := by
  obtain ⟨a1, a2, a3, a4, a5, a6, a7, a8⟩ := hb
  obtain ⟨c1, c2, c3, c4⟩ := hE
  rw [← hY] at c3 c4 a8
  rw [Int.add_mul, Int.one_mul] at c4
  rw [wrap_left v d0 q3 Y (by omega) (by omega)]
  have e : (qq * 4294967296 + q3) * (Y : Int) + (v * 4294967296 + d0 - q3 * (Y : Int)) = (N * 2 ^ k : Nat) := by
    rw [Int.add_mul, Int.mul_right_comm]
    generalize qq * (Y : Int) = A at *
    generalize q3 * (Y : Int) = B at *
    omega
  have hR1 : 0 ≤ v * 4294967296 + d0 - q3 * (Y : Int) := by omega
  have hR2 : v * 4294967296 + d0 - q3 * (Y : Int) < Y := by omega
  have hQ : 0 ≤ qq * 4294967296 + q3 := by omega
  generalize v * 4294967296 + d0 - q3 * (Y : Int) = R at *
  generalize qq * 4294967296 + q3 = Q at *
  obtain ⟨R, rfl⟩ := Int.eq_ofNat_of_zero_le hR1
  obtain ⟨Q, rfl⟩ := Int.eq_ofNat_of_zero_le hQ
  have e' : Q * (y * 2 ^ k) + R = N * 2 ^ k := by rw [← hk]; exact_mod_cast e
  have := unshift N y k R Q hy e' (by rw [← hk]; omega)
  rw [← this]
  simp
set_option maxRecDepth 100000 in
set_option maxHeartbeats 4000000 in
theorem div64_hi (hi lo y : Nat) (hh : 0 < hi) (hy : hi < y) (hy' : y < 18446744073709551616) (hl : lo < 18446744073709551616) (w : World) :
    Calls Tryd.prog 54 #[.int .u64 (hi : Int), .int .u64 (lo : Int), .int .u64 (y : Int)] w (RemIs (((hi * 18446744073709551616 + lo) % y : Nat) : Int) w) := by
  obtain ⟨k, Y, L, u, y1, y0, d1, d0, q, r, f1, f2, f3, f4, f5, f6, f7, f8, f9, f10, f11, f12, hf, hg, hb, hs, hqy⟩ := shift_facts hi lo y hy hy' hl
  have hff := hid hf
  have hgg := hid hg
  obtain ⟨-, g2, g3, g4, g5, g6, -⟩ := hf
  obtain ⟨-, -, e3, e4⟩ := hg
  obtain ⟨b1, b2, b3, b4, b5, b6, b7, b8⟩ := id hb
  obtain ⟨s1, s2, s3, s4, s5, s6⟩ := id hs
  have hqy2 : q * y1 < 18446744073709551616 := by omega
  clear s5 s6 b8
  have h1 : ((y : Int) == 0) = false := by simp; omega
  have h2 : ((hi : Int) == 0) = false := by simp; omega
  go_enter Tryd.func54, Tryd.ntmps54
  go_wp2_with (go_at_call 57; refine (bits_LeadingZeros64 _ _ (by omega) (by omega)).mono ?_; rintro e w' ⟨rfl, rfl⟩)
  go_loop [15, 16] (fun a b => ∃ q' r' : Int, a = .int .u64 q' ∧ b = .int .u64 r' ∧ DI u d1 y1 y0 q' r') (fun a _ => (intOf a).toNat)
  case atStart => exact ⟨q, r, by rw [f11], rfl, hs⟩
  case round =>
    obtain ⟨q', r', rfl, rfl, hd⟩ := hrel
    obtain ⟨t1, t2, t3, t4, -, -⟩ := id hd
    have e1 := hgg.out.1
    have e2 := hgg.out.2.1
    by_cases hc : 4294967296 ≤ q' ∨ 4294967296 * r' + d1 < q' * y0
    · have hp := DI.pos hb hd hc
      by_cases hr : r' + y1 < 4294967296
      · have hn := DI.step hb hd hc hr
        clear e1 e2
        by_cases hq : 4294967296 ≤ q'
        · go_wp2
          go_round
          case rel => exact ⟨_, _, rfl, rfl, hn⟩
          case measure => simp [intOf]; omega
        · obtain ⟨x1, x2⟩ := DI.fits hb hd (by omega)
          have hc' : 4294967296 * r' + d1 < q' * y0 := by omega
          go_wp2
          go_round
          case rel => exact ⟨_, _, rfl, rfl, hn⟩
          case measure => simp [intOf]; omega
      · obtain ⟨v, q2, r2, m1, m2, m3, m4, m5, m6, m7, m8⟩ := second e1 hb e3 e4 (DI.last hb hd hc (by omega))
        have hE := (DI.last hb hd hc (by omega)).q0
        have fin := fun q3 hE3 => third (q3 := q3) e1 e2 m4 m8 hE hE3 hff.out.1 hff.out.2.2.2.2.2.2 (by omega)
        have M8 := hid m8
        clear m8 e1 e2
        obtain ⟨n1, n2, n3, n4, n5, n6, n7, n8⟩ := id m4
        have n9 : v < 18446744073709551616 := by omega
        clear n8
        obtain ⟨o1, o2, o3, o4, -, -⟩ := id m5
        have fin := hid fin
        by_cases hq : 4294967296 ≤ q'
        · go_wp2
          go_loop [18, 16] (fun a b => ∃ q' r' : Int, a = .int .u64 q' ∧ b = .int .u64 r' ∧ DI v d0 y1 y0 q' r') (fun a _ => (intOf a).toNat)
          case atStart => exact ⟨q2, r2, by first | rfl | rw [m2], rfl, m5⟩
          case round =>
            obtain ⟨q'', r'', rfl, rfl, hd⟩ := hrel
            obtain ⟨t1, t2, t3, t4, -, -⟩ := id hd
            by_cases hc : 4294967296 ≤ q'' ∨ 4294967296 * r'' + d0 < q'' * y0
            · have hp := DI.pos m4 hd hc
              by_cases hr : r'' + y1 < 4294967296
              · have hn := DI.step m4 hd hc hr
                by_cases hq : 4294967296 ≤ q''
                · go_wp2
                  go_round
                  case rel => exact ⟨_, _, rfl, rfl, hn⟩
                  case measure => simp [intOf]; omega
                · obtain ⟨x1, x2⟩ := DI.fits m4 hd (by omega)
                  have hc' : 4294967296 * r'' + d0 < q'' * y0 := by omega
                  go_wp2
                  go_round
                  case rel => exact ⟨_, _, rfl, rfl, hn⟩
                  case measure => simp [intOf]; omega
              · have hlast := fin.out _ (DI.last m4 hd hc (by omega))
                by_cases hq : 4294967296 ≤ q''
                · go_wp2
                  go_ret2
                  exact ⟨_, rfl, rfl⟩
                · obtain ⟨x1, x2⟩ := DI.fits m4 hd (by omega)
                  have hc' : 4294967296 * r'' + d0 < q'' * y0 := by omega
                  go_wp2
                  go_ret2
                  exact ⟨_, rfl, rfl⟩
            · have hlast := fin.out _ (DI.done hd (by omega) (by omega))
              obtain ⟨x1, x2⟩ := DI.fits m4 hd (by omega)
              go_wp2
              go_ret2
              exact ⟨_, rfl, rfl⟩
        · obtain ⟨x1, x2⟩ := DI.fits hb hd (by omega)
          have hc' : 4294967296 * r' + d1 < q' * y0 := by omega
          go_wp2
          go_loop [18, 16] (fun a b => ∃ q' r' : Int, a = .int .u64 q' ∧ b = .int .u64 r' ∧ DI v d0 y1 y0 q' r') (fun a _ => (intOf a).toNat)
          case atStart => exact ⟨q2, r2, by first | rfl | rw [m2], rfl, m5⟩
          case round =>
            obtain ⟨q'', r'', rfl, rfl, hd⟩ := hrel
            obtain ⟨t1, t2, t3, t4, -, -⟩ := id hd
            by_cases hc : 4294967296 ≤ q'' ∨ 4294967296 * r'' + d0 < q'' * y0
            · have hp := DI.pos m4 hd hc
              by_cases hr : r'' + y1 < 4294967296
              · have hn := DI.step m4 hd hc hr
                by_cases hq : 4294967296 ≤ q''
                · go_wp2
                  go_round
                  case rel => exact ⟨_, _, rfl, rfl, hn⟩
                  case measure => simp [intOf]; omega
                · obtain ⟨z1, z2⟩ := DI.fits m4 hd (by omega)
                  have hc'' : 4294967296 * r'' + d0 < q'' * y0 := by omega
                  go_wp2
                  go_round
                  case rel => exact ⟨_, _, rfl, rfl, hn⟩
                  case measure => simp [intOf]; omega
              · have hlast := fin.out _ (DI.last m4 hd hc (by omega))
                by_cases hq : 4294967296 ≤ q''
                · go_wp2
                  go_ret2
                  exact ⟨_, rfl, rfl⟩
                · obtain ⟨z1, z2⟩ := DI.fits m4 hd (by omega)
                  have hc'' : 4294967296 * r'' + d0 < q'' * y0 := by omega
                  go_wp2
                  go_ret2
                  exact ⟨_, rfl, rfl⟩
            · have hlast := fin.out _ (DI.done hd (by omega) (by omega))
              obtain ⟨z1, z2⟩ := DI.fits m4 hd (by omega)
              go_wp2
              go_ret2
              exact ⟨_, rfl, rfl⟩
    · obtain ⟨v, q2, r2, m1, m2, m3, m4, m5, m6, m7, m8⟩ := second e1 hb e3 e4 (DI.done hd (by omega) (by omega))
      have fin := fun q3 hE3 => third (q3 := q3) e1 e2 m4 m8 t1 hE3 hff.out.1 hff.out.2.2.2.2.2.2 (by omega)
      have M8 := hid m8
      clear m8 e1 e2
      obtain ⟨n1, n2, n3, n4, n5, n6, n7, n8⟩ := id m4
      have n9 : v < 18446744073709551616 := by omega
      clear n8
      obtain ⟨o1, o2, o3, o4, -, -⟩ := id m5
      have fin := hid fin
      obtain ⟨x1, x2⟩ := DI.fits hb hd (by omega)
      go_wp2
      go_loop [18, 16] (fun a b => ∃ q' r' : Int, a = .int .u64 q' ∧ b = .int .u64 r' ∧ DI v d0 y1 y0 q' r') (fun a _ => (intOf a).toNat)
      case atStart => exact ⟨q2, r2, by first | rfl | rw [m2], rfl, m5⟩
      case round =>
        obtain ⟨q'', r'', rfl, rfl, hd⟩ := hrel
        obtain ⟨t1, t2, t3, t4, -, -⟩ := id hd
        by_cases hc : 4294967296 ≤ q'' ∨ 4294967296 * r'' + d0 < q'' * y0
        · have hp := DI.pos m4 hd hc
          by_cases hr : r'' + y1 < 4294967296
          · have hn := DI.step m4 hd hc hr
            by_cases hq : 4294967296 ≤ q''
            · go_wp2
              go_round
              case rel => exact ⟨_, _, rfl, rfl, hn⟩
              case measure => simp [intOf]; omega
            · obtain ⟨z1, z2⟩ := DI.fits m4 hd (by omega)
              have hc' : 4294967296 * r'' + d0 < q'' * y0 := by omega
              go_wp2
              go_round
              case rel => exact ⟨_, _, rfl, rfl, hn⟩
              case measure => simp [intOf]; omega
          · have hlast := fin.out _ (DI.last m4 hd hc (by omega))
            by_cases hq : 4294967296 ≤ q''
            · go_wp2
              go_ret2
              exact ⟨_, rfl, rfl⟩
            · obtain ⟨z1, z2⟩ := DI.fits m4 hd (by omega)
              have hc' : 4294967296 * r'' + d0 < q'' * y0 := by omega
              go_wp2
              go_ret2
              exact ⟨_, rfl, rfl⟩
        · have hlast := fin.out _ (DI.done hd (by omega) (by omega))
          obtain ⟨z1, z2⟩ := DI.fits m4 hd (by omega)
          go_wp2
          go_ret2
          exact ⟨_, rfl, rfl⟩
set_option maxHeartbeats 400000 in
theorem div64_lo (lo y : Nat) (hy : 0 < y) (hy' : y < 18446744073709551616) (hl : lo < 18446744073709551616) (w : World) :
    Calls Tryd.prog 54 #[.int .u64 0, .int .u64 (lo : Int), .int .u64 (y : Int)] w fun e w' => (∃ q, e = .returned (.tuple #[.int .u64 q, .int .u64 ((lo % y : Nat) : Int)])) ∧ ∃ n, w' = w.drewN n := by
  have h1 : ((y : Int) == 0) = false := by simp; omega
  go_enter Tryd.func54, Tryd.ntmps54
  go_wp2
  go_quiet (fail)
  go_wp2
  go_ret2
  exact ⟨⟨_, rfl⟩, _, rfl⟩
set_option maxHeartbeats 400000 in
theorem rem64_c (hi lo y : Nat) (hh : hi < 18446744073709551616) (hy : 0 < y) (hy' : y < 18446744073709551616) (hl : lo < 18446744073709551616) (w : World) :
    Calls Tryd.prog 46 #[.int .u64 (hi : Int), .int .u64 (lo : Int), .int .u64 (y : Int)] w fun e w' => e = .returned (.int .u64 (((hi * 18446744073709551616 + lo) % y : Nat) : Int)) ∧ ∃ n, w' = w.drewN n := by
  have hm : hi % y < y := Nat.mod_lt _ hy
  have e : (hi % y * 18446744073709551616 + lo) % y = (hi * 18446744073709551616 + lo) % y := by
    rw [Nat.add_mod, Nat.mul_mod, Nat.mod_mod, ← Nat.mul_mod, ← Nat.add_mod]
  by_cases h0 : hi % y = 0
  · have hz : (hi : Int) % (y : Int) = 0 := by omega
    have e' : lo % y = (hi * 18446744073709551616 + lo) % y := by rw [← e, h0]; simp
    have E := hid e'
    clear e e'
    go_enter Tryd.func46, Tryd.ntmps46
    go_wp2_with (go_at_call 54; refine (div64_lo _ _ hy hy' hl _).mono ?_; rintro e w' ⟨⟨q, rfl⟩, n, rfl⟩)
    go_ret
    exact ⟨ret_int (by rw [← E.out]; simp), _, rfl⟩
  · obtain ⟨r, hr⟩ : ∃ r, hi % y = r := ⟨_, rfl⟩
    have hz : (hi : Int) % (y : Int) = (r : Int) := by omega
    have E := hid e
    have R := hid hr
    have r0 : 0 < r := by omega
    have r1 : r < y := by omega
    clear e hr h0
    go_enter Tryd.func46, Tryd.ntmps46
    go_wp2_with (go_at_call 54; refine (div64_hi _ _ _ r0 r1 hy' hl _).mono ?_; rintro e w' ⟨q, rfl, rfl⟩)
    go_ret
    exact ⟨ret_int (by rw [← E.out, R.out]; simp), 0, rfl⟩
end Go.Proofs.YtpdgalclnlbeaaaDoor
end

section
namespace Go.Proofs.YtpdgalclnlbeaaaDoor
open Go.RowKit
/-- the product of two words as two words. -/
theorem mul64_c (x y : Nat) (hx : x < 18446744073709551616) (hy : y < 18446744073709551616) : ∃ hi lo : Nat, hi < 18446744073709551616 ∧ lo < 18446744073709551616 ∧ hi * 18446744073709551616 + lo = x * y ∧
    ∀ w : World, Calls Tryd.prog 45 #[.int .u64 x, .int .u64 y] w fun e w' => e = .returned (.tuple #[.int .u64 (hi : Int), .int .u64 (lo : Int)]) ∧ w' = w := by
  refine ⟨_, _, ?_, ?_, Nat.div_add_mod' _ 18446744073709551616, fun w => bits_Mul64 x y hx hy w⟩
  · have := Nat.mul_lt_mul'' hx hy
    omega
  · omega
set_option maxHeartbeats 400000 in
theorem mul_c (a b m : Int) (ha : U64 a) (hb : U64 b) (hm : U64 m) (w : World) :
    Calls Tryd.prog 33 #[.int .u64 a, .int .u64 b, .int .u64 m] w fun e w' => e = .returned (.int .u64 (mMul a b m)) ∧ ∃ n, w' = w.drewN n := by
  have hm' := hm
  obtain ⟨a1, a2⟩ := ha
  obtain ⟨b1, b2⟩ := hb
  obtain ⟨m1, m2⟩ := hm
  by_cases h : okm m = true
  · have h0 := okm_pos h
    have h1 := okm_le h
    obtain ⟨m, rfl⟩ := Int.eq_ofNat_of_zero_le m1
    obtain ⟨a, rfl⟩ := Int.eq_ofNat_of_zero_le a1
    obtain ⟨b, rfl⟩ := Int.eq_ofNat_of_zero_le b1
    have x1 : a % m < m := Nat.mod_lt _ (by omega)
    have y1 : b % m < m := Nat.mod_lt _ (by omega)
    obtain ⟨x, hx⟩ : ∃ x, a % m = x := ⟨_, rfl⟩
    obtain ⟨y, hy⟩ : ∃ y, b % m = y := ⟨_, rfl⟩
    have hX : (a : Int) % (m : Int) = (x : Int) := by omega
    have hY : (b : Int) % (m : Int) = (y : Int) := by omega
    rw [hx] at x1
    rw [hy] at y1
    obtain ⟨hi, lo, q1, q2, q3, hC⟩ := mul64_c x y (by omega) (by omega)
    have hfin : mMul (a : Int) (b : Int) (m : Int) = (((hi * 18446744073709551616 + lo) % m : Nat) : Int) := by
      rw [mMul_ok h, q3, ← hx, ← hy, ← Nat.mul_mod]; simp
    have H := hid hx
    have H2 := hid hy
    have H3 := hid hfin
    have HC := hid hC
    clear hx hy hfin q3 hC
    go_enter Tryd.func33, Tryd.ntmps33
    go_wp2_with (go_at_call 44; refine (may_c _ hm' _).mono ?_; rintro e w' ⟨rfl, rfl⟩)
    go_quiet ((go_at_call 45; exact Calls.quiet_of_same (HC.out _)))
    go_wp2_with (go_at_call 46; refine (rem64_c hi lo m q1 (by omega) (by omega) q2 _).mono ?_; rintro e w' ⟨rfl, n, rfl⟩)
    go_ret
    exact ⟨ret_int H3.out.symm, _, rfl⟩
  · have h' : okm m = false := by simpa using h
    go_enter Tryd.func33, Tryd.ntmps33
    go_wp2_with (go_at_call 44; refine (may_c _ hm' _).mono ?_; rintro e w' ⟨rfl, rfl⟩)
    go_ret
    exact ⟨ret_int (mMul_no h').symm, 0, rfl⟩
end Go.Proofs.YtpdgalclnlbeaaaDoor
end

section
namespace Go.Proofs.YtpdgalclnlbeaaaDoor
open Go.RowKit
attribute [local go_sem] Oper.semAt_some
/-- x is an inverse of a modulo m. -/
def InvIs (a m x : Int) : Prop := 0 ≤ x ∧ x < m ∧ ∃ k, x * a = 1 + m * k
theorem InvIs.unique {a m x y : Int} (h : InvIs a m x) (h' : InvIs a m y) : x = y := by
  obtain ⟨x0, x1, k, hk⟩ := h
  obtain ⟨y0, y1, j, hj⟩ := h'
  have h1 : x * (y * a) = y * (x * a) := by grind
  rw [hk, hj] at h1
  have h2 : x = y + m * (y * k - x * j) := by grind
  have h3 : x % m = y % m := by rw [h2, Int.add_mul_emod_self_left]
  rwa [Int.emod_eq_of_lt x0 x1, Int.emod_eq_of_lt y0 y1] at h3
open Classical in
/-- the inverse, and what is told. -/
noncomputable def iVal (a m : Int) : Int := if h : okm m = true ∧ ∃ x, InvIs a m x then Classical.choose h.2 else 0
open Classical in
noncomputable def iErr (a m : Int) : Int := if okm m = true then (if ∃ x, InvIs a m x then 0 else 5) else 1
theorem iVal_is {a m x : Int} (h : okm m = true) (hx : InvIs a m x) : iVal a m = x := by
  unfold iVal
  rw [dif_pos ⟨h, x, hx⟩]
  exact (Classical.choose_spec (⟨x, hx⟩ : ∃ x, InvIs a m x)).unique hx
theorem iErr_is {a m x : Int} (h : okm m = true) (hx : InvIs a m x) : iErr a m = 0 := by
  unfold iErr
  rw [if_pos h, if_pos ⟨x, hx⟩]
theorem iVal_none {a m : Int} (hx : ¬ ∃ x, InvIs a m x) : iVal a m = 0 := by
  unfold iVal
  rw [dif_neg (fun h => hx h.2)]
theorem iErr_none {a m : Int} (h : okm m = true) (hx : ¬ ∃ x, InvIs a m x) : iErr a m = 5 := by
  unfold iErr
  rw [if_pos h, if_neg hx]
theorem iVal_no {a m : Int} (h : okm m = false) : iVal a m = 0 := by
  unfold iVal
  rw [dif_neg (fun hh => by rw [h] at hh; exact absurd hh.1 (by decide))]
theorem iErr_no {a m : Int} (h : okm m = false) : iErr a m = 1 := by
  unfold iErr
  rw [if_neg (by rw [h]; decide)]
/-- Euclid, extended: what holds between two rounds. -/
structure Eu (a m r s x y : Int) : Prop where
  r0 : 0 < r
  r1 : r ≤ m
  s0 : 0 ≤ s
  s1 : s < m
  x0 : 0 ≤ x
  x1 : x < m ∨ (x = 0)
  y0 : 0 ≤ y
  y1 : y < m
  hx : ∃ k, x * a = r + m * k
  hy : ∃ k, y * a = s + m * k
  hd : ∀ d, d ∣ r → d ∣ s → d ∣ m ∧ d ∣ a
theorem Eu.start {a m : Int} (h : okm m = true) : Eu a m m (a % m) 0 (1 % m) := by
  have h0 := okm_pos h
  refine ⟨h0, Int.le_refl _, Int.emod_nonneg _ (by omega), Int.emod_lt_of_pos _ h0, by omega, .inr rfl, Int.emod_nonneg _ (by omega), Int.emod_lt_of_pos _ h0, ⟨-1, by grind⟩, ⟨a / m - 1 / m * a, ?_⟩, fun d h1 h2 => ⟨h1, ?_⟩⟩
  · have e1 := Int.emod_def a m
    have e2 := Int.emod_def 1 m
    rw [e1, e2]; grind
  · have e1 := Int.mul_ediv_add_emod a m
    rw [← e1]
    exact Int.dvd_add (Int.dvd_trans h1 (Int.dvd_mul_right _ _)) h2
theorem Eu.step {a m r s x y : Int} (h : okm m = true) (e : Eu a m r s x y) (hs : 0 < s) : Eu a m s (r % s) y (mSub x (mMul (r / s) y m) m) := by
  have h0 := okm_pos h
  have f1 := Int.emod_nonneg r (b := s) (by omega)
  have f2 := Int.emod_lt_of_pos r hs
  have f3 := Int.mul_ediv_add_emod r s
  have f4 := e.s1
  rw [mSub_ok h, mMul_ok h]
  refine ⟨hs, by omega, f1, by omega, e.y0, .inl e.y1, Int.emod_nonneg _ (by omega), Int.emod_lt_of_pos _ h0, e.hy, ?_, fun d h1 h2 => e.hd d ?_ h1⟩
  · obtain ⟨k1, hk1⟩ := e.hx
    obtain ⟨k2, hk2⟩ := e.hy
    have g1 := Int.emod_def (r / s * y) m
    have g2 := Int.emod_def (x - r / s * y % m) m
    generalize (x - r / s * y % m) / m = u at *
    generalize r / s * y / m = v at *
    generalize r / s = z at *
    generalize r % s = t at *
    refine ⟨k1 - z * k2 + v * a - u * a, ?_⟩
    rw [g2, g1]
    have : (x - (z * y - m * v) - m * u) * a = x * a - z * (y * a) + m * (v * a) - m * (u * a) := by grind
    rw [this, hk1, hk2, ← f3]
    grind
  · rw [← f3]
    exact Int.dvd_add (Int.dvd_trans h1 (Int.dvd_mul_right _ _)) h2
theorem Eu.yes {a m x y : Int} (h : okm m = true) (e : Eu a m 1 0 x y) : InvIs a m x := by
  have h0 := okm_pos h
  refine ⟨e.x0, ?_, e.hx⟩
  rcases e.x1 with h1 | h1
  · exact h1
  · omega
theorem Eu.no {a m r x y : Int} (e : Eu a m r 0 x y) (hr : r ≠ 1) : ¬ ∃ x, InvIs a m x := by
  rintro ⟨z, _, _, k, hk⟩
  obtain ⟨h1, h2⟩ := e.hd r (Int.dvd_refl _) (Int.dvd_zero _)
  have h3 : r ∣ 1 := by
    have : (1 : Int) = z * a - m * k := by omega
    rw [this]
    exact Int.dvd_sub (Int.dvd_trans h2 (Int.dvd_mul_left _ _)) (Int.dvd_trans h1 (Int.dvd_mul_right _ _))
  have h4 := Int.le_of_dvd (by decide) h3
  have := e.r0
  omega
set_option maxRecDepth 100000 in
set_option maxHeartbeats 2000000 in
theorem inv_c (a m : Int) (ha : U64 a) (hm : U64 m) (w : World) :
    Calls Tryd.prog 55 #[.int .u64 a, .int .u64 m] w fun e w' => e = .returned (.tuple #[.int .u64 (iVal a m), .int .i64 (iErr a m)]) ∧ Dr w w' := by
  by_cases h : okm m = true
  · have h0 := okm_pos h
    have h1 := okm_le h
    have hst := hid (Eu.start (a := a) h)
    obtain ⟨a0, a1⟩ := ha
    go_enter Tryd.func55, Tryd.ntmps55
    go_wp2_with (go_at_call 44; refine (may_c _ hm _).mono ?_; rintro e w' ⟨rfl, rfl⟩; rw [h])
    go_quiet (fail)
    go_wp2
    go_quiet (fail)
    go_wp2
    go_loopw [6, 7, 8, 9, 10] (fun vr vs vx vy _ wr => ∃ r s x y : Int, vr = .int .u64 r ∧ vs = .int .u64 s ∧ vx = .int .u64 x ∧ vy = .int .u64 y ∧ Hid (Eu a m r s x y) ∧ Dr w wr) (fun _ s _ _ _ _ => (intOf s).toNat)
    case atStart => exact ⟨_, _, _, _, rfl, rfl, rfl, rfl, hst, ((Dr.refl w).more _).more _⟩
    case round =>
      obtain ⟨r, s, x, y, rfl, rfl, rfl, rfl, he, hw⟩ := hrel
      have r0 := he.out.r0
      have r1 := he.out.r1
      have s0 := he.out.s0
      have s1 := he.out.s1
      have x0 := he.out.x0
      have x1 : x < 18446744073709551616 := by rcases he.out.x1 with h | h <;> omega
      have y0 := he.out.y0
      have y1 := he.out.y1
      by_cases hz : s = 0
      · subst hz
        by_cases hr : r = 1
        · subst hr
          have hi := he.out.yes h
          have v1 := hid (iVal_is h hi)
          have v2 := hid (iErr_is h hi)
          go_wp2
          go_ret2
          rw [v1.out, v2.out]
          exact ⟨rfl, hw⟩
        · have hi := he.out.no hr
          have v1 := hid (iVal_none hi)
          have v2 := hid (iErr_none h hi)
          have hbr : (r != 1) = true := bne_iff_ne.2 hr
          clear hi
          go_wp2
          go_ret2
          rw [v1.out, v2.out]
          exact ⟨rfl, hw⟩
      · have hs : 0 < s := by omega
        have hbs : (s != 0) = true := bne_iff_ne.2 hz
        have hn := hid (he.out.step h hs)
        have q0 : 0 ≤ r / s := Int.ediv_nonneg (by omega) (by omega)
        have q1 : r / s ≤ r := Int.ediv_le_self _ (by omega)
        have f1 := Int.emod_nonneg r (b := s) (by omega)
        have f2 := Int.emod_lt_of_pos r hs
        have uq : U64 (r / s) := ⟨q0, by omega⟩
        have uy : U64 y := ⟨y0, by omega⟩
        have ux : U64 x := ⟨x0, x1⟩
        clear hst
        go_wp2
        go_quiet (fail)
        go_wp2_with (first | (go_at_call 33; refine (mul_c _ _ _ uq uy hm _).mono ?_; rintro e w5 ⟨rfl, hw5⟩) | (go_at_call 52; refine (sub_c _ _ _ ux (mMul_u64 _ _ _) hm _).mono ?_; rintro e w6 ⟨rfl, hw6⟩))
        go_roundw
        case rel => exact ⟨_, _, _, _, rfl, rfl, rfl, rfl, hn, ((hw.more _).trans hw5).trans hw6⟩
        case measure => simp [intOf]; omega
  · have h' : okm m = false := by simpa using h
    have v1 := hid (iVal_no (a := a) h')
    have v2 := hid (iErr_no (a := a) h')
    go_enter Tryd.func55, Tryd.ntmps55
    go_wp2_with (go_at_call 44; refine (may_c _ hm _).mono ?_; rintro e w' ⟨rfl, rfl⟩; rw [h'])
    go_ret2
    rw [v1.out, v2.out]
    exact ⟨rfl, Dr.refl _⟩
end Go.Proofs.YtpdgalclnlbeaaaDoor
end
