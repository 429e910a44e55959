/-
  The base of this seat's walks: words on draws, on slices, and on slices that the call makes. (No program in sight.)
-/
import Derived.Test.YtgdfphcggjclkaaDoorRows
import Derived.Test.YtgdfphcggjclkaaDoorPlain
import Derived.WalkKit
import Derived.WalkSpells
import Derived.WalkLawsBesides
import Derived.Deep.QuietTactic
import Derived.Deep.Upon
import Derived.BigQuiet
import Derived.OwnWalk
import Derived.Maps.AppendAt
namespace Go.Proofs.YtgdfphcggjclkaaDoor
open Go.RowKit

theorem hid {p : Prop} (h : p) : Hid p := h
theorem ret_int {k : IntKind} {a b : Int} (h : a = b) : Ending.returned (.int k a) = .returned (.int k b) := by rw [h]
theorem ret_bool {a b : Bool} (h : a = b) : Ending.returned (.bool a) = .returned (.bool b) := by rw [h]

/-- a world behind some draws. -/
def Dr (w w' : World) : Prop := ∃ n, w' = w.drewN n
theorem Dr.refl (w : World) : Dr w w := ⟨0, rfl⟩
theorem Dr.more {w w' : World} (h : Dr w w') (n : Nat) : Dr w (w'.drewN n) := by
  obtain ⟨m, rfl⟩ := h
  exact ⟨_, World.drewN_drewN _ _ _⟩
theorem Dr.cell {w w' : World} (h : Dr w w') (p : Addr) : w'.cell? p = w.cell? p := by
  obtain ⟨m, rfl⟩ := h; rfl
theorem Dr.trans {a b c : World} (h : Dr a b) (k : Dr b c) : Dr a c := by
  obtain ⟨m, rfl⟩ := k
  exact h.more m


/-- the slice at A reads as these values, one cell each. -/
def Cells (w : World) (A : Option Addr) (xs : List Value) : Prop :=
  xs = [] ∨ ∃ b off, A = some ⟨b, off, none⟩ ∧ ∀ i u, xs[i]? = some u → w.cell? ⟨b, off + i, none⟩ = some u

theorem Cells.nil (w : World) (A : Option Addr) : Cells w A [] := .inl rfl

theorem lt_of_cell {w : World} {a : Addr} {u : Value} (h : w.cell? a = some u) : a.block < w.heap.size := World.block_lt_of_cell? w a h

theorem Cells.keep {w w' : World} {A : Option Addr} {xs : List Value} (h : Cells w A xs) (hk : ∀ p : Addr, p.block < w.heap.size → w'.cell? p = w.cell? p) : Cells w' A xs := by
  rcases h with h | ⟨b, off, rfl, h⟩
  · exact .inl h
  · exact .inr ⟨b, off, rfl, fun i u hu => (hk _ (lt_of_cell (h i u hu))).trans (h i u hu)⟩
theorem Cells.below {w w' : World} {A : Option Addr} {xs : List Value} (h : Cells w A xs) (hb : Below w.heap.size w w') : Cells w' A xs := h.keep fun _ hp => hb.cell hp
theorem Cells.drewN {w : World} {A : Option Addr} {xs : List Value} (h : Cells w A xs) (n : Nat) : Cells (w.drewN n) A xs := h
theorem Cells.dr {w w' : World} {A : Option Addr} {xs : List Value} (h : Cells w A xs) (hd : Dr w w') : Cells w' A xs := by
  obtain ⟨n, rfl⟩ := hd; exact h
theorem Cells.at_ {w : World} {A : Option Addr} {xs : List Value} (h : Cells w A xs) {k : Nat} {u : Value} (hk : xs[k]? = some u) :
    ∃ b off, A = some ⟨b, off, none⟩ ∧ w.cell? ⟨b, off + k, none⟩ = some u := by
  rcases h with h | ⟨b, off, rfl, h⟩
  · subst h; simp at hk
  · exact ⟨b, off, rfl, h k u hk⟩
theorem Cells.at_map {w : World} {A : Option Addr} {α : Type} {f : α → Value} {l : List α} (h : Cells w A (l.map f)) {k : Nat} {x : α} (hk : l[k]? = some x) :
    ∃ b off, A = some ⟨b, off, none⟩ ∧ w.cell? ⟨b, off + k, none⟩ = some (f x) := h.at_ (by simp [hk])

theorem get_of_lt {α : Type} {l : List α} {k : Nat} (h : k < l.length) : ∃ x, l[k]? = some x := ⟨_, List.getElem?_eq_getElem h⟩

abbrev u64 (x : Int) : Value := .int .u64 x


/-- what the program's table says of a slice type and of its element type, of one cell. -/
structure Elt (P : Program) (t e : TypeId) (z : Value) (bytes : Nat) : Prop where
  under : P.underlying t = some (.slice e)
  info : ∃ i, P.info? e = some i ∧ i.zero = some z ∧ i.size = 1 ∧ i.bytes = bytes
  one : z.cells.size = 1
  zc : z.cells = #[z]

theorem Elt.of {P : Program} {t e : TypeId} {z : Value} {bytes : Nat} (hu : P.underlying t = some (.slice e)) (hi : (P.info? e).map (fun i => (i.zero, i.size, i.bytes)) = some (some z, 1, bytes)) (hz : z.cells = #[z]) : Elt P t e z bytes :=
  ⟨hu, info_parts hi, by rw [hz]; rfl, hz⟩

/-- v is a slice of this call's own (its block is 'base' or later), of elements of type e, of one cell each. -/
def Own (w : World) (base : Nat) (e : TypeId) (v : Value) (xs : List Value) : Prop := w.ownsRow base e 1 v xs.length xs

section
variable {w w' : World} {base : Nat} {e : TypeId} {v : Value} {xs : List Value}
theorem Own.nil (w : World) (base : Nat) (e : TypeId) : Own w base e (.slice none 0 0) [] := ⟨rfl, .inl ⟨rfl, rfl⟩⟩
theorem Own.block (h : Own w base e v xs) : ∀ g, v.ownBlock = some g → base ≤ g ∧ g < w.heap.size := World.ownsRow.lt h
theorem Own.form (h : Own w base e v xs) : ∃ A cap, v = .slice A xs.length cap ∧ Cells w A xs := by
  rcases h.2 with ⟨rfl, h0⟩ | ⟨g, cap, cur, rfl, hb, hg, hn, hm, hs, ht⟩
  · obtain rfl := List.eq_nil_of_length_eq_zero h0
    exact ⟨none, 0, rfl, .inl rfl⟩
  · refine ⟨_, cap, rfl, .inr ⟨g, 0, rfl, fun i u hu => ?_⟩⟩
    have := World.ownsRow.cells (w := w) h (g := g) rfl i u hu
    have hadd : (⟨g, 0, none⟩ : Addr).add i = ⟨g, 0 + i, none⟩ := by unfold Addr.add; split <;> simp_all
    rwa [hadd] at this
theorem Own.len_le (h : Own w base e v xs) : xs.length ≤ 9223372036854775807 := by
  rcases h.2 with ⟨rfl, h0⟩ | ⟨g, cap, cur, rfl, hb, hg, hn, hm, hs, ht⟩
  · omega
  · unfold maxLen at hm; omega
theorem Own.keep (h : Own w base e v xs) (hk : ∀ g, v.ownBlock = some g → w'.heap[g]? = w.heap[g]?) : Own w' base e v xs := by
  refine ⟨h.1, ?_⟩
  rcases h.2 with hn | ⟨g, cap, cur, rfl, hb, hg, rest⟩
  · exact .inl hn
  · exact .inr ⟨g, cap, cur, rfl, hb, (hk g rfl).trans hg, rest⟩
theorem Own.below (h : Own w base e v xs) (hb : Below w.heap.size w w') : Own w' base e v xs := h.keep fun g hg => hb.block g (h.block g hg).2
theorem Own.dr (h : Own w base e v xs) (hd : Dr w w') : Own w' base e v xs := by
  obtain ⟨n, rfl⟩ := hd; exact h
theorem Own.alloc (h : Own w base e v xs) (o : Obj) : Own (w.alloc o) base e v xs := h.keep fun g hg => Below.heap_alloc w o g (h.block g hg).2
theorem Own.from_ (h : Own w base e v xs) {b : Nat} (hb : b ≤ base) : Own w b e v xs := by
  refine ⟨h.1, ?_⟩
  rcases h.2 with hn | ⟨g, cap, cur, rfl, hg, rest⟩
  · exact .inl hn
  · exact .inr ⟨g, cap, cur, rfl, Nat.le_trans hb hg, rest⟩
end

theorem Dr.size {w w' : World} (h : Dr w w') : w'.heap.size = w.heap.size := by
  obtain ⟨n, rfl⟩ := h; rfl
theorem below_dr {B : Nat} {a w w' : World} (h : Below B a w) (hd : Dr w w') : Below B a w' := by
  obtain ⟨n, rfl⟩ := hd; exact ⟨h.os, h.tape, h.output, h.size, h.block⟩
theorem below_of_dr {B : Nat} {w w' : World} (hd : Dr w w') : Below B w w' := below_dr (Below.refl B w) hd
/-- behind a call that makes memory. -/
theorem below_next {B : Nat} {a w w' : World} (h : Below B a w) (hB : B ≤ w.heap.size) (hb : Below w.heap.size w w') : Below B a w' := h.trans (hb.mono hB)

/-- a row of a fixed length in a block of its own. -/
def Row1 (w : World) (g : Nat) (e : TypeId) (xs : List Value) : Prop := w.heap[g]? = some (.cells xs.toArray e (0, 0))
section
variable {w w' : World} {g : Nat} {e : TypeId} {xs : List Value}
theorem Row1.lt (h : Row1 w g e xs) : g < w.heap.size := (Array.getElem?_eq_some_iff.1 h).1
theorem Row1.keep (h : Row1 w g e xs) (hk : w'.heap[g]? = w.heap[g]?) : Row1 w' g e xs := hk.trans h
theorem Row1.below (h : Row1 w g e xs) (hb : Below w.heap.size w w') : Row1 w' g e xs := h.keep (hb.block g h.lt)
theorem Row1.dr (h : Row1 w g e xs) (hd : Dr w w') : Row1 w' g e xs := by
  obtain ⟨n, rfl⟩ := hd; exact h
theorem Row1.alloc (h : Row1 w g e xs) (o : Obj) : Row1 (w.alloc o) g e xs := h.keep (Below.heap_alloc w o g h.lt)
theorem Row1.cell (h : Row1 w g e xs) {k : Nat} {u : Value} (hk : xs[k]? = some u) : w.cell? ⟨g, k, none⟩ = some u := by
  rw [cell_of_row w g k _ e (0, 0) h]
  simpa using hk
theorem Row1.frozen (h : Row1 w g e xs) (k : Nat) : w.frozen? ⟨g, k, none⟩ = false := by
  unfold Row1 at h
  simp [World.frozen?, h]
theorem Row1.set (h : Row1 w g e xs) (k : Nat) (u : Value) : Row1 (w.setCell ⟨g, k, none⟩ u) g e (xs.set k u) := by
  unfold Row1 at h ⊢
  simp [World.setCell, Array.getElem?_modify, h]
theorem Row1.far (h : Row1 w g e xs) {p : Addr} (hp : p.block ≠ g) (u : Value) : Row1 (w.setCell p u) g e xs := h.keep (Below.heap_setCell w p u g (Ne.symm hp))
theorem Row1.cells (h : Row1 w g e xs) : Cells w (some ⟨g, 0, none⟩) xs := .inr ⟨g, 0, rfl, fun i u hu => by rw [Nat.zero_add]; exact h.cell hu⟩
theorem Row1.own {base : Nat} (h : Row1 w g e xs) (hb : base ≤ g) (hl : xs.length ≤ 9223372036854775807) : Own w base e (.slice (some ⟨g, 0, none⟩) xs.length xs.length) xs :=
  ⟨by omega, .inr ⟨g, xs.length, xs.toArray, rfl, hb, h, Nat.le_refl _, by unfold maxLen; omega, by simp, by simp⟩⟩
end

theorem madeCells_one (z : Value) (n : Nat) : madeCells #[z] n = (List.replicate n z).toArray := by
  simp only [madeCells]
  apply Array.ext
  · simp
  · intro i h1 h2
    simp [Nat.mod_one]

/-- 'make([]T, n)', n a variable: a row of zeros in a new block. -/
theorem wpList_make_row {P : Program} {t e : TypeId} {z : Value} {bytes : Nat} (E : Elt P t e z bytes) (w : World) {ops : Array Oper} {rest : List Oper} {o : Oper} {a : Act} {Q : Exit → Act → World → Prop}
    (hg : o.guard = none) (l c : Operand) (hop : o.op = Op.makeSlice t l c)
    (kl kc : IntKind) (L C : Int) (n : Nat) (hl : a.eval l = .int kl L) (hc : a.eval c = .int kc C) (hL : L = (n : Int)) (hC : C = (n : Int)) (b2 : bytes * n ≤ 281474976710656) (b3 : n ≤ 9223372036854775807)
    (hK : ∀ w', Row1 w' w.heap.size e (List.replicate n z) → w'.heap.size = w.heap.size + 1 → Below w.heap.size w w' → wpList P ops Q rest (a.put o.dst (.slice (some ⟨w.heap.size, 0, none⟩) n n)) w') :
    wpList P ops Q (o :: rest) a w := by
  obtain ⟨i, hi, hz, hs, hby⟩ := E.info
  refine wpList_plain hg fun K hK' => ?_
  have hb : (i.bytes : Int) * (n : Int) ≤ 281474976710656 := by
    rw [hby]
    have h : ((bytes * n : Nat) : Int) ≤ 281474976710656 := by omega
    rwa [Int.natCast_mul] at h
  have hr := run_make (P := P) w t e i z E.under hi hz kl kc (n : Int) (n : Int) (by omega) (by omega) hb (by omega)
  simp only [Int.toNat_natCast] at hr
  subst hL
  subst hC
  unfold Oper.wp
  simp [execOp, hop, hl, hc, hr, Result.andThen]
  refine hK' _ _ (hK _ ?_ (by simp) ((Below.refl _ _).alloc (Nat.le_refl _) _))
  unfold Row1
  rw [heap_alloc_new, hs, E.zc, Nat.mul_one, madeCells_one]

theorem wp_push {P : Program} {t e : TypeId} {z : Value} {bytes : Nat} (E : Elt P t e z bytes) (wr : World) {o : Oper} {a : Act} {K : Act → World → Prop} {Q : Exit → Act → World → Prop}
    (s x : Operand) (hop : o.op = .call { callee := .builtin .append, args := #[s, x], argTypes := #[t, t] })
    (base : Nat) {v : Value} {xs : List Value} (hown : Own wr base e v xs) (hs : a.eval s = v) (u : Value) (hx : a.eval x = .slice (some ⟨wr.heap.size, 0, none⟩) 1 1) (h1 : u.oneCell' = true)
    (hb : (xs.length + 1) * bytes ≤ 140737488355328) (hm : xs.length + 1 ≤ 9223372036854775807) (hbase : base ≤ wr.heap.size)
    (hK : ∀ v' w', Own w' base e v' (xs ++ [u]) → (∀ k, k < wr.heap.size → some k ≠ v.ownBlock → w'.heap[k]? = wr.heap[k]?) → Below base wr w' → K (a.put o.dst v') w') :
    o.wp P a (wr.alloc (.cells #[u] e)) K Q := by
  obtain ⟨i, hi, hz, hsz, hby⟩ := E.info
  refine wp_append_own (P := P) (wr.alloc (.cells #[u] e)) s x t hop base e i z 1 bytes E.under hi hz hsz hby E.one (by decide) v xs.length xs hs (hown.alloc _) ⟨wr.heap.size, 0, none⟩ 1 1 [u] hx rfl (cell_one_new _ _ _)
    (by simpa using h1) (by unfold maxLen; omega) hb (by simp; omega) ?_
  intro v' w' h2 h3 _
  refine hK v' w' ?_ (fun k hk hne => ?_) ?_
  · unfold Own; rw [List.length_append]; exact h2
  · rw [h3.block k (by simp; omega) hne, Below.heap_alloc wr _ k hk]
  · refine ((Below.refl _ _).alloc hbase _).grown h3 (by simp; omega) fun k hk => (hown.block k hk).1

/-- 'out = append(out, u)': u lies in a block that was laid for it just now. -/
theorem wpList_push {P : Program} {t e : TypeId} {z : Value} {bytes : Nat} (E : Elt P t e z bytes) (wr : World) {ops : Array Oper} {rest : List Oper} {o : Oper} {a : Act} {Q : Exit → Act → World → Prop}
    (hg : o.guard = none) (s x : Operand) (hop : o.op = .call { callee := .builtin .append, args := #[s, x], argTypes := #[t, t] })
    (base : Nat) {v : Value} {xs : List Value} (hown : Own wr base e v xs) (hs : a.eval s = v) (u : Value) (hx : a.eval x = .slice (some ⟨wr.heap.size, 0, none⟩) 1 1) (h1 : u.oneCell' = true)
    (hb : (xs.length + 1) * bytes ≤ 140737488355328) (hm : xs.length + 1 ≤ 9223372036854775807) (hbase : base ≤ wr.heap.size)
    (hK : ∀ v' w', Own w' base e v' (xs ++ [u]) → (∀ k, k < wr.heap.size → some k ≠ v.ownBlock → w'.heap[k]? = wr.heap[k]?) → Below base wr w' → wpList P ops Q rest (a.put o.dst v') w') :
    wpList P ops Q (o :: rest) a (wr.alloc (.cells #[u] e)) :=
  wpList_plain hg fun _ hK' => wp_push E wr s x hop base hown hs u hx h1 hb hm hbase fun v' w' h2 h3 h4 => hK' _ _ (hK v' w' h2 h3 h4)

/-- 'append(s, l...)': l lies anywhere. -/
theorem wpList_appends {P : Program} {t e : TypeId} {z : Value} {bytes : Nat} (E : Elt P t e z bytes) (wr : World) {ops : Array Oper} {rest : List Oper} {o : Oper} {a : Act} {Q : Exit → Act → World → Prop}
    (hg : o.guard = none) (s x : Operand) (hop : o.op = .call { callee := .builtin .append, args := #[s, x], argTypes := #[t, t] })
    (base : Nat) {v : Value} {xs : List Value} (hown : Own wr base e v xs) (hs : a.eval s = v) {A : Addr} {c : Nat} {news : List Value} (hnew : Cells wr (some A) news) (hx : a.eval x = .slice (some A) news.length c) (h1 : ∀ u ∈ news, u.oneCell' = true)
    (hb : (xs.length + news.length) * bytes ≤ 140737488355328) (hm : xs.length + news.length ≤ 9223372036854775807) (hbase : base ≤ wr.heap.size)
    (hK : ∀ v' w', Own w' base e v' (xs ++ news) → (∀ k, k < wr.heap.size → some k ≠ v.ownBlock → w'.heap[k]? = wr.heap[k]?) → Below base wr w' → wpList P ops Q rest (a.put o.dst v') w') :
    wpList P ops Q (o :: rest) a wr := by
  obtain ⟨i, hi, hz, hsz, hby⟩ := E.info
  refine wpList_append_own wr hg s x t hop base e i z 1 bytes E.under hi hz hsz hby E.one (by decide) v xs.length xs hs hown A news.length c news hx (by omega) (fun j u hu => ?_) h1 (by unfold maxLen; omega) hb hbase ?_
  · rcases hnew with h | ⟨b, off, h, hc⟩
    · subst h; simp at hu
    · obtain rfl := Option.some.inj h
      have hadd : (⟨b, off, none⟩ : Addr).add j = ⟨b, off + j, none⟩ := by unfold Addr.add; split <;> simp_all
      rw [hadd]
      exact hc j u hu
  · intro v' w' h2 h3 _
    refine hK v' w' ?_ (fun k hk hne => h3.block k hk hne) ((Below.refl _ _).grown h3 hbase fun k hk => (hown.block k hk).1)
    unfold Own; rw [List.length_append]; exact h2

/-- a row of this call's own that is not empty: its cells may be written. -/
theorem Own.row {w : World} {base : Nat} {e : TypeId} {v : Value} {xs : List Value} (h : Own w base e v xs) (hne : 0 < xs.length) :
    ∃ g cap, v = .slice (some ⟨g, 0, none⟩) xs.length cap ∧ base ≤ g ∧ g < w.heap.size ∧ (∀ k u, xs[k]? = some u → w.cell? ⟨g, k, none⟩ = some u) ∧ (∀ k, w.frozen? ⟨g, k, none⟩ = false) ∧
      ∀ w' : World, w'.heap[g]? = w.heap[g]? → ∀ k u', k < xs.length → Own (w'.setCell ⟨g, k, none⟩ u') base e v (xs.set k u') := by
  rcases h.2 with ⟨rfl, h0⟩ | ⟨g, cap, cur, rfl, hb, hg, hn, hm, hs, ht⟩
  · omega
  · refine ⟨g, cap, rfl, hb, (Array.getElem?_eq_some_iff.1 hg).1, fun k u hu => ?_, fun k => ?_, fun w' hw' k u' hk => ?_⟩
    · have := World.ownsRow.cells (w := w) h (g := g) rfl k u hu
      have hadd : (⟨g, 0, none⟩ : Addr).add k = ⟨g, 0 + k, none⟩ := by unfold Addr.add; split <;> simp_all
      rw [hadd, Nat.zero_add] at this
      exact this
    · simp [World.frozen?, hg]
    · refine ⟨by simp, .inr ⟨g, cap, cur.set! k u', by simp, hb, ?_, by simpa using hn, hm, by simpa using hs, ?_⟩⟩
      · rw [hg] at hw'
        simp [World.setCell, Array.getElem?_modify, hw']
      · rw [List.length_set, Array.set!_eq_setIfInBounds, Array.toList_setIfInBounds]
        rw [List.take_set, ht]

theorem row1_new (w : World) (xs : List Value) (e : TypeId) : Row1 (w.alloc (.cells xs.toArray e)) w.heap.size e xs := heap_alloc_new w _
theorem below_alloc (w : World) (o : Obj) : Below w.heap.size w (w.alloc o) := (Below.refl _ _).alloc (Nat.le_refl _) _
/-- Below from the start, behind a block that was laid, and a call. -/
theorem below_alloc_next {w w1 : World} {o : Obj} (h : Below (w.alloc o).heap.size (w.alloc o) w1) : Below w.heap.size w w1 := below_next (below_alloc w o) (by simp) h


/-- a list that lies in blocks of the kind e. -/
def RowT (w : World) (e : TypeId) (v : Value) (xs : List Value) : Prop :=
  ∃ A c, v = .slice A xs.length c ∧ xs.length ≤ 9223372036854775807 ∧ (xs = [] ∨ ∃ b off arr fz, A = some ⟨b, off, none⟩ ∧ w.heap[b]? = some (Obj.cells arr e fz) ∧ ∀ i u, xs[i]? = some u → w.cell? ⟨b, off + i, none⟩ = some u)
section
variable {w w' : World} {e e0 : TypeId} {v v0 : Value} {xs ys : List Value} {base : Nat}
theorem RowT.form (h : RowT w e v xs) : ∃ A c, v = .slice A xs.length c ∧ Cells w A xs ∧ xs.length ≤ 9223372036854775807 := by
  obtain ⟨A, c, rfl, hl, h⟩ := h
  refine ⟨A, c, rfl, ?_, hl⟩
  rcases h with h | ⟨b, off, arr, fz, rfl, _, hc⟩
  · exact .inl h
  · exact .inr ⟨b, off, rfl, hc⟩
theorem RowT.block (h : RowT w e v xs) (hk : ∀ (b : Nat) (arr : Array Value) (fz : Nat × Nat), w.heap[b]? = some (Obj.cells arr e fz) → w'.heap[b]? = w.heap[b]?) : RowT w' e v xs := by
  obtain ⟨A, c, rfl, hl, h⟩ := h
  refine ⟨A, c, rfl, hl, ?_⟩
  rcases h with h | ⟨b, off, arr, fz, rfl, hb, hc⟩
  · exact .inl h
  · refine .inr ⟨b, off, arr, fz, rfl, (hk b arr fz hb).trans hb, fun i u hu => ?_⟩
    rw [World.cell?_of_block (a := ⟨b, off + i, none⟩) (hk b arr fz hb)]
    exact hc i u hu
theorem RowT.below (h : RowT w e v xs) (hb : Below w.heap.size w w') : RowT w' e v xs := h.block fun b _ _ h1 => hb.block b (Array.getElem?_eq_some_iff.1 h1).1
theorem RowT.other (h : RowT w e v xs) (hown : Own w base e0 v0 ys) (hne : e ≠ e0) (hk : ∀ k, k < w.heap.size → some k ≠ v0.ownBlock → w'.heap[k]? = w.heap[k]?) : RowT w' e v xs := by
  refine h.block fun b arr fz h1 => hk b (Array.getElem?_eq_some_iff.1 h1).1 fun hb => ?_
  rcases hown.2 with ⟨rfl, _⟩ | ⟨g, cap, cur, rfl, _, hg, _⟩
  · cases hb
  · simp only [Value.ownBlock, Option.some.injEq] at hb
    subst hb
    rw [h1] at hg
    simp only [Option.some.injEq, Obj.cells.injEq] at hg
    exact hne hg.2.1
theorem RowT.nil (w : World) (e : TypeId) (A : Option Addr) (c : Nat) : RowT w e (.slice A 0 c) [] := ⟨A, c, rfl, by simp, .inl rfl⟩
theorem Own.rowT (h : Own w base e v xs) : RowT w e v xs := by
  have hl := h.len_le
  obtain ⟨A, cap, rfl, hc⟩ := h.form
  rcases h.2 with ⟨h1, h0⟩ | ⟨g, cap', cur, h1, _, hg, _⟩
  · obtain rfl := List.eq_nil_of_length_eq_zero h0
    exact ⟨A, cap, rfl, hl, .inl rfl⟩
  · refine ⟨A, cap, rfl, hl, ?_⟩
    simp only [Value.slice.injEq] at h1
    obtain ⟨rfl, _, _⟩ := h1
    rcases hc with h2 | ⟨b, off, h2, hc⟩
    · exact .inl h2
    · simp only [Option.some.injEq, Addr.mk.injEq] at h2
      obtain ⟨rfl, rfl, _⟩ := h2
      exact .inr ⟨g, 0, cur, (0, 0), rfl, hg, hc⟩
end

/-- 'append([]T{}, l...)': a copy of l. -/
theorem wpList_fresh {P : Program} {t e : TypeId} {z : Value} {bytes : Nat} (E : Elt P t e z bytes) (w : World) {ops : Array Oper} {rest : List Oper} {o : Oper} {a : Act} {Q : Exit → Act → World → Prop}
    (hg : o.guard = none) (s x : Operand) (hop : o.op = .call { callee := .builtin .append, args := #[s, x], argTypes := #[t, t] })
    {A0 : Option Addr} (hs : a.eval s = .slice A0 0 0) {A : Option Addr} {c : Nat} {news : List Value} (hnew : Cells w A news) (hx : a.eval x = .slice A news.length c) (h1 : ∀ u ∈ news, u.oneCell' = true)
    (hb : news.length * bytes ≤ 140737488355328) (hm : news.length ≤ 9223372036854775807)
    (hK : ∀ v' w', RowT w' e v' news → Below w.heap.size w w' → wpList P ops Q rest (a.put o.dst v') w') :
    wpList P ops Q (o :: rest) a w := by
  obtain ⟨i, hi, hz, hsz, hby⟩ := E.info
  by_cases h0 : news = []
  · subst h0
    have hsrc : Src P i.size t (.slice A ([] : List Value).length c) 0 [] w := by
      cases A with
      | none => exact Src.ofNil w E.under c
      | some A => exact Src.ofSlice w E.under A 0 c [] (by simp) (fun j u hu => by simp at hu) (fun u hu => by cases hu)
    have hrun := run_append_nothing (P := P) w t t o.type e i E.under hi A0 0 0 (Nat.le_refl _) _ hsrc
    refine wpList_plain hg fun K hK' => ?_
    unfold Oper.wp
    simp only [List.length_nil] at hx hrun
    simp [execOp, hop, resolve, invoke, builtin, hs, hx, hrun, Result.andThen]
    exact hK' _ _ (hK _ _ (RowT.nil _ _ _ _) (Below.refl _ _))
  · rcases hnew with h | ⟨b, off, rfl, hc⟩
    · exact absurd h h0
    · have hpos : 0 < news.length := by
        rcases Nat.eq_zero_or_pos news.length with h | h
        · exact absurd (List.eq_nil_of_length_eq_zero h) h0
        · exact h
      refine wpList_append_grows w hg s x t hop e i z 1 bytes E.under hi hz hsz hby E.one (by decide) A0 0 0 [] hs (fun _ => ⟨rfl, rfl⟩) rfl (fun b _ j u hu => by simp at hu) ⟨b, off, none⟩ news.length c news hx (by omega) (fun j u hu => ?_) h1 (by omega) (by unfold maxLen; omega) (by simpa using hb) ?_
      · have hadd : (⟨b, off, none⟩ : Addr).add j = ⟨b, off + j, none⟩ := by unfold Addr.add; split <;> simp_all
        rw [hadd]
        exact hc j u hu
      · intro v' w' h2 h3
        have hown : Own w' w.heap.size e v' news := by unfold Own; simpa using h2
        exact hK v' w' hown.rowT ((Below.refl _ _).grown h3 (Nat.le_refl _) fun k hk => by cases hk)

/-- a list of lists whose own row this call owns. -/
def OwnRows (w : World) (base : Nat) (e0 e : TypeId) (v : Value) (f : List (List Value)) : Prop := ∃ vs : List Value, Own w base e0 v vs ∧ vs.length = f.length ∧ ∀ (j : Nat) u xs, vs[j]? = some u → f[j]? = some xs → RowT w e u xs
section
variable {w w' : World} {e e0 : TypeId} {v v' : Value} {f : List (List Value)} {base : Nat}
theorem OwnRows.nil (w : World) (base : Nat) (e0 e : TypeId) : OwnRows w base e0 e (.slice none 0 0) [] := ⟨[], Own.nil _ _ _, rfl, fun j u xs h => by simp at h⟩
theorem OwnRows.below (h : OwnRows w base e0 e v f) (hb : Below w.heap.size w w') : OwnRows w' base e0 e v f := by
  obtain ⟨vs, h1, h2, h3⟩ := h
  exact ⟨vs, h1.below hb, h2, fun j u xs a b => (h3 j u xs a b).below hb⟩
theorem OwnRows.from_ (h : OwnRows w base e0 e v f) {b : Nat} (hb : b ≤ base) : OwnRows w b e0 e v f := by
  obtain ⟨vs, h1, h2, h3⟩ := h
  exact ⟨vs, h1.from_ hb, h2, h3⟩
/-- one more. -/
theorem OwnRows.push {vs : List Value} {u : Value} {xs : List Value} (hne : e ≠ e0) (hl : vs.length = f.length) (h3 : ∀ (j : Nat) u xs, vs[j]? = some u → f[j]? = some xs → RowT w e u xs) (hold : Own w base e0 v vs) (hu : RowT w e u xs)
    (hnew : Own w' base e0 v' (vs ++ [u])) (hk : ∀ k, k < w.heap.size → some k ≠ v.ownBlock → w'.heap[k]? = w.heap[k]?) : OwnRows w' base e0 e v' (f ++ [xs]) := by
  refine ⟨vs ++ [u], hnew, by simp [hl], fun j u' xs' h1 h2 => ?_⟩
  rcases Nat.lt_or_ge j vs.length with h | h
  · rw [List.getElem?_append_left h] at h1
    rw [List.getElem?_append_left (by omega)] at h2
    exact (h3 j u' xs' h1 h2).other hold hne hk
  · rw [List.getElem?_append_right h] at h1
    rw [List.getElem?_append_right (by omega), ← hl] at h2
    cases hj : j - vs.length with
    | zero =>
      rw [hj] at h1 h2
      obtain rfl := Option.some.inj h1
      obtain rfl := Option.some.inj h2
      exact hu.other hold hne hk
    | succ n => rw [hj] at h1; simp at h1
end
/-- a row of this call's own, of which only the length counts: it may be written over. -/
def Writ (w : World) (base : Nat) (e : TypeId) (v : Value) (n : Nat) : Prop := ∃ xs, Own w base e v xs ∧ xs.length = n
theorem Own.writ {w : World} {base : Nat} {e : TypeId} {v : Value} {xs : List Value} (h : Own w base e v xs) : Writ w base e v xs.length := ⟨xs, h, rfl⟩
theorem Writ.below {w w' : World} {base : Nat} {e : TypeId} {v : Value} {n : Nat} (h : Writ w base e v n) (hb : Below w.heap.size w w') : Writ w' base e v n := by
  obtain ⟨xs, h1, h2⟩ := h
  exact ⟨xs, h1.below hb, h2⟩
theorem Writ.set {w : World} {base : Nat} {e : TypeId} {v : Value} {n : Nat} (h : Writ w base e v n) (g k : Nat) (u : Value) : Writ (w.setCell ⟨g, k, none⟩ u) base e v n := by
  obtain ⟨xs, h1, h2⟩ := h
  rcases h1.2 with ⟨rfl, h0⟩ | ⟨g', cap, cur, rfl, hb, hg, hn, hm, hs, ht⟩
  · have hx := List.eq_nil_of_length_eq_zero h0
    subst hx
    exact ⟨[], Own.nil _ _ _, h2⟩
  · by_cases hgg : g' = g
    · subst hgg
      have hl : ((cur.set! k u).toList.take xs.length).length = xs.length := by
        simp at hs ⊢
        omega
      refine ⟨(cur.set! k u).toList.take xs.length, ⟨by simp, .inr ⟨g', cap, cur.set! k u, by rw [hl], hb, ?_, by rw [hl]; exact hn, hm, by simpa using hs, by rw [hl]; simp⟩⟩, by rw [hl, h2]⟩
      simp [World.setCell, Array.getElem?_modify, hg]
    · refine ⟨xs, h1.keep fun k' hk' => ?_, h2⟩
      simp only [Value.ownBlock, Option.some.injEq] at hk'
      subst hk'
      exact Below.heap_setCell w _ u _ hgg
/-- its cells. -/
theorem Writ.at_ {w : World} {base : Nat} {e : TypeId} {v : Value} {n : Nat} (h : Writ w base e v n) {k : Nat} (hk : k < n) : ∃ g cap u, v = .slice (some ⟨g, 0, none⟩) n cap ∧ base ≤ g ∧ g < w.heap.size ∧ w.cell? ⟨g, k, none⟩ = some u ∧ w.frozen? ⟨g, k, none⟩ = false ∧ ∃ arr, w.heap[g]? = some (Obj.cells arr e (0, 0)) := by
  obtain ⟨xs, h1, rfl⟩ := h
  obtain ⟨g, cap, rfl, h2, h3, h4, h5, _⟩ := h1.row (by omega)
  obtain ⟨u, hu⟩ := get_of_lt hk
  refine ⟨g, cap, u, rfl, h2, h3, h4 k u hu, h5 k, ?_⟩
  rcases h1.2 with ⟨h6, _⟩ | ⟨g', cap', cur, h6, _, hg, _⟩
  · cases h6
  · simp only [Value.slice.injEq, Option.some.injEq, Addr.mk.injEq] at h6
    obtain ⟨⟨rfl, _, _⟩, _, _⟩ := h6
    exact ⟨cur, hg⟩
theorem Writ.form {w : World} {base : Nat} {e : TypeId} {v : Value} {n : Nat} (h : Writ w base e v n) : ∃ A cap, v = .slice A n cap ∧ n ≤ 9223372036854775807 := by
  obtain ⟨xs, h1, rfl⟩ := h
  have hl := h1.len_le
  obtain ⟨A, cap, rfl, _⟩ := h1.form
  exact ⟨A, cap, rfl, hl⟩

theorem quiet_dr {P : Program} {f : FuncId} {args : Array Value} {w : World} {n : Nat} {v : Value}
    (h : Calls P f args (w.drewN n) fun e w' => e = .returned v ∧ Dr (w.drewN n) w') : Calls P f args (w.drewN n) fun e w'' => e = .returned v ∧ ∃ m, w'' = w.drewN m :=
  h.mono fun _ _ ⟨he, m, hm⟩ => ⟨he, n + m, by rw [hm, World.drewN_drewN]⟩
theorem quiet_add {P : Program} {f : FuncId} {args : Array Value} {w : World} {a n : Nat} {v : Value}
    (h : Calls P f args (w.drewN (a + n)) fun e w' => e = .returned v ∧ Dr (w.drewN (a + n)) w') : Calls P f args (w.drewN (a + n)) fun e w'' => e = .returned v ∧ ∃ m, w'' = w.drewN (a + m) :=
  h.mono fun _ _ ⟨he, m, hm⟩ => ⟨he, n + m, by rw [hm, World.drewN_drewN, Nat.add_assoc]⟩

end Go.Proofs.YtgdfphcggjclkaaDoor
