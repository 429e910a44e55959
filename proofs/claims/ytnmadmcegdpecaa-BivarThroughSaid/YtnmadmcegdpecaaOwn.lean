/-
  Slices that the call itself makes: what is known of them, and the walk's laws for making them, and for putting one value behind them.
-/
import Derived.Test.YtnmadmcegdpecaaGrid
import Derived.OwnWalk
import Derived.Maps.AppendAt
namespace Go.Proofs.Ytnmadmcegdpecaa
open Go.RowKit

/-- what the program's table says of a slice type and of its element type, of one cell. -/
structure Elt (P : Program) (t e : TypeId) (z : Value) (bytes : Nat) : Prop where
  under : P.underlying t = some (.slice e)
  info : ∃ i, P.info? e = some i ∧ i.zero = some z ∧ i.size = 1 ∧ i.bytes = bytes
  one : z.cells.size = 1
  zc : z.cells = #[z]

theorem Elt.of {P : Program} {t e : TypeId} {z : Value} {bytes : Nat} (hu : P.underlying t = some (.slice e)) (hi : (P.info? e).map (fun i => (i.zero, i.size, i.bytes)) = some (some z, 1, bytes)) (hz : z.cells = #[z]) : Elt P t e z bytes :=
  ⟨hu, info_parts hi, by rw [hz]; rfl, hz⟩

/-- v is a slice of this call's own (its block is 'base' or later), of elements of type e, of one cell each. -/
def Own (w : World) (base : Nat) (e : TypeId) (v : Value) (xs : List Value) : Prop := w.ownsRow base e 1 v xs.length xs

section
variable {w w' : World} {base : Nat} {e : TypeId} {v : Value} {xs : List Value}
theorem Own.nil (w : World) (base : Nat) (e : TypeId) : Own w base e (.slice none 0 0) [] := ⟨rfl, .inl ⟨rfl, rfl⟩⟩
theorem Own.block (h : Own w base e v xs) : ∀ g, v.ownBlock = some g → base ≤ g ∧ g < w.heap.size := World.ownsRow.lt h
theorem Own.form (h : Own w base e v xs) : ∃ A cap, v = .slice A xs.length cap ∧ Cells w A xs := by
  rcases h.2 with ⟨rfl, h0⟩ | ⟨g, cap, cur, rfl, hb, hg, hn, hm, hs, ht⟩
  · obtain rfl := List.eq_nil_of_length_eq_zero h0
    exact ⟨none, 0, rfl, .inl rfl⟩
  · refine ⟨_, cap, rfl, .inr ⟨g, 0, rfl, fun i u hu => ?_⟩⟩
    have := World.ownsRow.cells (w := w) h (g := g) rfl i u hu
    have hadd : (⟨g, 0, none⟩ : Addr).add i = ⟨g, 0 + i, none⟩ := by unfold Addr.add; split <;> simp_all
    rwa [hadd] at this
theorem Own.len_le (h : Own w base e v xs) : xs.length ≤ 9223372036854775807 := by
  rcases h.2 with ⟨rfl, h0⟩ | ⟨g, cap, cur, rfl, hb, hg, hn, hm, hs, ht⟩
  · omega
  · unfold maxLen at hm; omega
theorem Own.keep (h : Own w base e v xs) (hk : ∀ g, v.ownBlock = some g → w'.heap[g]? = w.heap[g]?) : Own w' base e v xs := by
  refine ⟨h.1, ?_⟩
  rcases h.2 with hn | ⟨g, cap, cur, rfl, hb, hg, rest⟩
  · exact .inl hn
  · exact .inr ⟨g, cap, cur, rfl, hb, (hk g rfl).trans hg, rest⟩
theorem Own.below (h : Own w base e v xs) (hb : Below w.heap.size w w') : Own w' base e v xs := h.keep fun g hg => hb.block g (h.block g hg).2
theorem Own.dr (h : Own w base e v xs) (hd : Dr w w') : Own w' base e v xs := by
  obtain ⟨n, rfl⟩ := hd; exact h
theorem Own.alloc (h : Own w base e v xs) (o : Obj) : Own (w.alloc o) base e v xs := h.keep fun g hg => Below.heap_alloc w o g (h.block g hg).2
theorem Own.from_ (h : Own w base e v xs) {b : Nat} (hb : b ≤ base) : Own w b e v xs := by
  refine ⟨h.1, ?_⟩
  rcases h.2 with hn | ⟨g, cap, cur, rfl, hg, rest⟩
  · exact .inl hn
  · exact .inr ⟨g, cap, cur, rfl, Nat.le_trans hb hg, rest⟩
end

theorem Dr.size {w w' : World} (h : Dr w w') : w'.heap.size = w.heap.size := by
  obtain ⟨n, rfl⟩ := h; rfl
theorem below_dr {B : Nat} {a w w' : World} (h : Below B a w) (hd : Dr w w') : Below B a w' := by
  obtain ⟨n, rfl⟩ := hd; exact ⟨h.os, h.tape, h.output, h.size, h.block⟩
theorem below_of_dr {B : Nat} {w w' : World} (hd : Dr w w') : Below B w w' := below_dr (Below.refl B w) hd
/-- behind a call that makes memory. -/
theorem below_next {B : Nat} {a w w' : World} (h : Below B a w) (hB : B ≤ w.heap.size) (hb : Below w.heap.size w w') : Below B a w' := h.trans (hb.mono hB)

/-- a row of a fixed length in a block of its own. -/
def Row1 (w : World) (g : Nat) (e : TypeId) (xs : List Value) : Prop := w.heap[g]? = some (.cells xs.toArray e (0, 0))
section
variable {w w' : World} {g : Nat} {e : TypeId} {xs : List Value}
theorem Row1.lt (h : Row1 w g e xs) : g < w.heap.size := (Array.getElem?_eq_some_iff.1 h).1
theorem Row1.keep (h : Row1 w g e xs) (hk : w'.heap[g]? = w.heap[g]?) : Row1 w' g e xs := hk.trans h
theorem Row1.below (h : Row1 w g e xs) (hb : Below w.heap.size w w') : Row1 w' g e xs := h.keep (hb.block g h.lt)
theorem Row1.dr (h : Row1 w g e xs) (hd : Dr w w') : Row1 w' g e xs := by
  obtain ⟨n, rfl⟩ := hd; exact h
theorem Row1.alloc (h : Row1 w g e xs) (o : Obj) : Row1 (w.alloc o) g e xs := h.keep (Below.heap_alloc w o g h.lt)
theorem Row1.cell (h : Row1 w g e xs) {k : Nat} {u : Value} (hk : xs[k]? = some u) : w.cell? ⟨g, k, none⟩ = some u := by
  rw [cell_of_row w g k _ e (0, 0) h]
  simpa using hk
theorem Row1.frozen (h : Row1 w g e xs) (k : Nat) : w.frozen? ⟨g, k, none⟩ = false := by
  unfold Row1 at h
  simp [World.frozen?, h]
theorem Row1.set (h : Row1 w g e xs) (k : Nat) (u : Value) : Row1 (w.setCell ⟨g, k, none⟩ u) g e (xs.set k u) := by
  unfold Row1 at h ⊢
  simp [World.setCell, Array.getElem?_modify, h]
theorem Row1.far (h : Row1 w g e xs) {p : Addr} (hp : p.block ≠ g) (u : Value) : Row1 (w.setCell p u) g e xs := h.keep (Below.heap_setCell w p u g (Ne.symm hp))
theorem Row1.cells (h : Row1 w g e xs) : Cells w (some ⟨g, 0, none⟩) xs := .inr ⟨g, 0, rfl, fun i u hu => by rw [Nat.zero_add]; exact h.cell hu⟩
theorem Row1.own {base : Nat} (h : Row1 w g e xs) (hb : base ≤ g) (hl : xs.length ≤ 9223372036854775807) : Own w base e (.slice (some ⟨g, 0, none⟩) xs.length xs.length) xs :=
  ⟨by omega, .inr ⟨g, xs.length, xs.toArray, rfl, hb, h, Nat.le_refl _, by unfold maxLen; omega, by simp, by simp⟩⟩
end

theorem madeCells_one (z : Value) (n : Nat) : madeCells #[z] n = (List.replicate n z).toArray := by
  simp only [madeCells]
  apply Array.ext
  · simp
  · intro i h1 h2
    simp [Nat.mod_one]

/-- 'make([]T, n)', n a variable: a row of zeros in a new block. -/
theorem wpList_make_row {P : Program} {t e : TypeId} {z : Value} {bytes : Nat} (E : Elt P t e z bytes) (w : World) {ops : Array Oper} {rest : List Oper} {o : Oper} {a : Act} {Q : Exit → Act → World → Prop}
    (hg : o.guard = none) (l c : Operand) (hop : o.op = Op.makeSlice t l c)
    (kl kc : IntKind) (L C : Int) (n : Nat) (hl : a.eval l = .int kl L) (hc : a.eval c = .int kc C) (hL : L = (n : Int)) (hC : C = (n : Int)) (b2 : bytes * n ≤ 281474976710656) (b3 : n ≤ 9223372036854775807)
    (hK : ∀ w', Row1 w' w.heap.size e (List.replicate n z) → w'.heap.size = w.heap.size + 1 → Below w.heap.size w w' → wpList P ops Q rest (a.put o.dst (.slice (some ⟨w.heap.size, 0, none⟩) n n)) w') :
    wpList P ops Q (o :: rest) a w := by
  obtain ⟨i, hi, hz, hs, hby⟩ := E.info
  refine wpList_plain hg fun K hK' => ?_
  have hb : (i.bytes : Int) * (n : Int) ≤ 281474976710656 := by
    rw [hby]
    have h : ((bytes * n : Nat) : Int) ≤ 281474976710656 := by omega
    rwa [Int.natCast_mul] at h
  have hr := run_make (P := P) w t e i z E.under hi hz kl kc (n : Int) (n : Int) (by omega) (by omega) hb (by omega)
  simp only [Int.toNat_natCast] at hr
  subst hL
  subst hC
  unfold Oper.wp
  simp [execOp, hop, hl, hc, hr, Result.andThen]
  refine hK' _ _ (hK _ ?_ (by simp) ((Below.refl _ _).alloc (Nat.le_refl _) _))
  unfold Row1
  rw [heap_alloc_new, hs, E.zc, Nat.mul_one, madeCells_one]

theorem wp_push {P : Program} {t e : TypeId} {z : Value} {bytes : Nat} (E : Elt P t e z bytes) (wr : World) {o : Oper} {a : Act} {K : Act → World → Prop} {Q : Exit → Act → World → Prop}
    (s x : Operand) (hop : o.op = .call { callee := .builtin .append, args := #[s, x], argTypes := #[t, t] })
    (base : Nat) {v : Value} {xs : List Value} (hown : Own wr base e v xs) (hs : a.eval s = v) (u : Value) (hx : a.eval x = .slice (some ⟨wr.heap.size, 0, none⟩) 1 1) (h1 : u.oneCell' = true)
    (hb : (xs.length + 1) * bytes ≤ 140737488355328) (hm : xs.length + 1 ≤ 9223372036854775807) (hbase : base ≤ wr.heap.size)
    (hK : ∀ v' w', Own w' base e v' (xs ++ [u]) → (∀ k, k < wr.heap.size → some k ≠ v.ownBlock → w'.heap[k]? = wr.heap[k]?) → Below base wr w' → K (a.put o.dst v') w') :
    o.wp P a (wr.alloc (.cells #[u] e)) K Q := by
  obtain ⟨i, hi, hz, hsz, hby⟩ := E.info
  refine wp_append_own (P := P) (wr.alloc (.cells #[u] e)) s x t hop base e i z 1 bytes E.under hi hz hsz hby E.one (by decide) v xs.length xs hs (hown.alloc _) ⟨wr.heap.size, 0, none⟩ 1 1 [u] hx rfl (cell_one_new _ _ _)
    (by simpa using h1) (by unfold maxLen; omega) hb (by simp; omega) ?_
  intro v' w' h2 h3 _
  refine hK v' w' ?_ (fun k hk hne => ?_) ?_
  · unfold Own; rw [List.length_append]; exact h2
  · rw [h3.block k (by simp; omega) hne, Below.heap_alloc wr _ k hk]
  · refine ((Below.refl _ _).alloc hbase _).grown h3 (by simp; omega) fun k hk => (hown.block k hk).1

/-- 'out = append(out, u)': u lies in a block that was laid for it just now. -/
theorem wpList_push {P : Program} {t e : TypeId} {z : Value} {bytes : Nat} (E : Elt P t e z bytes) (wr : World) {ops : Array Oper} {rest : List Oper} {o : Oper} {a : Act} {Q : Exit → Act → World → Prop}
    (hg : o.guard = none) (s x : Operand) (hop : o.op = .call { callee := .builtin .append, args := #[s, x], argTypes := #[t, t] })
    (base : Nat) {v : Value} {xs : List Value} (hown : Own wr base e v xs) (hs : a.eval s = v) (u : Value) (hx : a.eval x = .slice (some ⟨wr.heap.size, 0, none⟩) 1 1) (h1 : u.oneCell' = true)
    (hb : (xs.length + 1) * bytes ≤ 140737488355328) (hm : xs.length + 1 ≤ 9223372036854775807) (hbase : base ≤ wr.heap.size)
    (hK : ∀ v' w', Own w' base e v' (xs ++ [u]) → (∀ k, k < wr.heap.size → some k ≠ v.ownBlock → w'.heap[k]? = wr.heap[k]?) → Below base wr w' → wpList P ops Q rest (a.put o.dst v') w') :
    wpList P ops Q (o :: rest) a (wr.alloc (.cells #[u] e)) :=
  wpList_plain hg fun _ hK' => wp_push E wr s x hop base hown hs u hx h1 hb hm hbase fun v' w' h2 h3 h4 => hK' _ _ (hK v' w' h2 h3 h4)

theorem elt_u64 : Elt Try.prog 26 23 (.int .u64 0) 8 := .of Try.underlying26 (by kernel_rfl) rfl
theorem elt_rows : Elt Try.prog 22 26 (.slice none 0 0) 24 := .of Try.underlying22 (by kernel_rfl) rfl
theorem elt_i64 : Elt Try.prog 42 2 (.int .i64 0) 8 := .of Try.underlying42 (by kernel_rfl) rfl

end Go.Proofs.Ytnmadmcegdpecaa
