/-
  The document's disk in memory; its small questions.
-/
import Derived.Test.YtnniiokpngdgkaaRkP
namespace Go.Proofs.Ytnniiokpngdgkaa
open Go Go.ChangeShapes Go.WideShapes Go.ChangeAt Go.RowKit Go.Maps Go.Shelf Go.Proofs

/-- writes of the document's, of this call's own. -/
def OwnR (w : World) (base : Nat) (v : Value) (xs : List Pt) : Prop := w.ownsRow base 96 2 v xs.length (xs.flatMap pcl)
abbrev CellsP (w : World) (A : Option Addr) (l : List Pt) : Prop := Cells w A (l.flatMap pcl)
theorem flatP_get : ∀ (l : List Pt) (k : Nat) (p : Pt), l[k]? = some p → (l.flatMap pcl)[k * 2]? = some (.int .i64 p.1) ∧ (l.flatMap pcl)[k * 2 + 1]? = some (.string p.2) := by
  intro l
  induction l with
  | nil => intro k p h; simp at h
  | cons x l ih =>
    intro k p h
    cases k with
    | zero => simp only [List.getElem?_cons_zero, Option.some.injEq] at h; subst h; simp
    | succ k =>
      have := ih k p (by simpa using h)
      rw [List.flatMap_cons]
      have e1 : (k + 1) * 2 = k * 2 + 2 := by omega
      have e2 : (k + 1) * 2 + 1 = k * 2 + 1 + 2 := by omega
      rw [e1, show k * 2 + 2 + 1 = k * 2 + 1 + 2 by omega]
      simpa using this
theorem cellsP_at {w : World} {A : Option Addr} {l : List Pt} (h : CellsP w A l) {k : Nat} {p : Pt} (hp : l[k]? = some p) :
    ∃ b off, A = some ⟨b, off, none⟩ ∧ w.cell? ⟨b, off + k * 2, none⟩ = some (.int .i64 p.1) ∧ w.cell? ⟨b, off + k * 2 + 1, none⟩ = some (.string p.2) := by
  obtain ⟨h1, h2⟩ := flatP_get l k p hp
  rcases h with h0 | ⟨b, off, rfl, h5⟩
  · rw [h0] at h1; simp at h1
  · have := h5 _ _ h2
    rw [← Nat.add_assoc] at this
    exact ⟨b, off, rfl, h5 _ _ h1, this⟩
theorem OwnR.cellsP {w : World} {base : Nat} {v : Value} {l : List Pt} (h : OwnR w base v l) : ∃ A c, v = .slice A l.length c ∧ CellsP w A l := by
  rcases h.2 with ⟨rfl, h0⟩ | ⟨g, cap, cur, rfl, _, _⟩
  · obtain rfl := List.eq_nil_of_length_eq_zero h0
    exact ⟨none, 0, rfl, .inl rfl⟩
  · exact ⟨_, cap, rfl, .inr ⟨g, 0, rfl, fun t u hu => by have := World.ownsRow.cells (g := g) h rfl t u hu; rw [add_none rfl] at this; exact this⟩⟩
theorem OwnR.keep {w w' : World} {base : Nat} {v : Value} {l : List Pt} (h : OwnR w base v l) (hk : ∀ g, v.ownBlock = some g → w'.heap[g]? = w.heap[g]?) : OwnR w' base v l := ownsRow_keep h hk
theorem OwnR.block {w : World} {base : Nat} {v : Value} {l : List Pt} (h : OwnR w base v l) : ∀ g, v.ownBlock = some g → base ≤ g ∧ g < w.heap.size := World.ownsRow.lt h
theorem OwnR.ne_row {w : World} {base g : Nat} {e : TypeId} {v : Value} {l : List Pt} {ys : List Value} (h : OwnR w base v l) (hr : Row1 w g e ys) (he : e ≠ 96) : v.ownBlock ≠ some g := by
  intro e1
  rcases h.2 with ⟨rfl, _⟩ | ⟨g2, cap, cur, rfl, _, h3, _⟩
  · cases e1
  · simp only [Value.ownBlock, Option.some.injEq] at e1
    subst e1
    unfold Row1 at hr
    rw [hr] at h3
    simp only [Option.some.injEq, Obj.cells.injEq] at h3
    exact he h3.2.1
theorem OwnR.from_ {w : World} {base b : Nat} {v : Value} {l : List Pt} (h : OwnR w base v l) (hb : b ≤ base) : OwnR w b v l := by
  refine ⟨h.1, ?_⟩
  rcases h.2 with hn | ⟨g, cap, cur, rfl, hg, rest⟩
  · exact .inl hn
  · exact .inr ⟨g, cap, cur, rfl, Nat.le_trans hb hg, rest⟩
/-- the document's disk, at block g. -/
structure RDsk (w : World) (g : Nat) (vp vc : Value) (r : Rk) : Prop where
  row : Row1 w g 44 [vp, vc, .bool r.hs, .int .i64 r.lf, .bool r.ov]
  P : OwnR w 0 vp r.P
  C : OwnR w 0 vc r.C
/-- what is turned: block g, and new ones. -/
structure RT (w w' : World) (g : Nat) : Prop where
  os : w'.os = w.os
  tape : w'.tape = w.tape
  output : w'.output = w.output
  size : w.heap.size ≤ w'.heap.size
  block : ∀ i, i < w.heap.size → i ≠ g → w'.heap[i]? = w.heap[i]?
section
variable {w w' w'' : World} {g : Nat} {vp vc : Value} {r : Rk}
theorem RT.of_below (h : Below w.heap.size w w') : RT w w' g := ⟨h.os, h.tape, h.output, h.size, fun i hi _ => h.block i hi⟩
theorem RT.refl : RT w w g := .of_below (Below.refl _ _)
theorem RT.trans (h : RT w w' g) (k : RT w' w'' g) : RT w w'' g :=
  ⟨k.os.trans h.os, k.tape.trans h.tape, k.output.trans h.output, Nat.le_trans h.size k.size, fun i hi h1 => (k.block i (Nat.lt_of_lt_of_le hi h.size) h1).trans (h.block i hi h1)⟩
theorem RT.next (h : RT w w' g) (hb : Below w'.heap.size w' w'') : RT w w'' g := h.trans (.of_below hb)
theorem RT.set (h : RT w w' g) (k : Nat) (u : Value) : RT w (w'.setCell ⟨g, k, none⟩ u) g :=
  ⟨h.os, h.tape, h.output, by simpa using h.size, fun i hi h1 => (Below.heap_setCell w' ⟨g, k, none⟩ u i h1).trans (h.block i hi h1)⟩
theorem RT.past {B : Nat} {w0 : World} (h : RT w w' g) (hw : Below B w0 w) (hB : B ≤ w.heap.size) (h1 : B ≤ g) : Below B w0 w' :=
  ⟨h.os.trans hw.os, h.tape.trans hw.tape, h.output.trans hw.output, Nat.le_trans hw.size h.size, fun i hi => (h.block i (Nat.lt_of_lt_of_le hi hB) (by omega)).trans (hw.block i hi)⟩
theorem RDsk.keep (h : RDsk w g vp vc r) (h1 : w'.heap[g]? = w.heap[g]?) (h2 : ∀ b, vp.ownBlock = some b → w'.heap[b]? = w.heap[b]?) (h3 : ∀ b, vc.ownBlock = some b → w'.heap[b]? = w.heap[b]?) : RDsk w' g vp vc r :=
  ⟨h.row.keep h1, h.P.keep h2, h.C.keep h3⟩
theorem RDsk.below (h : RDsk w g vp vc r) (hb : Below w.heap.size w w') : RDsk w' g vp vc r :=
  h.keep (hb.block g h.row.lt) (fun b e => hb.block b (h.P.block b e).2) fun b e => hb.block b (h.C.block b e).2
theorem RDsk.dr (h : RDsk w g vp vc r) (hd : Dr w w') : RDsk w' g vp vc r := by
  obtain ⟨m, rfl⟩ := hd; exact h.keep rfl (fun _ _ => rfl) fun _ _ => rfl
theorem RDsk.cells (h : RDsk w g vp vc r) : w.cell? ⟨g, 0, none⟩ = some vp ∧ w.cell? ⟨g, 1, none⟩ = some vc ∧ w.cell? ⟨g, 2, none⟩ = some (.bool r.hs) ∧ w.cell? ⟨g, 3, none⟩ = some (.int .i64 r.lf) ∧ w.cell? ⟨g, 4, none⟩ = some (.bool r.ov) :=
  ⟨h.row.cell (k := 0) rfl, h.row.cell (k := 1) rfl, h.row.cell (k := 2) rfl, h.row.cell (k := 3) rfl, h.row.cell (k := 4) rfl⟩
theorem RDsk.free (h : RDsk w g vp vc r) : w.frozen? ⟨g, 0, none⟩ = false ∧ w.frozen? ⟨g, 1, none⟩ = false ∧ w.frozen? ⟨g, 2, none⟩ = false ∧ w.frozen? ⟨g, 3, none⟩ = false ∧ w.frozen? ⟨g, 4, none⟩ = false :=
  ⟨h.row.frozen 0, h.row.frozen 1, h.row.frozen 2, h.row.frozen 3, h.row.frozen 4⟩
theorem RDsk.P_ne (h : RDsk w g vp vc r) : vp.ownBlock ≠ some g := h.P.ne_row h.row (by decide)
theorem RDsk.C_ne (h : RDsk w g vp vc r) : vc.ownBlock ≠ some g := h.C.ne_row h.row (by decide)
/-- one of its cells is written. -/
theorem RDsk.set (h : RDsk w g vp vc r) (k : Nat) (u : Value) {vp' vc' : Value} {r' : Rk} (hr : [vp', vc', .bool r'.hs, .int .i64 r'.lf, .bool r'.ov] = ([vp, vc, .bool r.hs, .int .i64 r.lf, .bool r.ov] : List Value).set k u) (hP : OwnR w 0 vp' r'.P) (hC : OwnR w 0 vc' r'.C) : RDsk (w.setCell ⟨g, k, none⟩ u) g vp' vc' r' := by
  have hrow := h.row
  refine ⟨by rw [hr]; exact h.row.set k u, hP.keep fun b hb => Below.heap_setCell w ⟨g, k, none⟩ u b fun e => hP.ne_row hrow (by decide) (by rw [hb, e]), hC.keep fun b hb => Below.heap_setCell w ⟨g, k, none⟩ u b fun e => hC.ne_row hrow (by decide) (by rw [hb, e])⟩
end

theorem ris_c (a : Int) (w : World) : Calls Try.prog 61 #[.int .i64 a] w fun e w' => e = .returned (.bool (isS a)) ∧ w = w' := by
  by_cases h : 0 ≤ a
  · by_cases h2 : a < 65536
    · have e : isS a = true := isS_iff.2 ⟨h, h2⟩
      rw [e]
      go_enter Try.func61, Try.ntmps61
      go_wp2
      go_ret
      exact ⟨rfl, rfl⟩
    · have e : isS a = false := by rw [← Bool.not_eq_true, isS_iff]; omega
      rw [e]
      go_enter Try.func61, Try.ntmps61
      go_wp2
      go_ret
      exact ⟨rfl, rfl⟩
  · have e : isS a = false := by rw [← Bool.not_eq_true, isS_iff]; omega
    rw [e]
    go_enter Try.func61, Try.ntmps61
    go_wp2
    go_ret
    exact ⟨rfl, rfl⟩
set_option maxHeartbeats 1000000 in
theorem rfull_c (s : ByteArray) (w : World) (hs : s.size ≤ 512) :
    Calls Try.prog 63 #[.string s] w fun e w' => e = .returned (.string (pad s)) ∧ Below w.heap.size w w' := by
  obtain ⟨z, hz⟩ : ∃ z : Nat, 512 - s.size = z := ⟨_, rfl⟩
  have hz2 : (512 : Int) - (s.size : Int) = (z : Int) := by omega
  have hzs := zs_size z
  have hp : pad s = s ++ zs z := by rw [← hz]; rfl
  rw [hp]
  go_enter Try.func63, Try.ntmps63
  go_wp2_with (at_make; refine wpList_make_row elt_u8 _ rfl _ _ rfl .i64 .i64 (z : Int) (z : Int) z rfl rfl rfl rfl (by omega) (by omega) ?_; intro w1 hR hs hb; have hcv := conv_zeros hR)
  go_ret
  exact ⟨rfl, hb⟩
theorem rnew_c (w : World) : Calls Try.prog 28 #[] w fun e w' => ∃ g, e = .returned (.pointer (some ⟨g, 0, none⟩)) ∧ RDsk w' g (.slice none 0 0) (.slice none 0 0) rk0 ∧ w.heap.size ≤ g ∧ Below w.heap.size w w' := by
  go_enter Try.func28, Try.ntmps28
  go_wp2
  go_ret
  exact ⟨_, rfl, ⟨row1_new w [.slice none 0 0, .slice none 0 0, .bool false, .int .i64 0, .bool false] 44, ⟨rfl, .inl ⟨rfl, rfl⟩⟩, ⟨rfl, .inl ⟨rfl, rfl⟩⟩⟩, Nat.le_refl _, below_alloc _ _⟩
set_option maxHeartbeats 1000000 in
theorem rlast_c (A : Option Addr) (l : List Pt) (c : Nat) (a : Int) (w : World) (hA : CellsP w A l) (hl : l.length ≤ 1000000) :
    Calls Try.prog 62 #[.slice A l.length c, .int .i64 a] w fun e w' => e = .returned (.tuple #[.string (sOf (lastC l a)), .bool (lastC l a).isSome]) ∧ w = w' := by
  have HA := hid hA
  clear hA
  go_enter Try.func62, Try.ntmps62
  go_wp2
  go_loopw [6] (fun i wr => ∃ k : Nat, i = .int .i64 ((k : Int) - 1) ∧ k ≤ l.length ∧ lastC l a = lastC (l.take k) a ∧ w = wr) (fun i _ => (intOf i + 1).toNat)
  case atStart => exact ⟨l.length, rfl, Nat.le_refl _, by rw [List.take_length], rfl⟩
  case round =>
    obtain ⟨k, rfl, hk, hq, rfl⟩ := hrel
    cases k with
    | zero =>
      have H0 := hid (show lastC l a = none from hq)
      clear hq
      go_wp2
      go_ret2
      exact ⟨by simp [sOf, H0.out], rfl⟩
    | succ k =>
      obtain ⟨x, hx⟩ := get_of_lt (l := l) (k := k) (by omega)
      obtain ⟨b, off, rfl, d0, d1⟩ := cellsP_at HA.out hx
      rw [take_snoc hx, lastC_snoc] at hq
      have hkk : ((k + 1 : Nat) : Int) - 1 = k := by omega
      rw [hkk]
      by_cases hxa : x.1 = a
      · rw [if_pos hxa] at hq
        have H0 := hid hq
        clear hx hq
        go_wp2
        go_ret2
        exact ⟨by simp [sOf, H0.out], rfl⟩
      · rw [if_neg hxa] at hq
        have HQ := hid hq
        clear hx hq
        go_wp2
        go_roundw
        case rel => exact ⟨k, by go_num, by omega, HQ.out, trivial⟩
        case measure => simp [intOf]
end Go.Proofs.Ytnniiokpngdgkaa
