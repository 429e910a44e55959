/-
  A disk in memory; a sector of 00s; a new disk; small questions.
-/
import Derived.Test.YthllhnjbddpeoaaDkS
import Derived.Test.YthllhnjbddpeoaaDkP
import Derived.Test.YthllhnjbddpeoaaTab
namespace Go.Proofs.Ythllhnjbddpeoaa
open Go.RowKit Go.Maps

theorem wf_i64 {x : Int} (h : I64 x) : (Lit.int .i64 x).wf = true := by
  have h1 : IntKind.i64.min = -9223372036854775808 := by kernel_rfl
  have h2 : IntKind.i64.max = 9223372036854775807 := by kernel_rfl
  obtain ⟨_, _⟩ := h
  simp only [Lit.wf, h1, h2, Bool.and_eq_true, decide_eq_true_eq]; omega
/-- how a sector lies in a map. -/
def bR : Value → Option (DataW ByteArray × List MemPlace)
  | .string s => some (.held s, [])
  | _ => none
/-- sectors in a map. -/
def dM : MK Try.prog 3 Pt ByteArray where
  R := bR
  key p := .int .i64 p.1
  tok p := p.2
  kv p := .int .i64 p.1
  val p := .string p.2
  ok p := I64 p.1
  K := int_keyed Try.underlying3
  hkey _ h := keyOf_int_mk Try.underlying3 (wf_i64 h)
  hval _ _ := rfl
  inv v a ps h := by
    unfold bR at h
    split at h
    · simp only [Option.some.injEq, Prod.mk.injEq, DataW.held.injEq] at h
      rw [h.1]
    · cases h

/-- a write's cells. -/
abbrev pcl (p : Pt) : List Value := [.int .i64 p.1, .string p.2]
abbrev pval (p : Pt) : Value := .agg #[.int .i64 p.1, .string p.2]
/-- writes of this call's own. -/
def OwnP (w : World) (base : Nat) (v : Value) (xs : List Pt) : Prop := w.ownsRow base 80 2 v xs.length (xs.flatMap pcl)
section
variable {w w' : World} {base : Nat} {v : Value} {xs : List Pt}
theorem OwnP.nil (w : World) (base : Nat) : OwnP w base (.slice none 0 0) [] := ⟨rfl, .inl ⟨rfl, rfl⟩⟩
theorem OwnP.block (h : OwnP w base v xs) : ∀ g, v.ownBlock = some g → base ≤ g ∧ g < w.heap.size := World.ownsRow.lt h
theorem OwnP.keep (h : OwnP w base v xs) (hk : ∀ g, v.ownBlock = some g → w'.heap[g]? = w.heap[g]?) : OwnP w' base v xs := by
  refine ⟨h.1, ?_⟩
  rcases h.2 with hn | ⟨g, cap, cur, rfl, hb, hg, rest⟩
  · exact .inl hn
  · exact .inr ⟨g, cap, cur, rfl, hb, (hk g rfl).trans hg, rest⟩
theorem OwnP.from_ {b : Nat} (h : OwnP w base v xs) (hb : b ≤ base) : OwnP w b v xs := by
  refine ⟨h.1, ?_⟩
  rcases h.2 with hn | ⟨g, cap, cur, rfl, hg, rest⟩
  · exact .inl hn
  · exact .inr ⟨g, cap, cur, rfl, Nat.le_trans hb hg, rest⟩
theorem OwnP.ne_row {g : Nat} {e : TypeId} {ys : List Value} (h : OwnP w base v xs) (hr : Row1 w g e ys) (he : e ≠ 80) : v.ownBlock ≠ some g := by
  intro e1
  rcases h.2 with ⟨rfl, _⟩ | ⟨g2, cap, cur, rfl, _, h3, _⟩
  · cases e1
  · simp only [Value.ownBlock, Option.some.injEq] at e1
    subst e1
    unfold Row1 at hr
    rw [hr] at h3
    simp only [Option.some.injEq, Obj.cells.injEq] at h3
    exact he h3.2.1
theorem OwnP.ne_map {b : Nat} {L : List Pt} (h : OwnP w base v xs) (hm : MapAt dM w b L) : v.ownBlock ≠ some b := by
  intro e1
  obtain ⟨es, clock, hb⟩ := hm.isMap
  rcases h.2 with ⟨rfl, _⟩ | ⟨g2, cap, cur, rfl, _, h3, _⟩
  · cases e1
  · simp only [Value.ownBlock, Option.some.injEq] at e1
    subst e1
    rw [hb] at h3
    cases h3
theorem OwnP.form (h : OwnP w base v xs) : ∃ A cap, v = .slice A xs.length cap := by
  rcases h.2 with ⟨rfl, h0⟩ | ⟨g, cap, cur, rfl, hb, hg, hn, hm, hs, ht⟩
  · exact ⟨none, 0, by rw [h0]⟩
  · exact ⟨_, cap, rfl⟩
end

/-- a disk, at block g, its map at block gm, its cache's value v. -/
structure Dsk (w : World) (g gm : Nat) (v : Value) (d : Dk) : Prop where
  row : Row1 w g 85 [.map (some gm), v, .bool d.fu, .int .i64 d.le, .bool d.de]
  map : MapAt dM w gm d.P
  own : OwnP w 0 v d.C
section
variable {w w' : World} {g gm : Nat} {v : Value} {d : Dk}
theorem Dsk.keep (h : Dsk w g gm v d) (h1 : w'.heap[g]? = w.heap[g]?) (h2 : w'.heap[gm]? = w.heap[gm]?) (h3 : ∀ b, v.ownBlock = some b → w'.heap[b]? = w.heap[b]?) : Dsk w' g gm v d :=
  ⟨h.row.keep h1, h.map.keep h2, h.own.keep h3⟩
theorem Dsk.lt (h : Dsk w g gm v d) : g < w.heap.size ∧ gm < w.heap.size ∧ g ≠ gm := ⟨h.row.lt, h.map.lt, h.map.ne_row h.row⟩
theorem Dsk.vlt (h : Dsk w g gm v d) {b : Nat} (hb : v.ownBlock = some b) : b < w.heap.size ∧ b ≠ g ∧ b ≠ gm :=
  ⟨(h.own.block b hb).2, fun e => h.own.ne_row h.row (by decide) (by rw [hb, e]), fun e => h.own.ne_map h.map (by rw [hb, e])⟩
theorem Dsk.below (h : Dsk w g gm v d) (hb : Below w.heap.size w w') : Dsk w' g gm v d := h.keep (hb.block g h.lt.1) (hb.block gm h.lt.2.1) fun b e => hb.block b (h.vlt e).1
theorem Dsk.dr (h : Dsk w g gm v d) (hd : Dr w w') : Dsk w' g gm v d := by
  obtain ⟨m, rfl⟩ := hd; exact h.keep rfl rfl fun _ _ => rfl
theorem Dsk.cells (h : Dsk w g gm v d) : w.cell? ⟨g, 0, none⟩ = some (.map (some gm)) ∧ w.cell? ⟨g, 1, none⟩ = some v ∧ w.cell? ⟨g, 2, none⟩ = some (.bool d.fu) ∧ w.cell? ⟨g, 3, none⟩ = some (.int .i64 d.le) ∧ w.cell? ⟨g, 4, none⟩ = some (.bool d.de) :=
  ⟨h.row.cell (k := 0) rfl, h.row.cell (k := 1) rfl, h.row.cell (k := 2) rfl, h.row.cell (k := 3) rfl, h.row.cell (k := 4) rfl⟩
theorem Dsk.free (h : Dsk w g gm v d) : w.frozen? ⟨g, 0, none⟩ = false ∧ w.frozen? ⟨g, 1, none⟩ = false ∧ w.frozen? ⟨g, 2, none⟩ = false ∧ w.frozen? ⟨g, 3, none⟩ = false ∧ w.frozen? ⟨g, 4, none⟩ = false :=
  ⟨h.row.frozen 0, h.row.frozen 1, h.row.frozen 2, h.row.frozen 3, h.row.frozen 4⟩
/-- one of its own cells is written. -/
theorem Dsk.set (h : Dsk w g gm v d) (k : Nat) (u : Value) {d' : Dk} (hP : d'.P = d.P) (hC : d'.C = d.C) (hr : [.map (some gm), v, .bool d'.fu, .int .i64 d'.le, .bool d'.de] = ([.map (some gm), v, .bool d.fu, .int .i64 d.le, .bool d.de] : List Value).set k u) : Dsk (w.setCell ⟨g, k, none⟩ u) g gm v d' :=
  ⟨by rw [hr]; exact h.row.set k u, by rw [hP]; exact h.map.far h.lt.2.2 u, by rw [hC]; exact h.own.keep fun b hb => Below.heap_setCell w ⟨g, k, none⟩ u b (h.vlt hb).2.1⟩
end

/-- what is turned: the disk's own blocks, and new ones. -/
structure Tch (w w' : World) (g gm : Nat) (v : Value) : Prop where
  os : w'.os = w.os
  tape : w'.tape = w.tape
  output : w'.output = w.output
  size : w.heap.size ≤ w'.heap.size
  block : ∀ i, i < w.heap.size → i ≠ g → i ≠ gm → v.ownBlock ≠ some i → w'.heap[i]? = w.heap[i]?
section
variable {w w' w'' : World} {g gm : Nat} {v v' : Value} {d : Dk}
theorem Tch.of_below (h : Below w.heap.size w w') : Tch w w' g gm v := ⟨h.os, h.tape, h.output, h.size, fun i hi _ _ _ => h.block i hi⟩
theorem Tch.refl : Tch w w g gm v := .of_below (Below.refl _ _)
/-- the cache's row stays, or is a new one, or none. -/
def Then (w : World) (v v' : Value) : Prop := ∀ b, v'.ownBlock = some b → v.ownBlock = some b ∨ w.heap.size ≤ b
theorem Then.refl : Then w v v := fun _ h => .inl h
theorem Tch.trans (h : Tch w w' g gm v) (ht : Then w v v') (k : Tch w' w'' g gm v') : Tch w w'' g gm v := by
  refine ⟨k.os.trans h.os, k.tape.trans h.tape, k.output.trans h.output, Nat.le_trans h.size k.size, fun i hi h1 h2 h3 => (k.block i (Nat.lt_of_lt_of_le hi h.size) h1 h2 fun e => ?_).trans (h.block i hi h1 h2 h3)⟩
  rcases ht i e with h4 | h4
  · exact h3 h4
  · omega
theorem Then.trans {v'' : Value} (h : Then w v v') (hs : w.heap.size ≤ w'.heap.size) (k : Then w' v' v'') : Then w v v'' := fun b hb => by
  rcases k b hb with h1 | h1
  · exact h b h1
  · exact .inr (Nat.le_trans hs h1)
theorem Tch.past {B : Nat} {w0 : World} (h : Tch w w' g gm v) (hw : Below B w0 w) (hB : B ≤ w.heap.size) (h1 : B ≤ g) (h2 : B ≤ gm) (h3 : ∀ b, v.ownBlock = some b → B ≤ b) : Below B w0 w' :=
  ⟨h.os.trans hw.os, h.tape.trans hw.tape, h.output.trans hw.output, Nat.le_trans hw.size h.size, fun i hi => (h.block i (Nat.lt_of_lt_of_le hi hB) (by omega) (by omega) fun e => by have := h3 i e; omega).trans (hw.block i hi)⟩
theorem Tch.grown (h : Tch w w' g gm v) {r : Nat} (k : w'.grownBy w'' (some r)) (hr : r = g ∨ r = gm ∨ v.ownBlock = some r ∨ w.heap.size ≤ r) : Tch w w'' g gm v :=
  ⟨k.os.trans h.os, k.tape.trans h.tape, k.output.trans h.output, Nat.le_trans h.size k.size, fun i hi h1 h2 h3 => (k.block i (Nat.lt_of_lt_of_le hi h.size) fun e => by
    obtain rfl := Option.some.inj e
    rcases hr with rfl | rfl | h4 | h4
    · exact h1 rfl
    · exact h2 rfl
    · exact h3 h4
    · omega).trans (h.block i hi h1 h2 h3)⟩
theorem Tch.set (h : Tch w w' g gm v) (k : Nat) (u : Value) : Tch w (w'.setCell ⟨g, k, none⟩ u) g gm v :=
  ⟨h.os, h.tape, h.output, by simpa using h.size, fun i hi h1 h2 h3 => (Below.heap_setCell w' ⟨g, k, none⟩ u i h1).trans (h.block i hi h1 h2 h3)⟩
theorem Tch.set_new (h : Tch w w' g gm v) (p : Addr) (u : Value) (hp : w.heap.size ≤ p.block) : Tch w (w'.setCell p u) g gm v :=
  ⟨h.os, h.tape, h.output, by simpa using h.size, fun i hi h1 h2 h3 => (Below.heap_setCell w' p u i (by omega)).trans (h.block i hi h1 h2 h3)⟩
theorem Tch.next (h : Tch w w' g gm v) (hb : Below w'.heap.size w' w'') : Tch w w'' g gm v :=
  ⟨hb.os.trans h.os, hb.tape.trans h.tape, hb.output.trans h.output, Nat.le_trans h.size hb.size, fun i hi h1 h2 h3 => (hb.block i (Nat.lt_of_lt_of_le hi h.size)).trans (h.block i hi h1 h2 h3)⟩
/-- another disk stays. -/
theorem Tch.other {g2 gm2 : Nat} {v2 : Value} {d2 : Dk} (h : Tch w w' g gm v) (k : Dsk w g2 gm2 v2 d2) (h1 : g2 ≠ g ∧ g2 ≠ gm ∧ v.ownBlock ≠ some g2) (h2 : gm2 ≠ g ∧ gm2 ≠ gm ∧ v.ownBlock ≠ some gm2) (h3 : ∀ b, v2.ownBlock = some b → b ≠ g ∧ b ≠ gm ∧ v.ownBlock ≠ some b) : Dsk w' g2 gm2 v2 d2 :=
  k.keep (h.block _ k.lt.1 h1.1 h1.2.1 h1.2.2) (h.block _ k.lt.2.1 h2.1 h2.2.1 h2.2.2) fun b hb => h.block _ (k.vlt hb).1 (h3 b hb).1 (h3 b hb).2.1 (h3 b hb).2.2
end

theorem blank_c (w : World) : Calls Try.prog 54 #[] w fun e w' => e = .returned (.string blk) ∧ Below w.heap.size w w' := by
  have hc := Try.strings_Repeat ⟨#[0]⟩ 512 w (by omega) (by decide)
  have hz : (⟨(Lib.repeatL (⟨#[0]⟩ : ByteArray).data.toList 512).toArray⟩ : ByteArray) = blk := by decide +kernel
  rw [hz] at hc
  clear hz
  go_enter Try.func54, Try.ntmps54
  go_wp2_with (fail)
  refine hc.mono ?_
  rintro e w' ⟨rfl, hb⟩
  go_wp2
  go_ret
  exact ⟨rfl, hb⟩
theorem is_c (a : Int) (w : World) (ha : I64 a) : Calls Try.prog 53 #[.int .i64 a] w fun e w' => e = .returned (.bool (isS a)) ∧ w = w' := by
  by_cases h : 0 ≤ a
  · by_cases h2 : a < 65536
    · have e : isS a = true := isS_iff.2 ⟨h, h2⟩
      rw [e]
      clear e
      go_enter Try.func53, Try.ntmps53
      go_wp2
      go_ret
      exact ⟨rfl, rfl⟩
    · have e : isS a = false := by simp [isS]; omega
      rw [e]
      clear e
      go_enter Try.func53, Try.ntmps53
      go_wp2
      go_ret
      exact ⟨rfl, rfl⟩
  · have e : isS a = false := by simp [isS]; omega
    rw [e]
    clear e
    go_enter Try.func53, Try.ntmps53
    go_wp2
    go_ret
    exact ⟨rfl, rfl⟩
theorem dnew_c (w : World) :
    Calls Try.prog 27 #[] w fun e w' => ∃ g gm, e = .returned (.pointer (some ⟨g, 0, none⟩)) ∧ Dsk w' g gm (.slice none 0 0) dk0 ∧ w.heap.size ≤ g ∧ w.heap.size ≤ gm ∧ Below w.heap.size w w' := by
  have hmm := @run_makeMap Try.prog
  go_enter Try.func27, Try.ntmps27
  go_wp2
  go_ret
  refine ⟨w.heap.size + 1, w.heap.size, rfl, ⟨?_, (mapAt_made w).alloc _, OwnP.nil _ _⟩, by omega, by omega, (below_alloc w _).alloc (by simp) _⟩
  have := row1_new (w.alloc (.map #[] 0)) [.map (some w.heap.size), .slice none 0 0, .bool false, .int .i64 0, .bool false] 85
  simpa [dk0] using this
theorem dead_c (g gm : Nat) (v : Value) (d : Dk) (w : World) (h : Dsk w g gm v d) :
    Calls Try.prog 25 #[.pointer (some ⟨g, 0, none⟩)] w fun e w' => e = .returned (.bool d.de) ∧ w = w' := by
  obtain ⟨c0, c1, c2, c3, c4⟩ := h.cells
  go_enter Try.func25, Try.ntmps25
  go_wp2
  go_ret
  exact ⟨rfl, rfl⟩
theorem dead_nil (w : World) : Calls Try.prog 25 #[.pointer none] w fun e w' => e = .returned (.bool true) ∧ w = w' := by
  go_enter Try.func25, Try.ntmps25
  go_wp2
  go_ret
  exact ⟨rfl, rfl⟩
theorem waits_c (g gm : Nat) (v : Value) (d : Dk) (w : World) (h : Dsk w g gm v d) :
    Calls Try.prog 30 #[.pointer (some ⟨g, 0, none⟩)] w fun e w' => e = .returned (.int .i64 d.C.length) ∧ w = w' := by
  obtain ⟨c0, c1, c2, c3, c4⟩ := h.cells
  obtain ⟨A, cap, rfl⟩ := h.own.form
  go_enter Try.func30, Try.ntmps30
  go_wp2
  go_ret
  exact ⟨rfl, rfl⟩
theorem waits_nil (w : World) : Calls Try.prog 30 #[.pointer none] w fun e w' => e = .returned (.int .i64 0) ∧ w = w' := by
  go_enter Try.func30, Try.ntmps30
  go_wp2
  go_ret
  exact ⟨rfl, rfl⟩
theorem start_c (g gm : Nat) (v : Value) (d : Dk) (w : World) (h : Dsk w g gm v d) :
    Calls Try.prog 22 #[.pointer (some ⟨g, 0, none⟩)] w fun e w' => e = .returned (.tuple #[]) ∧ Dsk w' g gm v d.start ∧ Tch w w' g gm v := by
  obtain ⟨c0, c1, c2, c3, c4⟩ := h.cells
  obtain ⟨f0, f1, f2, f3, f4⟩ := h.free
  go_enter Try.func22, Try.ntmps22
  go_wp2
  go_end0
  have h1 := h.set 4 (.bool false) (d' := { d with de := false }) rfl rfl rfl
  exact ⟨rfl, h1.set 2 (.bool false) (d' := d.start) rfl rfl rfl, (Tch.refl.set _ _).set _ _⟩
theorem fuse_c (g gm : Nat) (v : Value) (d : Dk) (n : Int) (w : World) (h : Dsk w g gm v d) (hn : I64 n) :
    Calls Try.prog 23 #[.pointer (some ⟨g, 0, none⟩), .int .i64 n] w fun e w' => e = .returned (.tuple #[]) ∧ Dsk w' g gm v (d.fuse n) ∧ Tch w w' g gm v := by
  obtain ⟨c0, c1, c2, c3, c4⟩ := h.cells
  obtain ⟨f0, f1, f2, f3, f4⟩ := h.free
  go_enter Try.func23, Try.ntmps23
  go_wp2
  go_end0
  have h1 := h.set 2 (.bool (decide (0 ≤ n))) (d' := { d with fu := decide (0 ≤ n) }) rfl rfl rfl
  exact ⟨rfl, h1.set 3 (.int .i64 n) (d' := d.fuse n) rfl rfl rfl, (Tch.refl.set _ _).set _ _⟩
end Go.Proofs.Ythllhnjbddpeoaa
