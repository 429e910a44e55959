/-
  Params, rows of numbers, queries, numbers and yes or no, as arguments (seat B).
-/
import Derived.Test.YtmmmdidbnjcooaaDoorOpenT
import Derived.Test.YtmmmdidbnjcooaaDoorAdA
import Derived.Deep.Slices
namespace Go.Proofs.YtmmmdidbnjcooaaDoor
open Go.ChangeShapes Go.WideShapes Go.ChangeAt Go.RowKit Go.Deep

section
variable {H : Type} {enc : TypeId × Value → H}

set_option maxRecDepth 100000 in
theorem trod_intA {w : World} {base : Nat} {spare : Nat → Bool} {held : Bool} {t : TypeId} {k : IntKind} {fuel : Nat} {c : Value} {x : DataW H × List MemPlace} (ht : Tryd.prog.underlying t = some (.int k)) (h : DataW.trod enc Tryd.prog w base spare held fuel t [c] = some x) :
    ∃ z, c = .int k z ∧ (Lit.int k z).wf = true := by
  cases fuel with
  | zero => simp [DataW.trod] at h
  | succ n =>
    unfold DataW.trod at h
    rw [ht] at h
    cases c <;> simp at h
    rename_i k' z
    obtain ⟨⟨rfl, h2⟩, _⟩ := h
    exact ⟨z, rfl, h2⟩
set_option maxRecDepth 100000 in
theorem par_at {r : Reach} {b0 : Nat} {v : Value} {d : DataW H} {p : List MemPlace} {w : World} {base : Nat} {spare : Nat → Bool} {held : Bool} (hv : Value.okWide Tryd.prog w r b0 34 v) (h : DataW.Trod enc Tryd.prog w base spare held 34 v d p) :
    ∃ q : Par, v = pval q ∧ q.ok := by
  obtain ⟨cs, n, rfl, hlen, hf⟩ := fields_at Tryd.underlying34 (by kernel_rfl) (by kernel_rfl) hv h
  match cs, hlen with
  | [c0, c1, c2, c3, c4, c5, c6, c7, c8, c9, c10, c11], _ =>
    obtain ⟨_, g0⟩ := hf 0 _ c0 rfl rfl
    obtain ⟨_, g1⟩ := hf 1 _ c1 rfl rfl
    obtain ⟨_, g2⟩ := hf 2 _ c2 rfl rfl
    obtain ⟨_, g3⟩ := hf 3 _ c3 rfl rfl
    obtain ⟨_, g4⟩ := hf 4 _ c4 rfl rfl
    obtain ⟨_, g5⟩ := hf 5 _ c5 rfl rfl
    obtain ⟨_, g6⟩ := hf 6 _ c6 rfl rfl
    obtain ⟨_, g7⟩ := hf 7 _ c7 rfl rfl
    obtain ⟨_, g8⟩ := hf 8 _ c8 rfl rfl
    obtain ⟨_, g9⟩ := hf 9 _ c9 rfl rfl
    obtain ⟨_, g10⟩ := hf 10 _ c10 rfl rfl
    obtain ⟨_, g11⟩ := hf 11 _ c11 rfl rfl
    obtain ⟨z0, rfl, w0⟩ := trod_intA Tryd.underlying24 g0
    obtain ⟨z1, rfl, w1⟩ := trod_intA Tryd.underlying24 g1
    obtain ⟨z2, rfl, w2⟩ := trod_intA Tryd.underlying24 g2
    obtain ⟨z3, rfl, w3⟩ := trod_intA Tryd.underlying24 g3
    obtain ⟨z4, rfl, w4⟩ := trod_intA Tryd.underlying3 g4
    obtain ⟨z5, rfl, w5⟩ := trod_intA Tryd.underlying3 g5
    obtain ⟨z6, rfl, w6⟩ := trod_intA Tryd.underlying3 g6
    obtain ⟨z7, rfl, w7⟩ := trod_intA Tryd.underlying3 g7
    obtain ⟨z8, rfl, w8⟩ := trod_intA Tryd.underlying3 g8
    obtain ⟨z9, rfl, w9⟩ := trod_intA Tryd.underlying3 g9
    obtain ⟨z10, rfl, w10⟩ := trod_intA Tryd.underlying2 g10
    obtain ⟨z11, rfl, w11⟩ := trod_intA Tryd.underlying2 g11
    exact ⟨⟨z0, z1, z2, z3, z4, z5, z6, z7, z8, z9, z10, z11⟩, rfl, ⟨u64_of w0, u64_of w1, u64_of w2, u64_of w3, i64_of w4, i64_of w5, i64_of w6, i64_of w7, i64_of w8, i64_of w9, i64_of w10, i64_of w11⟩⟩

set_option maxRecDepth 100000 in
theorem ints_at {fuel : Nat} {v : Value} {x : DataW H × List MemPlace} {w : World} (h : DataW.trod enc Tryd.prog w 0 (fun _ => true) true fuel 36 [v] = some x) :
    ∃ (A : Option Addr) (l : List Int) (c : Nat), v = .slice A l.length c ∧ Cells w A (l.map (.int .i64)) ∧ l.length ≤ 9223372036854775807 ∧ I64s l := by
  obtain ⟨A, l, c, h1, h2, h3, h4⟩ := nums_at Tryd.underlying36 Tryd.underlying2 (by kernel_rfl) h
  exact ⟨A, l, c, h1, h2, h3, fun z hz => i64_of (h4 z hz)⟩
set_option maxRecDepth 100000 in
theorem words_at {fuel : Nat} {v : Value} {x : DataW H × List MemPlace} {w : World} (h : DataW.trod enc Tryd.prog w 0 (fun _ => true) true fuel 25 [v] = some x) :
    ∃ (A : Option Addr) (l : List Int) (c : Nat), v = .slice A l.length c ∧ Cells w A (l.map (.int .u64)) ∧ l.length ≤ 9223372036854775807 ∧ U64s l := by
  obtain ⟨A, l, c, h1, h2, h3, h4⟩ := nums_at Tryd.underlying25 Tryd.underlying24 (by kernel_rfl) h
  exact ⟨A, l, c, h1, h2, h3, fun z hz => u64_of (h4 z hz)⟩

set_option maxRecDepth 100000 in
/-- a value of one cell. -/
theorem one_of {w : World} {base : Nat} {spare : Nat → Bool} {held : Bool} {t : TypeId} {v : Value} {d : DataW H} {p : List MemPlace} {r : Reach} {b0 : Nat} {e : TypeId} (ht : Tryd.prog.underlying t = some (.slice e)) (hv : Value.okWide Tryd.prog w r b0 t v) (h : DataW.Trod enc Tryd.prog w base spare held t v d p) :
    ∃ fuel, DataW.trod enc Tryd.prog w base spare held fuel t [v] = some (d, p) := by
  obtain ⟨fuel, hf⟩ := h
  obtain ⟨a, n, c, rfl⟩ := okWide_slice ht hv
  exact ⟨fuel, hf⟩

theorem add_noneA {a : Addr} (h : a.spot = none) (j : Nat) : a.add j = ⟨a.block, a.off + j, none⟩ := by
  unfold Addr.add
  split
  · rename_i h3; subst h3; cases a; simp only at h; subst h; rfl
  · rfl
theorem two_of {α : Type} {l : List α} (h : l.length = 2) : ∃ a0 a1, l = [a0, a1] := by
  match l, h with
  | [a0, a1], _ => exact ⟨a0, a1, rfl⟩
/-- queries: what the two cells are. -/
theorem oneA_cells {w : World} {n : Nat} {c0 c1 : Value} {y0 y1 : DataW H × List MemPlace}
    (h0 : DataW.trod enc Tryd.prog w 0 (fun _ => true) true n 3 [c0] = some y0) (h1 : DataW.trod enc Tryd.prog w 0 (fun _ => true) true n 36 [c1] = some y1) :
    ∃ (u : AskV) (a : Ask), [c0, c1] = acl u ∧ u.id = a.id ∧ RowI w u.v a.x ∧ I64 a.id ∧ I64s a.x := by
  obtain ⟨z0, rfl, w0⟩ := trod_intA Tryd.underlying3 h0
  obtain ⟨A, l, c, rfl, hA, hl, hu⟩ := ints_at h1
  exact ⟨⟨z0, .slice A l.length c⟩, ⟨z0, l⟩, rfl, rfl, ⟨A, c, rfl, hA, hl⟩, i64_of w0, hu⟩
set_option maxRecDepth 100000 in
theorem asks_at {fuel : Nat} {v : Value} {x : DataW H × List MemPlace} {w : World} (h : DataW.trod enc Tryd.prog w 0 (fun _ => true) true fuel 35 [v] = some x) :
    ∃ (A : Option Addr) (l : List Ask) (c : Nat), v = .slice A l.length c ∧ Asks w A l ∧ l.length ≤ 9223372036854775807 ∧ (∀ a ∈ l, I64 a.id) ∧ ∀ a ∈ l, I64s a.x := by
  have hS := Tryd.underlying38
  have hC : Tryd.prog.cellsOf 38 = 2 := by kernel_rfl
  rcases open_slice Tryd.underlying35 h with ⟨h1, _⟩ | ⟨a, len, cap, m, n, D, Pl, h1, _, hl, hm, hmm, hx, hi⟩
  · simp only [List.cons.injEq, and_true] at h1
    exact ⟨none, [], 0, h1, asks_none w, by simp, fun u hu => (by cases hu), fun u hu => (by cases hu)⟩
  · simp only [List.cons.injEq, and_true] at h1
    simp only [if_true] at hmm
    have key : ∀ i, ∃ p : AskV × Ask, i < len → (p.1.id = p.2.id ∧ RowI w p.1.v p.2.x ∧ I64 p.2.id ∧ I64s p.2.x) ∧ ∀ j, j < 2 → w.cell? ((a.add (i * 2)).add j) = (acl p.1)[j]? := by
      intro i
      by_cases hil : i < len
      · obtain ⟨cs', hc, ht'⟩ := hi i (by omega)
        rw [hC] at hc
        obtain ⟨ys, n', _, hD, hlen, hys, hf⟩ := DataW.trod_struct hS ht'
        obtain ⟨_, hcl, hat⟩ := World.cells?_some hc
        match cs', hcl with
        | [c0, c1], _ =>
          have o1 : oneCellFields Tryd.prog (Tryd.prog.fieldsOf 38) = true := by kernel_rfl
          simp only [Program.fieldsOf, hS] at o1
          obtain ⟨a0, b0⟩ := hone_of o1 0 _ rfl
          obtain ⟨a1, b1⟩ := hone_of o1 1 _ rfl
          have g0 := hf 0 _ rfl
          have g1 := hf 1 _ rfl
          rw [b0] at g0; rw [b1] at g1
          obtain ⟨y0, y1, rfl⟩ := two_of (show ys.length = 2 from hys)
          obtain ⟨u, q, hu, ho⟩ := oneA_cells (by simpa using g0) (by simpa using g1)
          exact ⟨(u, q), fun _ => ⟨ho, fun j hj => by rw [hat j hj, hu]⟩⟩
      · exact ⟨(⟨0, .int .i64 0⟩, ⟨0, []⟩), fun h => absurd h hil⟩
    obtain ⟨f, hf⟩ := Classical.axiomOfChoice key
    have hll : ((List.range len).map fun i => (f i).2).length = len := by simp
    refine ⟨some a, (List.range len).map fun i => (f i).2, cap, by rw [hll]; exact h1, ?_, by rw [hll]; unfold maxLen at hm; omega, ?_, ?_⟩
    · refine ⟨(List.range len).map fun i => (f i).1, ?_, by simp, ?_⟩
      · cases len with
        | zero => exact .inl rfl
        | succ len =>
          right
          obtain ⟨_, h5⟩ := hf 0 (by omega)
          have h0 := h5 0 (by omega)
          rw [Nat.zero_mul] at h0
          have ha0 : (a.add 0).add 0 = a := rfl
          rw [ha0] at h0
          have hs := spot_none (show w.cell? a = some (.int .i64 (f 0).1.id) from h0)
          refine ⟨a.block, a.off, by cases a; simp only at hs; subst hs; rfl, fun t u hu => ?_⟩
          have ht := (List.getElem?_eq_some_iff.1 hu).1
          rw [flatA_len] at ht
          simp only [List.length_map, List.length_range] at ht
          obtain ⟨f1, f2⟩ := flatA_at ((List.range (len + 1)).map fun i => (f i).1) (t / 2)
          have hr : ((List.range (len + 1)).map fun i => (f i).1)[t / 2]? = some (f (t / 2)).1 := by
            rw [List.getElem?_map, List.getElem?_range (by omega)]; rfl
          rw [hr] at f1 f2
          obtain ⟨_, h6⟩ := hf (t / 2) (by omega)
          rcases (show t % 2 = 0 ∨ t % 2 = 1 by omega) with e | e
          · have e2 : t / 2 * 2 = t := by omega
            rw [e2] at f1
            rw [f1] at hu
            have h7 := h6 0 (by omega)
            rw [add_noneA hs, add_noneA rfl, e2] at h7
            rw [Nat.add_zero] at h7
            rw [h7, ← hu]; rfl
          · have e2 : t / 2 * 2 + 1 = t := by omega
            rw [e2] at f2
            rw [f2] at hu
            have h7 := h6 1 (by omega)
            rw [add_noneA hs, add_noneA rfl] at h7
            simp only [Nat.add_assoc, e2] at h7
            rw [h7, ← hu]; rfl
      · intro i q hq
        have hil := (List.getElem?_eq_some_iff.1 hq).1
        rw [hll] at hil
        rw [List.getElem?_map, List.getElem?_range hil] at hq
        obtain ⟨⟨h6, h7, _⟩, _⟩ := hf i hil
        obtain rfl := Option.some.inj hq
        exact ⟨(f i).1, by rw [List.getElem?_map, List.getElem?_range hil]; rfl, h6, h7⟩
    · intro u hu
      obtain ⟨i, hi2, rfl⟩ := List.mem_map.1 hu
      exact (hf i (List.mem_range.1 hi2)).1.2.2.1
    · intro u hu
      obtain ⟨i, hi2, rfl⟩ := List.mem_map.1 hu
      exact (hf i (List.mem_range.1 hi2)).1.2.2.2
end
end Go.Proofs.YtmmmdidbnjcooaaDoor
