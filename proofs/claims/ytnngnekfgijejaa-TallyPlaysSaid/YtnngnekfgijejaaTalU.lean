/-
  Votes as arguments.
-/
import Derived.Test.YtnngnekfgijejaaOpenT
import Derived.Test.YtnngnekfgijejaaTalR
import Derived.Deep.Slices
namespace Go.Proofs.Ytnngnekfgijejaa
open Go.ChangeShapes Go.WideShapes Go.ChangeAt Go.RowKit Go.Deep

section
variable {H : Type} {enc : TypeId × Value → H}

set_option maxRecDepth 100000 in
theorem trod_intV {w : World} {base : Nat} {spare : Nat → Bool} {held : Bool} {t : TypeId} {k : IntKind} {fuel : Nat} {c : Value} {x : DataW H × List MemPlace} (ht : Try.prog.underlying t = some (.int k)) (h : DataW.trod enc Try.prog w base spare held fuel t [c] = some x) :
    ∃ z, c = .int k z ∧ (Lit.int k z).wf = true := by
  cases fuel with
  | zero => simp [DataW.trod] at h
  | succ n =>
    unfold DataW.trod at h
    rw [ht] at h
    cases c <;> simp at h
    rename_i k' z
    obtain ⟨⟨rfl, h2⟩, _⟩ := h
    exact ⟨z, rfl, h2⟩
set_option maxRecDepth 100000 in
theorem trod_strV {w : World} {base : Nat} {spare : Nat → Bool} {held : Bool} {t : TypeId} {fuel : Nat} {c : Value} {x : DataW H × List MemPlace} (ht : Try.prog.underlying t = some .string) (h : DataW.trod enc Try.prog w base spare held fuel t [c] = some x) :
    ∃ s : ByteArray, c = .string s ∧ s.size ≤ maxLen := by
  cases fuel with
  | zero => simp [DataW.trod] at h
  | succ n =>
    unfold DataW.trod at h
    rw [ht] at h
    cases c <;> simp at h
    rename_i s
    exact ⟨s, rfl, h.1⟩
theorem u8_of {x : Int} (h : (Lit.int .u8 x).wf = true) : 0 ≤ x ∧ x < 256 := by
  simp [Lit.wf, IntKind.min, IntKind.max, IntKind.signed, IntKind.bits] at h
  omega

/-- five cells that read as a vote. -/
theorem vote_cells {w : World} {base : Nat} {spare : Nat → Bool} {held : Bool} {n : Nat} {c0 c1 c2 c3 c4 : Value} {y0 y1 y2 y3 y4 : DataW H × List MemPlace}
    (h0 : DataW.trod enc Try.prog w base spare held n 3 [c0] = some y0) (h1 : DataW.trod enc Try.prog w base spare held n 3 [c1] = some y1) (h2 : DataW.trod enc Try.prog w base spare held n 5 [c2] = some y2)
    (h3 : DataW.trod enc Try.prog w base spare held n 3 [c3] = some y3) (h4 : DataW.trod enc Try.prog w base spare held n 9 [c4] = some y4) : ∃ u : Vt, [c0, c1, c2, c3, c4] = vcl u ∧ u.Ok := by
  obtain ⟨z0, rfl, w0⟩ := trod_intV Try.underlying3 h0
  obtain ⟨z1, rfl, w1⟩ := trod_intV Try.underlying3 h1
  obtain ⟨z2, rfl, w2⟩ := trod_intV Try.underlying5 h2
  obtain ⟨z3, rfl, w3⟩ := trod_intV Try.underlying3 h3
  obtain ⟨s, rfl, w4⟩ := trod_strV Try.underlying9 h4
  exact ⟨⟨z0, z1, z2, z3, s⟩, rfl, i64_of w0, i64_of w1, u8_of w2, i64_of w3, by unfold maxLen at w4; omega⟩

set_option maxRecDepth 100000 in
/-- a vote, by value. -/
theorem vote_at {r : Reach} {b0 : Nat} {v : Value} {d : DataW H} {p : List MemPlace} {w : World} {base : Nat} {spare : Nat → Bool} {held : Bool} (hv : Value.okWide Try.prog w r b0 30 v) (h : DataW.Trod enc Try.prog w base spare held 30 v d p) :
    ∃ u : Vt, v = vval u ∧ u.Ok := by
  obtain ⟨cs, n, rfl, hlen, hf⟩ := fields_at Try.underlying30 (by kernel_rfl) (by kernel_rfl) hv h
  match cs, hlen with
  | [c0, c1, c2, c3, c4], _ =>
    obtain ⟨_, g0⟩ := hf 0 _ c0 rfl rfl
    obtain ⟨_, g1⟩ := hf 1 _ c1 rfl rfl
    obtain ⟨_, g2⟩ := hf 2 _ c2 rfl rfl
    obtain ⟨_, g3⟩ := hf 3 _ c3 rfl rfl
    obtain ⟨_, g4⟩ := hf 4 _ c4 rfl rfl
    obtain ⟨u, hu, ho⟩ := vote_cells g0 g1 g2 g3 g4
    refine ⟨u, ?_, ho⟩
    rw [hu]

theorem add_none {a : Addr} (h : a.spot = none) (j : Nat) : a.add j = ⟨a.block, a.off + j, none⟩ := by
  unfold Addr.add
  split
  · rename_i h3; subst h3; cases a; simp only at h; subst h; rfl
  · rfl

set_option maxRecDepth 100000 in
/-- a row of votes. -/
theorem votes_at {fuel : Nat} {v : Value} {x : DataW H × List MemPlace} {w : World} (h : DataW.trod enc Try.prog w 0 (fun _ => true) true fuel 22 [v] = some x) :
    ∃ (A : Option Addr) (l : List Vt) (c : Nat), v = .slice A l.length c ∧ CellsV w A l ∧ l.length ≤ 9223372036854775807 ∧ Oks l := by
  have hS := Try.underlying30
  have hC : Try.prog.cellsOf 30 = 5 := by kernel_rfl
  rcases open_slice Try.underlying22 h with ⟨h1, _⟩ | ⟨a, len, cap, m, n, D, Pl, h1, _, hl, hm, hmm, _, hi⟩
  · simp only [List.cons.injEq, and_true] at h1
    exact ⟨none, [], 0, h1, .inl rfl, by simp, fun u hu => by cases hu⟩
  · simp only [List.cons.injEq, and_true] at h1
    simp only [if_true] at hmm
    have key : ∀ i, ∃ u : Vt, i < len → u.Ok ∧ ∀ j, j < 5 → w.cell? ((a.add (i * 5)).add j) = (vcl u)[j]? := by
      intro i
      by_cases hil : i < len
      · obtain ⟨cs', hc, ht'⟩ := hi i (by omega)
        rw [hC] at hc
        obtain ⟨ys, n', _, _, hlen, _, hf⟩ := DataW.trod_struct hS ht'
        obtain ⟨_, hcl, hat⟩ := World.cells?_some hc
        match cs', hcl with
        | [c0, c1, c2, c3, c4], _ =>
          have o1 : oneCellFields Try.prog (Try.prog.fieldsOf 30) = true := by kernel_rfl
          simp only [Program.fieldsOf, hS] at o1
          obtain ⟨a0, b0⟩ := hone_of o1 0 _ rfl
          obtain ⟨a1, b1⟩ := hone_of o1 1 _ rfl
          obtain ⟨a2, b2⟩ := hone_of o1 2 _ rfl
          obtain ⟨a3, b3⟩ := hone_of o1 3 _ rfl
          obtain ⟨a4, b4⟩ := hone_of o1 4 _ rfl
          have g0 := hf 0 _ rfl
          have g1 := hf 1 _ rfl
          have g2 := hf 2 _ rfl
          have g3 := hf 3 _ rfl
          have g4 := hf 4 _ rfl
          rw [b0] at g0; rw [b1] at g1; rw [b2] at g2; rw [b3] at g3; rw [b4] at g4
          rename_i hys _
          match ys, hys with
          | [y0, y1, y2, y3, y4], _ =>
            obtain ⟨u, hu, ho⟩ := vote_cells (by simpa using g0) (by simpa using g1) (by simpa using g2) (by simpa using g3) (by simpa using g4)
            exact ⟨u, fun _ => ⟨ho, fun j hj => by rw [hat j hj, hu]⟩⟩
      · exact ⟨zeroVt, fun h => absurd h hil⟩
    obtain ⟨f, hf⟩ := Classical.axiomOfChoice key
    have hll : ((List.range len).map f).length = len := by simp
    refine ⟨some a, (List.range len).map f, cap, by rw [hll]; exact h1, ?_, by rw [hll]; unfold maxLen at hm; omega, ?_⟩
    · cases len with
      | zero => exact .inl rfl
      | succ len =>
        right
        obtain ⟨_, h5⟩ := hf 0 (by omega)
        have h0 := h5 0 (by omega)
        rw [Nat.zero_mul] at h0
        have ha0 : (a.add 0).add 0 = a := rfl
        rw [ha0] at h0
        have hs := spot_none (show w.cell? a = some (.int .i64 (f 0).fr) from h0)
        refine ⟨a.block, a.off, by cases a; simp only at hs; subst hs; rfl, fun t u hu => ?_⟩
        have ht := (List.getElem?_eq_some_iff.1 hu).1
        rw [flatV_len, hll] at ht
        rw [flatV_at _ t (by rw [hll]; exact ht)] at hu
        obtain ⟨_, h6⟩ := hf (t / 5) (by omega)
        have h7 := h6 (t % 5) (by omega)
        rw [add_none hs, add_none rfl] at h7
        have e1 : a.off + t / 5 * 5 + t % 5 = a.off + t := by omega
        simp only [e1] at h7
        rw [h7]
        have e2 : ((List.range (len + 1)).map f).toArray[t / 5]! = f (t / 5) := by
          have : t / 5 < len + 1 := by omega
          simp [this]
        rw [e2] at hu
        rw [← hu]
        have : t % 5 = 0 ∨ t % 5 = 1 ∨ t % 5 = 2 ∨ t % 5 = 3 ∨ t % 5 = 4 := by omega
        rcases this with e | e | e | e | e <;> rw [e] <;> rfl
    · intro u hu
      obtain ⟨i, hi2, rfl⟩ := List.mem_map.1 hu
      exact (hf i (List.mem_range.1 hi2)).1

theorem trodAll_six' {P : Program} {w : World} {base : Nat} {spare : Nat → Bool} {held : Bool} {t0 t1 t2 t3 t4 t5 : TypeId} {args : Array Value} {ds : List (DataW H)} {ps : List MemPlace} (h : DataW.TrodAll enc P w base spare held [t0, t1, t2, t3, t4, t5] args.toList ds ps) :
    ∃ v0 v1 v2 v3 v4 v5 d0 d1 d2 d3 d4 d5 p0 p1 p2 p3 p4 p5, args = #[v0, v1, v2, v3, v4, v5] ∧ ds = [d0, d1, d2, d3, d4, d5] ∧ ps = p0 ++ (p1 ++ (p2 ++ (p3 ++ (p4 ++ p5)))) ∧ DataW.Trod enc P w base spare held t0 v0 d0 p0 ∧ DataW.Trod enc P w base spare held t1 v1 d1 p1 ∧
      DataW.Trod enc P w base spare held t2 v2 d2 p2 ∧ DataW.Trod enc P w base spare held t3 v3 d3 p3 ∧ DataW.Trod enc P w base spare held t4 v4 d4 p4 ∧ DataW.Trod enc P w base spare held t5 v5 d5 p5 := by
  obtain ⟨l⟩ := args
  obtain ⟨v0, l0, d0, e0, p0, q0, rfl, rfl, rfl, h0, h⟩ := trodAll_more h
  obtain ⟨v1, l1, d1, e1, p1, q1, rfl, rfl, rfl, h1, h⟩ := trodAll_more h
  obtain ⟨v2, l2, d2, e2, p2, q2, rfl, rfl, rfl, h2, h⟩ := trodAll_more h
  obtain ⟨v3, l3, d3, e3, p3, q3, rfl, rfl, rfl, h3, h⟩ := trodAll_more h
  obtain ⟨v4, l4, d4, e4, p4, q4, rfl, rfl, rfl, h4, h⟩ := trodAll_more h
  obtain ⟨v5, l5, d5, e5, p5, q5, rfl, rfl, rfl, h5, h⟩ := trodAll_more h
  obtain ⟨rfl, rfl, rfl⟩ := trodAll_end h
  exact ⟨v0, v1, v2, v3, v4, v5, d0, d1, d2, d3, d4, d5, p0, p1, p2, p3, p4, p5, rfl, rfl, by rw [List.append_nil], h0, h1, h2, h3, h4, h5⟩

set_option maxRecDepth 100000 in
/-- a value of one cell. -/
theorem one_ofV {w : World} {base : Nat} {spare : Nat → Bool} {held : Bool} {t : TypeId} {v : Value} {d : DataW H} {p : List MemPlace} {r : Reach} {b0 : Nat} {e : TypeId} (ht : Try.prog.underlying t = some (.slice e)) (hv : Value.okWide Try.prog w r b0 t v) (h : DataW.Trod enc Try.prog w base spare held t v d p) :
    ∃ fuel, DataW.trod enc Try.prog w base spare held fuel t [v] = some (d, p) := by
  obtain ⟨fuel, hf⟩ := h
  obtain ⟨a, n, c, rfl⟩ := okWide_slice ht hv
  exact ⟨fuel, hf⟩
end
end Go.Proofs.Ytnngnekfgijejaa
