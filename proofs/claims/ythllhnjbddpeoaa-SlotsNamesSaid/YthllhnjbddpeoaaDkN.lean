/-
  Steps as arguments.
-/
import Derived.Test.YthllhnjbddpeoaaOpenT
import Derived.Test.YthllhnjbddpeoaaDkM
import Derived.Deep.Slices
import Derived.SizedLaws
namespace Go.Proofs.Ythllhnjbddpeoaa
open Go.ChangeShapes Go.WideShapes Go.ChangeAt Go.RowKit Go.Deep

/-- a step. -/
structure St where
  kd : Int
  at_ : Int
  s : ByteArray
  n : Int
  ka : Option Addr
  ks : List Bool
  kc : Nat
abbrev scl (u : St) : List Value := [.int .u8 u.kd, .int .i64 u.at_, .string u.s, .int .i64 u.n, .slice u.ka u.ks.length u.kc]
structure St.Ok (w : World) (u : St) : Prop where
  kd : 0 ≤ u.kd ∧ u.kd < 256
  at_ : I64 u.at_
  s : u.s.size ≤ 140737488355327
  n : I64 u.n
  ks : Cells w u.ka (u.ks.map Value.bool)
  kl : u.ks.length ≤ 140737488355327
def zeroSt : St := ⟨0, 0, ⟨#[]⟩, 0, none, [], 0⟩
theorem flatS_len (xs : List St) : (xs.flatMap scl).length = xs.length * 5 := by
  induction xs with
  | nil => rfl
  | cons x l ih => rw [List.flatMap_cons, List.length_append, ih]; simp; omega
instance : Inhabited St := ⟨zeroSt⟩
theorem flatS_at : ∀ (xs : List St) (t : Nat), t < xs.length * 5 → (xs.flatMap scl)[t]? = some ((scl xs.toArray[t / 5]!)[t % 5]!)
  | [], t, h => by simp at h
  | x :: l, t, h => by
    rw [List.flatMap_cons]
    by_cases h5 : t < 5
    · rw [List.getElem?_append_left h5]
      have e1 : t / 5 = 0 := by omega
      have e2 : t % 5 = t := by omega
      rw [e1, e2]
      have : t = 0 ∨ t = 1 ∨ t = 2 ∨ t = 3 ∨ t = 4 := by omega
      rcases this with rfl | rfl | rfl | rfl | rfl <;> rfl
    · rw [List.getElem?_append_right (by show 5 ≤ t; omega), show t - (scl x).length = t - 5 from rfl, flatS_at l (t - 5) (by simp at h; omega)]
      have e1 : t / 5 = (t - 5) / 5 + 1 := by omega
      have e2 : t % 5 = (t - 5) % 5 := by omega
      rw [e1, e2]
      have hl : (t - 5) / 5 < l.length := by simp at h; omega
      simp [hl]
/-- the slice at A reads as these steps. -/
def CellsS (w : World) (A : Option Addr) (L : List St) : Prop := Cells w A (L.flatMap scl)
theorem CellsS.below {w w' : World} {A : Option Addr} {L : List St} (h : CellsS w A L) (hb : Below w.heap.size w w') : CellsS w' A L := Cells.below h hb
theorem flatS_get {L : List St} {i : Nat} {v : St} (h : L[i]? = some v) (j : Nat) (hj : j < 5) : (L.flatMap scl)[i * 5 + j]? = some ((scl v)[j]!) := by
  obtain ⟨hi, e⟩ := List.getElem?_eq_some_iff.1 h
  rw [flatS_at L _ (by omega)]
  have e1 : (i * 5 + j) / 5 = i := by omega
  have e2 : (i * 5 + j) % 5 = j := by omega
  rw [e1, e2]
  simp [hi, e]
theorem CellsS.at_ {w : World} {A : Option Addr} {L : List St} (h : CellsS w A L) {i : Nat} {v : St} (hv : L[i]? = some v) :
    ∃ b off, A = some ⟨b, off, none⟩ ∧ w.cell? ⟨b, off + i * 5, none⟩ = some (.int .u8 v.kd) ∧ w.cell? ⟨b, off + i * 5 + 1, none⟩ = some (.int .i64 v.at_) ∧ w.cell? ⟨b, off + i * 5 + 2, none⟩ = some (.string v.s) ∧ w.cell? ⟨b, off + i * 5 + 3, none⟩ = some (.int .i64 v.n) ∧ w.cell? ⟨b, off + i * 5 + 4, none⟩ = some (.slice v.ka v.ks.length v.kc) := by
  rcases h with h | ⟨b, off, rfl, h⟩
  · have := flatS_get hv 0 (by omega)
    rw [h] at this; simp at this
  · have h0 := h _ _ (flatS_get hv 0 (by omega))
    have h1 := h _ _ (flatS_get hv 1 (by omega))
    have h2 := h _ _ (flatS_get hv 2 (by omega))
    have h3 := h _ _ (flatS_get hv 3 (by omega))
    have h4 := h _ _ (flatS_get hv 4 (by omega))
    simp only [← Nat.add_assoc, Nat.add_zero] at h0 h1 h2 h3 h4
    exact ⟨b, off, rfl, h0, h1, h2, h3, h4⟩

section
variable {H : Type} {enc : TypeId × Value → H}

set_option maxRecDepth 100000 in
theorem trod_intV {w : World} {base : Nat} {spare : Nat → Bool} {held : Bool} {t : TypeId} {k : IntKind} {fuel : Nat} {c : Value} {x : DataW H × List MemPlace} (ht : Try.prog.underlying t = some (.int k)) (h : DataW.trod enc Try.prog w base spare held fuel t [c] = some x) :
    ∃ z, c = .int k z ∧ (Lit.int k z).wf = true := by
  cases fuel with
  | zero => simp [DataW.trod] at h
  | succ n =>
    unfold DataW.trod at h
    rw [ht] at h
    cases c <;> simp at h
    rename_i k' z
    obtain ⟨⟨rfl, h2⟩, _⟩ := h
    exact ⟨z, rfl, h2⟩
set_option maxRecDepth 100000 in
theorem trod_strV {w : World} {base : Nat} {spare : Nat → Bool} {held : Bool} {t : TypeId} {fuel : Nat} {c : Value} {x : DataW H × List MemPlace} (ht : Try.prog.underlying t = some .string) (h : DataW.trod enc Try.prog w base spare held fuel t [c] = some x) :
    ∃ s : ByteArray, c = .string s ∧ s.size ≤ maxLen ∧ ∃ bs : List UInt8, x.1 = .lit (.string bs) ∧ bs.length = s.size := by
  cases fuel with
  | zero => simp [DataW.trod] at h
  | succ n =>
    unfold DataW.trod at h
    rw [ht] at h
    cases c <;> simp at h
    rename_i s
    exact ⟨s, rfl, h.1, s.data.toList, by rw [← h.2], by rw [Array.length_toList]; rfl⟩
set_option maxRecDepth 100000 in
theorem trod_boolV {w : World} {base : Nat} {spare : Nat → Bool} {held : Bool} {t : TypeId} {fuel : Nat} {c : Value} {x : DataW H × List MemPlace} (ht : Try.prog.underlying t = some .bool) (h : DataW.trod enc Try.prog w base spare held fuel t [c] = some x) :
    ∃ b : Bool, c = .bool b := by
  cases fuel with
  | zero => simp [DataW.trod] at h
  | succ n =>
    unfold DataW.trod at h
    rw [ht] at h
    cases c <;> simp at h
    rename_i b
    exact ⟨b, rfl⟩
theorem u8_of {x : Int} (h : (Lit.int .u8 x).wf = true) : 0 ≤ x ∧ x < 256 := by
  simp [Lit.wf, IntKind.min, IntKind.max, IntKind.signed, IntKind.bits] at h
  omega
theorem add_none {a : Addr} (h : a.spot = none) (j : Nat) : a.add j = ⟨a.block, a.off + j, none⟩ := by
  unfold Addr.add
  split
  · rename_i h3; subst h3; cases a; simp only at h; subst h; rfl
  · rfl

set_option maxRecDepth 100000 in
/-- a row of yes or no. -/
theorem bools_at {fuel : Nat} {v : Value} {x : DataW H × List MemPlace} {w : World} (h : DataW.trod enc Try.prog w 0 (fun _ => true) true fuel 33 [v] = some x) (hw : ∀ n ∈ x.1.weights Try.prog 33, n ≤ reachBytes) :
    ∃ (A : Option Addr) (l : List Bool) (c : Nat), v = .slice A l.length c ∧ Cells w A (l.map Value.bool) ∧ l.length ≤ 140737488355327 := by
  have hby : Try.prog.bytesOf 4 = 1 := by kernel_rfl
  have hC : Try.prog.cellsOf 4 = 1 := by kernel_rfl
  rcases open_slice Try.underlying33 h with ⟨h1, _⟩ | ⟨a, len, cap, m, n, D, Pl, h1, _, hl, hm, hmm, hx, hi⟩
  · simp only [List.cons.injEq, and_true] at h1
    exact ⟨none, [], 0, h1, .inl rfl, by simp⟩
  · simp only [List.cons.injEq, and_true] at h1
    simp only [if_true] at hmm
    have hlen : len ≤ reachBytes := by
      rw [hx] at hw
      have := hw ((((List.range len).map D).length + ((List.range (m - len)).map fun j => D (len + j)).length) * Try.prog.bytesOf 4) (by simp [DataW.weights, Try.underlying33])
      rw [hby] at this
      simp only [List.length_map, List.length_range] at this
      omega
    have hrb : reachBytes ≤ 140737488355327 := by decide
    have key : ∀ i, ∃ u : Bool, i < len → w.cell? (a.add i) = some (.bool u) := by
      intro i
      by_cases hil : i < len
      · obtain ⟨cs', hc, ht'⟩ := hi i (by omega)
        rw [hC] at hc
        obtain ⟨_, hcl, hat⟩ := World.cells?_some hc
        match cs', hcl with
        | [c0], _ =>
          obtain ⟨b, rfl⟩ := trod_boolV Try.underlying4 ht'
          have h2 := hat 0 (by omega)
          rw [Nat.mul_one] at h2
          exact ⟨b, fun _ => h2⟩
      · exact ⟨false, fun h => absurd h hil⟩
    obtain ⟨f, hf⟩ := Classical.axiomOfChoice key
    have hll : ((List.range len).map f).length = len := by simp
    refine ⟨some a, (List.range len).map f, cap, by rw [hll]; exact h1, ?_, by rw [hll]; omega⟩
    clear hlen hx
    cases len with
    | zero => exact .inl rfl
    | succ len =>
      right
      have h0 := hf 0 (by omega)
      have ha0 : a.add 0 = a := rfl
      rw [ha0] at h0
      have hs := spot_none h0
      refine ⟨a.block, a.off, by cases a; simp only at hs; subst hs; rfl, fun t u hu => ?_⟩
      have ht := (List.getElem?_eq_some_iff.1 hu).1
      simp only [List.length_map, List.length_range] at ht
      have h7 := hf t (by omega)
      rw [add_none hs] at h7
      rw [h7, ← hu]
      simp [ht]

theorem five_of {α : Type} {l : List α} (h : l.length = 5) : ∃ a b c d e, l = [a, b, c, d, e] := by
  match l, h with
  | [a, b, c, d, e], _ => exact ⟨a, b, c, d, e, rfl⟩
/-- five cells that read as a step. -/
theorem step_cells {w : World} {n : Nat} {c0 c1 c2 c3 c4 : Value} {y0 y1 y2 y3 y4 : DataW H × List MemPlace}
    (h0 : DataW.trod enc Try.prog w 0 (fun _ => true) true n 5 [c0] = some y0) (h1 : DataW.trod enc Try.prog w 0 (fun _ => true) true n 3 [c1] = some y1) (h2 : DataW.trod enc Try.prog w 0 (fun _ => true) true n 9 [c2] = some y2)
    (h3 : DataW.trod enc Try.prog w 0 (fun _ => true) true n 3 [c3] = some y3) (h4 : DataW.trod enc Try.prog w 0 (fun _ => true) true n 33 [c4] = some y4)
    (hw2 : ∀ n ∈ y2.1.weights Try.prog 9, n ≤ reachBytes) (hw4 : ∀ n ∈ y4.1.weights Try.prog 33, n ≤ reachBytes) : ∃ u : St, [c0, c1, c2, c3, c4] = scl u ∧ u.Ok w := by
  obtain ⟨z0, rfl, w0⟩ := trod_intV Try.underlying5 h0
  obtain ⟨z1, rfl, w1⟩ := trod_intV Try.underlying3 h1
  obtain ⟨s, rfl, w2, bs, e1, e2⟩ := trod_strV Try.underlying9 h2
  have hrb : reachBytes ≤ 140737488355327 := by decide
  have hs := hw2 s.size (by rw [e1]; simp [DataW.weights, e2])
  obtain ⟨z3, rfl, w3⟩ := trod_intV Try.underlying3 h3
  obtain ⟨A, ks, c, rfl, w4, w5⟩ := bools_at h4 hw4
  exact ⟨⟨z0, z1, s, z3, A, ks, c⟩, rfl, u8_of w0, i64_of w1, by show s.size ≤ _; omega, i64_of w3, w4, w5⟩

theorem wAll_mem {P : Program} {e : TypeId} : ∀ {l : List (DataW H)} {d : DataW H}, d ∈ l → ∀ n ∈ d.weights P e, n ∈ DataW.weightsAll P e l
  | [], _, h, _, _ => by cases h
  | d0 :: l, d, h, n, hn => by
    simp only [DataW.weightsAll, List.mem_append]
    rcases List.mem_cons.1 h with rfl | h
    · exact .inl hn
    · exact .inr (wAll_mem h n hn)
set_option maxRecDepth 100000 in
/-- a row of steps. -/
theorem steps_at {fuel : Nat} {v : Value} {x : DataW H × List MemPlace} {w : World} (h : DataW.trod enc Try.prog w 0 (fun _ => true) true fuel 22 [v] = some x) (hw : ∀ n ∈ x.1.weights Try.prog 22, n ≤ reachBytes) :
    ∃ (A : Option Addr) (l : List St) (c : Nat), v = .slice A l.length c ∧ CellsS w A l ∧ l.length ≤ 9223372036854775807 ∧ ∀ u ∈ l, u.Ok w := by
  have hS := Try.underlying35
  have hC : Try.prog.cellsOf 35 = 5 := by kernel_rfl
  rcases open_slice Try.underlying22 h with ⟨h1, _⟩ | ⟨a, len, cap, m, n, D, Pl, h1, _, hl, hm, hmm, hx, hi⟩
  · simp only [List.cons.injEq, and_true] at h1
    exact ⟨none, [], 0, h1, .inl rfl, by simp, fun u hu => by cases hu⟩
  · simp only [List.cons.injEq, and_true] at h1
    simp only [if_true] at hmm
    have key : ∀ i, ∃ u : St, i < len → u.Ok w ∧ ∀ j, j < 5 → w.cell? ((a.add (i * 5)).add j) = (scl u)[j]? := by
      intro i
      by_cases hil : i < len
      · obtain ⟨cs', hc, ht'⟩ := hi i (by omega)
        rw [hC] at hc
        obtain ⟨ys, n', _, hD, hlen, hys, hf⟩ := DataW.trod_struct hS ht'
        have hDi : D i = .agg (ys.map (·.1)) := congrArg Prod.fst hD
        have hwD : ∀ n ∈ (D i).weights Try.prog 35, n ≤ reachBytes := fun n hn => by
          refine hw n ?_
          rw [hx]
          simp only [DataW.weights, Try.underlying22]
          exact List.mem_cons_of_mem _ (List.mem_append_left _ (wAll_mem (List.mem_map.2 ⟨i, List.mem_range.2 hil, rfl⟩) n hn))
        obtain ⟨_, hcl, hat⟩ := World.cells?_some hc
        match cs', hcl with
        | [c0, c1, c2, c3, c4], _ =>
          have o1 : oneCellFields Try.prog (Try.prog.fieldsOf 35) = true := by kernel_rfl
          simp only [Program.fieldsOf, hS] at o1
          obtain ⟨a0, b0⟩ := hone_of o1 0 _ rfl
          obtain ⟨a1, b1⟩ := hone_of o1 1 _ rfl
          obtain ⟨a2, b2⟩ := hone_of o1 2 _ rfl
          obtain ⟨a3, b3⟩ := hone_of o1 3 _ rfl
          obtain ⟨a4, b4⟩ := hone_of o1 4 _ rfl
          have g0 := hf 0 _ rfl
          have g1 := hf 1 _ rfl
          have g2 := hf 2 _ rfl
          have g3 := hf 3 _ rfl
          have g4 := hf 4 _ rfl
          rw [b0] at g0; rw [b1] at g1; rw [b2] at g2; rw [b3] at g3; rw [b4] at g4
          obtain ⟨y0, y1, y2, y3, y4, rfl⟩ := five_of (show ys.length = 5 from hys)
          obtain ⟨u, hu, ho⟩ := step_cells (by simpa using g0) (by simpa using g1) (by simpa using g2) (by simpa using g3) (by simpa using g4) (fun n hn => hwD n (by rw [hDi]; simp only [DataW.weights, hS]; exact DataW.weights_mem_each (j := 2) rfl rfl n hn)) (fun n hn => hwD n (by rw [hDi]; simp only [DataW.weights, hS]; exact DataW.weights_mem_each (j := 4) rfl rfl n hn))
          exact ⟨u, fun _ => ⟨ho, fun j hj => by rw [hat j hj, hu]⟩⟩
      · exact ⟨zeroSt, fun h => absurd h hil⟩
    obtain ⟨f, hf⟩ := Classical.axiomOfChoice key
    have hll : ((List.range len).map f).length = len := by simp
    refine ⟨some a, (List.range len).map f, cap, by rw [hll]; exact h1, ?_, by rw [hll]; unfold maxLen at hm; omega, ?_⟩
    · cases len with
      | zero => exact .inl rfl
      | succ len =>
        right
        obtain ⟨_, h5⟩ := hf 0 (by omega)
        have h0 := h5 0 (by omega)
        rw [Nat.zero_mul] at h0
        have ha0 : (a.add 0).add 0 = a := rfl
        rw [ha0] at h0
        have hs := spot_none (show w.cell? a = some (.int .u8 (f 0).kd) from h0)
        refine ⟨a.block, a.off, by cases a; simp only at hs; subst hs; rfl, fun t u hu => ?_⟩
        have ht := (List.getElem?_eq_some_iff.1 hu).1
        rw [flatS_len, hll] at ht
        rw [flatS_at _ t (by rw [hll]; exact ht)] at hu
        obtain ⟨_, h6⟩ := hf (t / 5) (by omega)
        have h7 := h6 (t % 5) (by omega)
        rw [add_none hs, add_none rfl] at h7
        have e1 : a.off + t / 5 * 5 + t % 5 = a.off + t := by omega
        simp only [e1] at h7
        rw [h7]
        have e2 : ((List.range (len + 1)).map f).toArray[t / 5]! = f (t / 5) := by
          have : t / 5 < len + 1 := by omega
          simp [this]
        rw [e2] at hu
        rw [← hu]
        have : t % 5 = 0 ∨ t % 5 = 1 ∨ t % 5 = 2 ∨ t % 5 = 3 ∨ t % 5 = 4 := by omega
        rcases this with e | e | e | e | e <;> rw [e] <;> rfl
    · intro u hu
      obtain ⟨i, hi2, rfl⟩ := List.mem_map.1 hu
      exact (hf i (List.mem_range.1 hi2)).1

set_option maxRecDepth 100000 in
/-- a value of one cell. -/
theorem one_ofV {w : World} {base : Nat} {spare : Nat → Bool} {held : Bool} {t : TypeId} {v : Value} {d : DataW H} {p : List MemPlace} {r : Reach} {b0 : Nat} {e : TypeId} (ht : Try.prog.underlying t = some (.slice e)) (hv : Value.okWide Try.prog w r b0 t v) (h : DataW.Trod enc Try.prog w base spare held t v d p) :
    ∃ fuel, DataW.trod enc Try.prog w base spare held fuel t [v] = some (d, p) := by
  obtain ⟨fuel, hf⟩ := h
  obtain ⟨a, n, c, rfl⟩ := okWide_slice ht hv
  exact ⟨fuel, hf⟩
end
end Go.Proofs.Ythllhnjbddpeoaa
