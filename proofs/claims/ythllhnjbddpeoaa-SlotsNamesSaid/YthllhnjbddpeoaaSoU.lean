/-
  Turns as arguments; are they too many?
-/
import Derived.Test.YthllhnjbddpeoaaSoB
namespace Go.Proofs.Ythllhnjbddpeoaa
open Go Go.ChangeShapes Go.WideShapes Go.ChangeAt Go.RowKit Go.Maps Go.Shelf Go.Proofs Go.Deep

structure Tu where
  s : ByteArray
  tw : Bool
  fu : Int
  cr : Bool
  ksA : Option Addr
  ks : List Bool
  ksC : Nat
  at_ : Int
abbrev tuc (u : Tu) : List Value := [.string u.s, .bool u.tw, .int .i64 u.fu, .bool u.cr, .slice u.ksA u.ks.length u.ksC, .int .i64 u.at_]
structure Tu.Ok (w : World) (u : Tu) : Prop where
  s : u.s.size ≤ 140737488355327
  fu : I64 u.fu
  ks : Cells w u.ksA (u.ks.map Value.bool)
  ksL : u.ks.length ≤ 140737488355327
  at_ : I64 u.at_
theorem Tu.Ok.below {w w' : World} {u : Tu} (h : u.Ok w) (hb : Below w.heap.size w w') : u.Ok w' := ⟨h.s, h.fu, h.ks.below hb, h.ksL, h.at_⟩
def zeroTu : Tu := ⟨⟨#[]⟩, false, 0, false, none, [], 0, 0⟩
instance : Inhabited Tu := ⟨zeroTu⟩
theorem flatU_len (xs : List Tu) : (xs.flatMap tuc).length = xs.length * 6 := by
  induction xs with
  | nil => rfl
  | cons x l ih => rw [List.flatMap_cons, List.length_append, ih]; simp; omega
theorem flatU_at : ∀ (xs : List Tu) (t : Nat), t < xs.length * 6 → (xs.flatMap tuc)[t]? = some ((tuc xs.toArray[t / 6]!)[t % 6]!)
  | [], t, h => by simp at h
  | x :: l, t, h => by
    rw [List.flatMap_cons]
    by_cases h5 : t < 6
    · rw [List.getElem?_append_left h5]
      have e1 : t / 6 = 0 := by omega
      have e2 : t % 6 = t := by omega
      rw [e1, e2]
      have : t = 0 ∨ t = 1 ∨ t = 2 ∨ t = 3 ∨ t = 4 ∨ t = 5 := by omega
      rcases this with rfl | rfl | rfl | rfl | rfl | rfl <;> rfl
    · rw [List.getElem?_append_right (by show 6 ≤ t; omega), show t - (tuc x).length = t - 6 from rfl, flatU_at l (t - 6) (by simp at h; omega)]
      have e1 : t / 6 = (t - 6) / 6 + 1 := by omega
      have e2 : t % 6 = (t - 6) % 6 := by omega
      rw [e1, e2]
      have hl : (t - 6) / 6 < l.length := by simp at h; omega
      simp [hl]
def CellsU (w : World) (A : Option Addr) (L : List Tu) : Prop := Cells w A (L.flatMap tuc)
theorem CellsU.below {w w' : World} {A : Option Addr} {L : List Tu} (h : CellsU w A L) (hb : Below w.heap.size w w') : CellsU w' A L := Cells.below h hb
theorem flatU_get {L : List Tu} {i : Nat} {v : Tu} (h : L[i]? = some v) (j : Nat) (hj : j < 6) : (L.flatMap tuc)[i * 6 + j]? = some ((tuc v)[j]!) := by
  obtain ⟨hi, e⟩ := List.getElem?_eq_some_iff.1 h
  rw [flatU_at L _ (by omega)]
  have e1 : (i * 6 + j) / 6 = i := by omega
  have e2 : (i * 6 + j) % 6 = j := by omega
  rw [e1, e2]
  simp [hi, e]
theorem CellsU.at_ {w : World} {A : Option Addr} {L : List Tu} (h : CellsU w A L) {i : Nat} {v : Tu} (hv : L[i]? = some v) :
    ∃ b off, A = some ⟨b, off, none⟩ ∧ w.cell? ⟨b, off + i * 6, none⟩ = some (.string v.s) ∧ w.cell? ⟨b, off + i * 6 + 1, none⟩ = some (.bool v.tw) ∧ w.cell? ⟨b, off + i * 6 + 2, none⟩ = some (.int .i64 v.fu) ∧ w.cell? ⟨b, off + i * 6 + 3, none⟩ = some (.bool v.cr) ∧ w.cell? ⟨b, off + i * 6 + 4, none⟩ = some (.slice v.ksA v.ks.length v.ksC) ∧ w.cell? ⟨b, off + i * 6 + 5, none⟩ = some (.int .i64 v.at_) := by
  rcases h with h | ⟨b, off, rfl, h⟩
  · have := flatU_get hv 0 (by omega)
    rw [h] at this; simp at this
  · have h0 := h _ _ (flatU_get hv 0 (by omega))
    have h1 := h _ _ (flatU_get hv 1 (by omega))
    have h2 := h _ _ (flatU_get hv 2 (by omega))
    have h3 := h _ _ (flatU_get hv 3 (by omega))
    have h4 := h _ _ (flatU_get hv 4 (by omega))
    have h5 := h _ _ (flatU_get hv 5 (by omega))
    simp only [← Nat.add_assoc, Nat.add_zero] at h0 h1 h2 h3 h4 h5
    exact ⟨b, off, rfl, h0, h1, h2, h3, h4, h5⟩

section
variable {H : Type} {enc : TypeId × Value → H}
theorem partsU_of {α : Type} {l : List α} (h : l.length = 6) : ∃ a0 a1 a2 a3 a4 a5, l = [a0, a1, a2, a3, a4, a5] := by
  match l, h with
  | [a0, a1, a2, a3, a4, a5], _ => exact ⟨a0, a1, a2, a3, a4, a5, rfl⟩
theorem oneU_cells {w : World} {n : Nat} {c0 c1 c2 c3 c4 c5 : Value} {y0 y1 y2 y3 y4 y5 : DataW H × List MemPlace}
    (h0 : DataW.trod enc Try.prog w 0 (fun _ => true) true n 9 [c0] = some y0) (h1 : DataW.trod enc Try.prog w 0 (fun _ => true) true n 4 [c1] = some y1) (h2 : DataW.trod enc Try.prog w 0 (fun _ => true) true n 3 [c2] = some y2) (h3 : DataW.trod enc Try.prog w 0 (fun _ => true) true n 4 [c3] = some y3) (h4 : DataW.trod enc Try.prog w 0 (fun _ => true) true n 33 [c4] = some y4) (h5 : DataW.trod enc Try.prog w 0 (fun _ => true) true n 3 [c5] = some y5)
    (hw0 : ∀ n ∈ y0.1.weights Try.prog 9, n ≤ reachBytes) (hw4 : ∀ n ∈ y4.1.weights Try.prog 33, n ≤ reachBytes) : ∃ u : Tu, [c0, c1, c2, c3, c4, c5] = tuc u ∧ u.Ok w := by
  have hrb : reachBytes ≤ 140737488355327 := by decide
  obtain ⟨z0, rfl, w0, bs0, e0, f0⟩ := trod_strV Try.underlying9 h0
  have hs0 := hw0 z0.size (by rw [e0]; simp [DataW.weights, f0])
  obtain ⟨z1, rfl⟩ := trod_boolV Try.underlying4 h1
  obtain ⟨z2, rfl, w2⟩ := trod_intV Try.underlying3 h2
  obtain ⟨z3, rfl⟩ := trod_boolV Try.underlying4 h3
  obtain ⟨A4, ks4, k4, rfl, w4, x4⟩ := bools_at h4 hw4
  obtain ⟨z5, rfl, w5⟩ := trod_intV Try.underlying3 h5
  exact ⟨⟨z0, z1, z2, z3, A4, ks4, k4, z5⟩, rfl, by show z0.size ≤ _; omega, i64_of w2, w4, x4, i64_of w5⟩
set_option maxRecDepth 100000 in
theorem turns_at {fuel : Nat} {v : Value} {x : DataW H × List MemPlace} {w : World} (h : DataW.trod enc Try.prog w 0 (fun _ => true) true fuel 66 [v] = some x) (hw : ∀ n ∈ x.1.weights Try.prog 66, n ≤ reachBytes) :
    ∃ (A : Option Addr) (l : List Tu) (c : Nat), v = .slice A l.length c ∧ CellsU w A l ∧ l.length ≤ 9223372036854775807 ∧ ∀ u ∈ l, u.Ok w := by
  have hS := Try.underlying69
  have hC : Try.prog.cellsOf 69 = 6 := by kernel_rfl
  rcases open_slice Try.underlying66 h with ⟨h1, _⟩ | ⟨a, len, cap, m, n, D, Pl, h1, _, hl, hm, hmm, hx, hi⟩
  · simp only [List.cons.injEq, and_true] at h1
    exact ⟨none, [], 0, h1, .inl rfl, by simp, fun u hu => by cases hu⟩
  · simp only [List.cons.injEq, and_true] at h1
    simp only [if_true] at hmm
    have key : ∀ i, ∃ u : Tu, i < len → u.Ok w ∧ ∀ j, j < 6 → w.cell? ((a.add (i * 6)).add j) = (tuc u)[j]? := by
      intro i
      by_cases hil : i < len
      · obtain ⟨cs', hc, ht'⟩ := hi i (by omega)
        rw [hC] at hc
        obtain ⟨ys, n', _, hD, hlen, hys, hf⟩ := DataW.trod_struct hS ht'
        have hDi : D i = .agg (ys.map (·.1)) := congrArg Prod.fst hD
        have hwD : ∀ n ∈ (D i).weights Try.prog 69, n ≤ reachBytes := fun n hn => by
          refine hw n ?_
          rw [hx]
          simp only [DataW.weights, Try.underlying66]
          exact List.mem_cons_of_mem _ (List.mem_append_left _ (wAll_mem (List.mem_map.2 ⟨i, List.mem_range.2 hil, rfl⟩) n hn))
        obtain ⟨_, hcl, hat⟩ := World.cells?_some hc
        match cs', hcl with
        | [c0, c1, c2, c3, c4, c5], _ =>
          have o1 : oneCellFields Try.prog (Try.prog.fieldsOf 69) = true := by kernel_rfl
          simp only [Program.fieldsOf, hS] at o1
          obtain ⟨a0, b0⟩ := hone_of o1 0 _ rfl
          obtain ⟨a1, b1⟩ := hone_of o1 1 _ rfl
          obtain ⟨a2, b2⟩ := hone_of o1 2 _ rfl
          obtain ⟨a3, b3⟩ := hone_of o1 3 _ rfl
          obtain ⟨a4, b4⟩ := hone_of o1 4 _ rfl
          obtain ⟨a5, b5⟩ := hone_of o1 5 _ rfl
          have g0 := hf 0 _ rfl
          have g1 := hf 1 _ rfl
          have g2 := hf 2 _ rfl
          have g3 := hf 3 _ rfl
          have g4 := hf 4 _ rfl
          have g5 := hf 5 _ rfl
          rw [b0] at g0; rw [b1] at g1; rw [b2] at g2; rw [b3] at g3; rw [b4] at g4; rw [b5] at g5
          obtain ⟨y0, y1, y2, y3, y4, y5, rfl⟩ := partsU_of (show ys.length = 6 from hys)
          obtain ⟨u, hu, ho⟩ := oneU_cells (by simpa using g0) (by simpa using g1) (by simpa using g2) (by simpa using g3) (by simpa using g4) (by simpa using g5) (fun n hn => hwD n (by rw [hDi]; simp only [DataW.weights, hS]; exact DataW.weights_mem_each (j := 0) rfl rfl n hn)) (fun n hn => hwD n (by rw [hDi]; simp only [DataW.weights, hS]; exact DataW.weights_mem_each (j := 4) rfl rfl n hn))
          exact ⟨u, fun _ => ⟨ho, fun j hj => by rw [hat j hj, hu]⟩⟩
      · exact ⟨zeroTu, fun h => absurd h hil⟩
    obtain ⟨f, hf⟩ := Classical.axiomOfChoice key
    have hll : ((List.range len).map f).length = len := by simp
    refine ⟨some a, (List.range len).map f, cap, by rw [hll]; exact h1, ?_, by rw [hll]; unfold maxLen at hm; omega, ?_⟩
    · cases len with
      | zero => exact .inl rfl
      | succ len =>
        right
        obtain ⟨_, h5⟩ := hf 0 (by omega)
        have h0 := h5 0 (by omega)
        rw [Nat.zero_mul] at h0
        have ha0 : (a.add 0).add 0 = a := rfl
        rw [ha0] at h0
        have hs := spot_none (show w.cell? a = some (.string (f 0).s) from h0)
        refine ⟨a.block, a.off, by cases a; simp only at hs; subst hs; rfl, fun t u hu => ?_⟩
        have ht := (List.getElem?_eq_some_iff.1 hu).1
        rw [flatU_len, hll] at ht
        rw [flatU_at _ t (by rw [hll]; exact ht)] at hu
        obtain ⟨_, h6⟩ := hf (t / 6) (by omega)
        have h7 := h6 (t % 6) (by omega)
        rw [add_none hs, add_none rfl] at h7
        have e1 : a.off + t / 6 * 6 + t % 6 = a.off + t := by omega
        simp only [e1] at h7
        rw [h7]
        have e2 : ((List.range (len + 1)).map f).toArray[t / 6]! = f (t / 6) := by
          have : t / 6 < len + 1 := by omega
          simp [this]
        rw [e2] at hu
        rw [← hu]
        have : t % 6 = 0 ∨ t % 6 = 1 ∨ t % 6 = 2 ∨ t % 6 = 3 ∨ t % 6 = 4 ∨ t % 6 = 5 := by omega
        rcases this with e | e | e | e | e | e <;> rw [e] <;> rfl
    · intro u hu
      obtain ⟨i, hi2, rfl⟩ := List.mem_map.1 hu
      exact (hf i (List.mem_range.1 hi2)).1
end
/-- too many? If not they are few, and their texts short. -/
def FewU (l : List Tu) (e : Ending) : Prop := ∃ b : Bool, e = .returned (.bool b) ∧ (b = false → l.length < 60 ∧ ∀ u ∈ l, u.s.size < 30000)
theorem mem_snocU {α : Type} {P : α → Prop} {l : List α} {k : Nat} {x : α} (hx : l[k]? = some x) (h : ∀ u ∈ l.take k, P u) (h2 : P x) : ∀ u ∈ l.take (k + 1), P u := by
  intro u hu
  rw [take_snoc hx, List.mem_append, List.mem_singleton] at hu
  rcases hu with hu | rfl
  · exact h u hu
  · exact h2
set_option maxRecDepth 1000000 in
set_option maxHeartbeats 1000000 in
theorem manyU_c (A : Option Addr) (l : List Tu) (c : Nat) (w : World) (hA : CellsU w A l) (hl : l.length ≤ 9223372036854775807) (ho : ∀ u ∈ l, u.s.size ≤ 140737488355327 ∧ u.ks.length ≤ 140737488355327) :
    Calls Try.prog 48 #[.slice A l.length c] w fun e w' => FewU l e ∧ Dr w w' := by
  have HO := hid ho
  clear ho
  go_enter Try.func48, Try.ntmps48
  go_wp2
  go_loopw [3, 4] (fun n i wr => ∃ (k m : Nat), i = .int .i64 k ∧ k ≤ l.length ∧ n = .int .i64 m ∧ 500 * k ≤ m ∧ m ≤ 1000000000000000 ∧ Hid (∀ u ∈ l.take k, u.s.size ≤ m) ∧ Dr w wr) (fun _ i _ => l.length - (intOf i).toNat)
  case atStart => exact ⟨0, 0, rfl, by omega, rfl, by omega, by omega, hid (fun u hu => by simp at hu), Dr.refl w⟩
  case round =>
    obtain ⟨k, m, rfl, hk, rfl, h1, h2, HS, hd⟩ := hrel
    by_cases hlt : k < l.length
    · by_cases hm : m < 30000
      · obtain ⟨x, hx⟩ := get_of_lt hlt
        have hxo := HO.out x (List.mem_of_getElem? hx)
        obtain ⟨b, off, rfl, d0, d1, d2, d3, d4, d5⟩ := CellsU.at_ (Cells.dr hA hd) hx
        obtain ⟨hs, hks⟩ := hxo
        have HX := hid hx
        clear hx
        go_wp2
        go_quiet (fail)
        go_wp2
        go_roundw
        case rel =>
          exact ⟨k + 1, m + 500 + x.s.size + x.ks.length, by go_num, by omega, by congr 1, by omega, by omega, hid (mem_snocU HX.out (fun u hu => by have := HS.out u hu; omega) (by omega)), hd.more _⟩
        case measure => simp [intOf]; omega
      · go_wp2
        go_ret
        exact ⟨⟨_, rfl, by simp⟩, hd⟩
    · obtain rfl : k = l.length := by omega
      rw [List.take_length] at HS
      go_wp2
      all_goals
        go_ret
        refine ⟨⟨_, rfl, fun hb => ?_⟩, hd⟩
        simp at hb
        exact ⟨by omega, fun u hu => by have := HS.out u hu; omega⟩
end Go.Proofs.Ythllhnjbddpeoaa
