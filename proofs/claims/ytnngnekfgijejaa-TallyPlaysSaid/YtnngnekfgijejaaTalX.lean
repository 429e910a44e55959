/-
  Rows of texts and of bytes as arguments; what two tallies come to together.
-/
import Derived.Test.YtnngnekfgijejaaTalV
import Derived.Test.YtnngnekfgijejaaTalW
import Derived.SliceStrings
namespace Go.Proofs.Ytnngnekfgijejaa
open Go.ChangeShapes Go.WideShapes Go.ChangeAt Go.RowKit Go.Deep

section
variable {H : Type} {enc : TypeId × Value → H}
set_option maxRecDepth 100000 in
theorem texts_at {fuel : Nat} {v : Value} {x : DataW H × List MemPlace} {w : World} (h : DataW.trod enc Try.prog w 0 (fun _ => true) true fuel 34 [v] = some x) :
    ∃ (A : Option Addr) (l : List ByteArray) (c : Nat), v = .slice A l.length c ∧ Cells w A (l.map .string) ∧ l.length ≤ 9223372036854775807 ∧ ∀ s ∈ l, s.size ≤ 9223372036854775807 := by
  rcases open_strings Try.underlying34 Try.underlying9 (by kernel_rfl) h with ⟨h1, _⟩ | ⟨a, len, cap, ss, h1, _, hl, hm, hz, _, hcell, hs⟩
  · simp only [List.cons.injEq, and_true] at h1
    exact ⟨none, [], 0, h1, .inl rfl, by simp, by simp⟩
  · simp only [List.cons.injEq, and_true] at h1
    simp only [if_true] at hz
    have hlen : (ss.take len).length = len := by simp; omega
    refine ⟨some a, ss.take len, cap, by rw [hlen]; exact h1, ?_, by rw [hlen]; unfold maxLen at hm; omega, fun s hs' => by have := hs s (List.mem_of_mem_take hs'); unfold maxLen at this; omega⟩
    cases len with
    | zero => exact .inl (by simp)
    | succ len =>
      right
      have h0 := hcell 0 (by omega)
      have ha0 : a.add 0 = a := rfl
      rw [ha0] at h0
      have hs0 := spot_none h0
      refine ⟨a.block, a.off, by cases a; simp only at hs0; subst hs0; rfl, fun i u hu => ?_⟩
      rw [List.getElem?_map, List.getElem?_take] at hu
      split at hu
      · rename_i hi
        have h2 := hcell i (by omega)
        rw [add_none hs0] at h2
        rw [h2, List.getD_eq_getElem?_getD]
        have hj2 : i < ss.length := by omega
        rw [List.getElem?_eq_getElem hj2] at hu ⊢
        simpa using hu
      · simp at hu
set_option maxRecDepth 100000 in
theorem bytes_at {fuel : Nat} {v : Value} {x : DataW H × List MemPlace} {w : World} (h : DataW.trod enc Try.prog w 0 (fun _ => true) true fuel 41 [v] = some x) :
    ∃ (A : Option Addr) (l : List Int) (c : Nat), v = .slice A l.length c ∧ Cells w A (l.map (.int .u8)) ∧ l.length ≤ 9223372036854775807 ∧ ∀ z ∈ l, 0 ≤ z ∧ z < 256 := by
  obtain ⟨A, l, c, h1, h2, h3, h4⟩ := nums_at Try.underlying41 Try.underlying5 (by kernel_rfl) h
  exact ⟨A, l, c, h1, h2, h3, fun z hz => u8_of (h4 z hz)⟩
end

/-- of two tallies to which few members told unlike things. -/
structure Pair (m : Int) (k lies : Nat) (LA LB : List Vt) : Prop where
  a : ∀ v ∈ LA, v.fr ≤ k
  b : ∀ v ∈ LB, v.fr ≤ k
  c : ∀ x y : ByteArray, (x.toList == y.toList) = false → cntN (pCnt 0 3 x) LA + cntN (pCnt 0 3 y) LB ≤ k + lies
  l : lies ≤ k
theorem Pair.nil (m : Int) : Pair m 0 0 [] [] := ⟨(fun v h => by cases h), (fun v h => by cases h), fun x y _ => by simp [cntN], Nat.le_refl _⟩

/-- a member's prevote. -/
abbrev pvote (k : Nat) (s : ByteArray) : Vt := ⟨(k : Int) + 1, 0, 3, 0, s⟩
theorem pvote_may {m : Int} {k : Nat} {s : ByteArray} (hk : (k : Int) < m) (hs : s.size ≤ 2048) : mayV (pvote k s) m = true := by
  have h1 : mayE (pvote k s) m = false := by
    simp only [mayE, Bool.or_eq_false_iff, decide_eq_false_iff_not]
    omega
  have h2 : mayK (pvote k s) = true := by simp [mayK]
  simp [mayV, h1, h2]
theorem pvote_no {L : List Vt} {k : Nat} {s : ByteArray} (h : ∀ v ∈ L, v.fr ≤ k) : hasV L (pvote k s) = false := by
  rw [hasV_no]
  intro u hu hc
  have := h u hu
  have h2 : u.fr = (k : Int) + 1 := hc.2.1
  omega
theorem pvote_put {m : Int} {L : List Vt} {k : Nat} {s : ByteArray} (h : ∀ v ∈ L, v.fr ≤ k) (hk : (k : Int) < m) (hs : s.size ≤ 2048) : putB m L (pvote k s) = true := by simp [putB, pvote_may hk hs, pvote_no h]
theorem pvote_fr {m : Int} {L : List Vt} {k : Nat} {s : ByteArray} (h : ∀ v ∈ L, v.fr ≤ k) : ∀ v ∈ putL m L (pvote k s), v.fr ≤ (k + 1 : Nat) := by
  intro v hv
  unfold putL at hv
  split at hv
  · rcases mem_ins.1 hv with rfl | hv
    · show (k : Int) + 1 ≤ _; omega
    · have := h v hv; omega
  · have := h v hv; omega
theorem pvote_cnt {m : Int} {L : List Vt} {k : Nat} {s x : ByteArray} (h : ∀ v ∈ L, v.fr ≤ k) (hk : (k : Int) < m) (hs : s.size ≤ 2048) : cntN (pCnt 0 3 x) (putL m L (pvote k s)) = cntN (pCnt 0 3 x) L + if (s.toList == x.toList) = true then 1 else 0 := by
  have he : putL m L (pvote k s) = ins (pvote k s) L := by rw [putL, pvote_put h hk hs]; rfl
  rw [he]
  unfold cntN
  rw [((ins_perm (pvote k s) L).filter _).length_eq, List.filter_cons]
  have hp : pCnt 0 3 x (pvote k s) = (s.toList == x.toList) := by simp [pCnt]
  rw [hp]
  split <;> simp
theorem beq_tr {a b c : List UInt8} (h1 : (a == b) = true) (h2 : (a == c) = true) : (b == c) = true := by
  rw [beq_iff_eq] at *
  rw [← h1, ← h2]

theorem Pair.both {m : Int} {k lies : Nat} {LA LB : List Vt} {o q : ByteArray} (h : Pair m k lies LA LB) (hk : (k : Int) < m) (ho : o.size ≤ 2048) (hq : q.size ≤ 2048) (hoq : (q.toList != o.toList) = false) : Pair m (k + 1) lies (putL m LA (pvote k o)) (putL m LB (pvote k q)) := by
  refine ⟨pvote_fr h.a, pvote_fr h.b, fun x y hxy => ?_, by have := h.l; omega⟩
  rw [pvote_cnt h.a hk ho, pvote_cnt h.b hk hq]
  have := h.c x y hxy
  by_cases h1 : (o.toList == x.toList) = true
  · have h2 : ¬ (q.toList == y.toList) = true := fun h2 => by
      have e : q.toList = o.toList := by simpa using hoq
      rw [e] at h2
      rw [beq_tr h1 h2] at hxy; cases hxy
    rw [if_pos h1, if_neg h2]; omega
  · rw [if_neg h1]; split <;> omega
theorem Pair.lie {m : Int} {k lies : Nat} {LA LB : List Vt} {o q : ByteArray} (h : Pair m k lies LA LB) (hk : (k : Int) < m) (ho : o.size ≤ 2048) (hq : q.size ≤ 2048) : Pair m (k + 1) (lies + 1) (putL m LA (pvote k o)) (putL m LB (pvote k q)) := by
  refine ⟨pvote_fr h.a, pvote_fr h.b, fun x y hxy => ?_, by have := h.l; omega⟩
  rw [pvote_cnt h.a hk ho, pvote_cnt h.b hk hq]
  have := h.c x y hxy
  split <;> split <;> omega
theorem Pair.first {m : Int} {k lies : Nat} {LA LB : List Vt} {o : ByteArray} (h : Pair m k lies LA LB) (hk : (k : Int) < m) (ho : o.size ≤ 2048) : Pair m (k + 1) lies (putL m LA (pvote k o)) LB := by
  refine ⟨pvote_fr h.a, fun v hv => by have := h.b v hv; omega, fun x y hxy => ?_, by have := h.l; omega⟩
  rw [pvote_cnt h.a hk ho]
  have := h.c x y hxy
  split <;> omega
theorem Pair.second {m : Int} {k lies : Nat} {LA LB : List Vt} {q : ByteArray} (h : Pair m k lies LA LB) (hk : (k : Int) < m) (hq : q.size ≤ 2048) : Pair m (k + 1) lies LA (putL m LB (pvote k q)) := by
  refine ⟨fun v hv => by have := h.a v hv; omega, pvote_fr h.b, fun x y hxy => ?_, by have := h.l; omega⟩
  rw [pvote_cnt h.b hk hq]
  have := h.c x y hxy
  split <;> omega
theorem Pair.none {m : Int} {k lies : Nat} {LA LB : List Vt} (h : Pair m k lies LA LB) : Pair m (k + 1) lies LA LB :=
  ⟨fun v hv => by have := h.a v hv; omega, fun v hv => by have := h.b v hv; omega, fun x y hxy => by have := h.c x y hxy; omega, by have := h.l; omega⟩
end Go.Proofs.Ytnngnekfgijejaa
