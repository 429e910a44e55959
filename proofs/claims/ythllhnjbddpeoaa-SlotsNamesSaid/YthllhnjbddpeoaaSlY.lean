/-
  How much a disk may hold; a disk of two heads; rows of texts as arguments.
-/
import Derived.Test.YthllhnjbddpeoaaSlX
import Derived.SliceStrings
namespace Go.Proofs.Ythllhnjbddpeoaa
open Go Go.RowKit Go.Maps Go.Shelf Go.Proofs Go.ChangeShapes Go.WideShapes Go.ChangeAt Go.Deep

theorem pigeon : ∀ (n : Nat) (L : List Int), L.Nodup → (∀ a ∈ L, 0 ≤ a ∧ a < n) → L.length ≤ n
  | 0, L, _, h => by
    cases L with
    | nil => simp
    | cons a L => have := h a (List.mem_cons_self ..); omega
  | n + 1, L, hn, h => by
    by_cases hm : (n : Int) ∈ L
    · have h1 := pigeon n (L.erase n) (hn.erase _) fun a ha => by
        have h2 := (hn.mem_erase_iff).1 ha
        have h3 := h a h2.2
        have := h2.1
        omega
      have h4 := List.length_erase_of_mem hm
      omega
    · have := pigeon n L hn fun a ha => by
        have h3 := h a ha
        have : a ≠ n := fun e => hm (e ▸ ha)
        omega
      omega
theorem Dsk.cap {w : World} {g gm : Nat} {v : Value} {d : Dk} {m : Nat} (h : Dsk w g gm v d) (hd : d.Ok m) {c : Nat} (hc : d.C.length ≤ c) : d.Ok (65536 + c) := by
  have hn := nd_pt h.map
  have h1 : (d.P.map Pt.at_).Nodup := by
    unfold List.Nodup
    rw [List.pairwise_map]
    exact hn
  have h2 := pigeon 65536 (d.P.map Pt.at_) h1 fun a ha => by
    obtain ⟨p, hp, rfl⟩ := List.mem_map.1 ha
    have := isS_iff.1 (hd.P.at_ p hp)
    omega
  rw [List.length_map] at h2
  exact ⟨hd.P, hd.C, hd.le, hd.fuse, by omega⟩
theorem raw_live {a b : ByteArray} (ha : a.size ≤ 512) (hb : b.size ≤ 512) : Live (rawD a b) ∧ (rawD a b).fu = false ∧ (rawD a b).C = [] ∧ (∀ x, getP (rawD a b).P x = if x = 32768 then pad b else if x = 0 then pad a else blk) := by
  have h1 : dk0.write 0 a = ⟨[], [⟨0, pad a⟩], false, 0, false⟩ := by
    have := op_yes (d := dk0) (x := .put 0 a) rfl (.inl rfl) ⟨by decide, ha⟩
    exact congrArg (·.2) this
  have h2 : (⟨[], [⟨0, pad a⟩], false, 0, false⟩ : Dk).write 32768 b = ⟨[], [⟨0, pad a⟩, ⟨32768, pad b⟩], false, 0, false⟩ := by
    have := op_yes (d := (⟨[], [⟨0, pad a⟩], false, 0, false⟩ : Dk)) (x := .put 32768 b) rfl (.inl rfl) ⟨by decide, hb⟩
    exact congrArg (·.2) this
  have h3 : (⟨[], [⟨0, pad a⟩, ⟨32768, pad b⟩], false, 0, false⟩ : Dk).sync = ⟨([⟨0, pad a⟩, ⟨32768, pad b⟩] : List Pt).foldl setP [], [], false, 0, false⟩ := by
    have := op_yes (d := (⟨[], [⟨0, pad a⟩, ⟨32768, pad b⟩], false, 0, false⟩ : Dk)) (x := .sync) rfl (.inl rfl) trivial
    exact congrArg (·.2) this
  have e : rawD a b = ⟨([⟨0, pad a⟩, ⟨32768, pad b⟩] : List Pt).foldl setP [], [], false, 0, false⟩ := by
    unfold rawD
    rw [h1, h2, h3]
  rw [e]
  refine ⟨⟨rfl, (fun h => by cases h)⟩, rfl, rfl, fun x => ?_⟩
  show getP (([⟨0, pad a⟩, ⟨32768, pad b⟩] : List Pt).foldl setP []) x = _
  rw [List.foldl_cons, List.foldl_cons, List.foldl_nil, getP_set, getP_set]
  simp only
  by_cases h4 : x = 32768
  · rw [if_pos h4, if_pos h4.symm]
  · rw [if_neg h4, if_neg (fun e => h4 e.symm)]
    by_cases h5 : x = 0
    · rw [if_pos h5, if_pos h5.symm]
    · rw [if_neg h5, if_neg (fun e => h5 e.symm)]
      rfl

section
variable {H : Type} {enc : TypeId × Value → H}
set_option maxRecDepth 100000 in
theorem texts_at {fuel : Nat} {v : Value} {x : DataW H × List MemPlace} {w : World} (h : DataW.trod enc Try.prog w 0 (fun _ => true) true fuel 50 [v] = some x) :
    ∃ (A : Option Addr) (l : List ByteArray) (c : Nat), v = .slice A l.length c ∧ Cells w A (l.map .string) ∧ l.length ≤ 9223372036854775807 ∧ ∀ s ∈ l, s.size ≤ 9223372036854775807 := by
  rcases open_strings Try.underlying50 Try.underlying9 (by kernel_rfl) h with ⟨h1, _⟩ | ⟨a, len, cap, ss, h1, _, hl, hm, hz, _, hcell, hs⟩
  · simp only [List.cons.injEq, and_true] at h1
    exact ⟨none, [], 0, h1, .inl rfl, by simp, by simp⟩
  · simp only [List.cons.injEq, and_true] at h1
    simp only [if_true] at hz
    have hlen : (ss.take len).length = len := by simp; omega
    refine ⟨some a, ss.take len, cap, by rw [hlen]; exact h1, ?_, by rw [hlen]; unfold maxLen at hm; omega, fun s hs' => by have := hs s (List.mem_of_mem_take hs'); unfold maxLen at this; omega⟩
    cases len with
    | zero => exact .inl (by simp)
    | succ len =>
      right
      have h0 := hcell 0 (by omega)
      have ha0 : a.add 0 = a := rfl
      rw [ha0] at h0
      have hs0 := spot_none h0
      refine ⟨a.block, a.off, by cases a; simp only at hs0; subst hs0; rfl, fun i u hu => ?_⟩
      rw [List.getElem?_map, List.getElem?_take] at hu
      split at hu
      · rename_i hi
        have h2 := hcell i (by omega)
        rw [add_none hs0] at h2
        rw [h2, List.getD_eq_getElem?_getD]
        have hj2 : i < ss.length := by omega
        rw [List.getElem?_eq_getElem hj2] at hu ⊢
        simpa using hu
      · simp at hu
end
end Go.Proofs.Ythllhnjbddpeoaa
