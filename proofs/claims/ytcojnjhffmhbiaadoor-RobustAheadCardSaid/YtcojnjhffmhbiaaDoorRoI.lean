/-
  A row of a polynomial's coefficients (the statements' helper).
-/
import Derived.Test.YtcojnjhffmhbiaaDoorRobQ1
import Derived.Test.YtcojnjhffmhbiaaDoorRobQ2
import Derived.Test.YtcojnjhffmhbiaaDoorRobQ3
import Derived.Test.YtcojnjhffmhbiaaDoorRobQ4
import Derived.Test.YtcojnjhffmhbiaaDoorRobQ5
import Derived.Test.YtcojnjhffmhbiaaDoorRobQ6
import Derived.Test.YtcojnjhffmhbiaaDoorRobQ7
import Derived.Test.YtcojnjhffmhbiaaDoorRobQ8
import Derived.Test.YtcojnjhffmhbiaaDoorRobQ9
import Derived.Test.YtcojnjhffmhbiaaDoorRobQ10
import Derived.Test.YtcojnjhffmhbiaaDoorRobQ11
namespace Go.Proofs.YtcojnjhffmhbiaaDoor
open Go Go.RowKit Go.Maps Go.Shelf Go.Proofs

attribute [local go_sem] Oper.semAt_some

def rowK5 (c : List Int) (t : Nat) (q : Int) (k : Nat) : List Int := (List.range (t + 1)).map fun i => if i < k ∧ i < c.length then c.getD i 0 % q else 0
/-- the first t + 1 of some numbers. -/
def rowL5 (c : List Int) (t : Nat) (q : Int) : List Int := rowK5 c t q (t + 1)
theorem rowK5_len (c : List Int) (t : Nat) (q : Int) (k : Nat) : (rowK5 c t q k).length = t + 1 := by simp [rowK5]
theorem rowK5_at {c : List Int} {t : Nat} {q : Int} {k i : Nat} (h : i < t + 1) : (rowK5 c t q k)[i]? = some (if i < k ∧ i < c.length then c.getD i 0 % q else 0) := by
  unfold rowK5
  rw [List.getElem?_map, List.getElem?_range h]; rfl
theorem rowK5_zero (c : List Int) (t : Nat) (q : Int) : (rowK5 c t q 0).map (Value.int .u64) = List.replicate (t + 1) (.int .u64 0) := by
  apply List.ext_getElem?
  intro i
  rcases Nat.lt_or_ge i (t + 1) with h | h
  · rw [List.getElem?_map, rowK5_at h, List.getElem?_replicate, if_pos h, if_neg (by omega)]; rfl
  · rw [List.getElem?_eq_none (by simpa [rowK5] using h), List.getElem?_eq_none (by simpa using h)]
theorem rowK5_set {c : List Int} {t : Nat} {q : Int} {k : Nat} {z : Int} (hz : c[k]? = some z) : ((rowK5 c t q k).map (Value.int .u64)).set k (.int .u64 (z % q)) = (rowK5 c t q (k + 1)).map (Value.int .u64) := by
  have hkc := (List.getElem?_eq_some_iff.1 hz).1
  apply List.ext_getElem?
  intro i
  rw [List.getElem?_set, List.getElem?_map, List.getElem?_map]
  rcases Nat.lt_or_ge i (t + 1) with h | h
  · rw [rowK5_at h, rowK5_at h]
    by_cases e : k = i
    · subst e
      rw [if_pos rfl, if_pos (by simp [rowK5]; omega), if_pos ⟨by omega, hkc⟩, List.getD_eq_getElem?_getD, hz]; rfl
    · rw [if_neg e]
      by_cases h1 : i < k ∧ i < c.length
      · rw [if_pos h1, if_pos ⟨by omega, h1.2⟩]
      · rw [if_neg h1, if_neg (by omega)]
  · have h1 : (rowK5 c t q k)[i]? = none := List.getElem?_eq_none (by simpa [rowK5] using h)
    have h2 : (rowK5 c t q (k + 1))[i]? = none := List.getElem?_eq_none (by simpa [rowK5] using h)
    rw [h1, h2]
    by_cases e : k = i
    · subst e; rw [if_pos rfl, if_neg (by simp [rowK5]; omega)]; rfl
    · rw [if_neg e]
theorem rowK5_end {c : List Int} {t : Nat} {q : Int} {k : Nat} (h : t + 1 ≤ k ∨ c.length ≤ k) : rowK5 c t q k = rowL5 c t q := by
  unfold rowL5 rowK5
  refine List.map_congr_left fun i hi => ?_
  have := List.mem_range.1 hi
  by_cases h1 : i < c.length
  · rw [if_pos ⟨by omega, h1⟩, if_pos ⟨by omega, h1⟩]
  · rw [if_neg (by omega), if_neg (by omega)]
theorem rowL5_u64 (c : List Int) (t : Nat) {q : Int} (h : okm q = true) : U64s (rowL5 c t q) := by
  intro z hz
  obtain ⟨i, _, rfl⟩ := List.mem_map.1 hz
  split
  · exact mod_u64 h
  · exact ⟨by simp, by simp⟩
theorem rowL5_red (c : List Int) (t : Nat) (q : Int) : (rowL5 c t q).map (· % q) = rowL5 c t q := by
  unfold rowL5 rowK5
  rw [List.map_map]
  refine List.map_congr_left fun i _ => ?_
  simp only [Function.comp]
  split
  · exact Int.emod_emod _ _
  · exact Int.zero_emod _
set_option maxRecDepth 100000 in
set_option maxHeartbeats 1000000 in
theorem row05_c (A : Option Addr) (c : List Int) (ca t : Nat) (q : Int) (w : World) (hA : Cells w A (c.map (.int .u64))) (hl : c.length ≤ 1000) (ht : t ≤ 10) (hu : U64s c) (hq0 : 0 < q) :
    Calls Tryd.prog 64 #[.slice A c.length ca, .int .i64 (t : Int), .int .u64 q] w fun e w' => ∃ v, e = .returned v ∧ Own w' w.heap.size 24 v ((rowL5 c t q).map (.int .u64)) ∧ Below w.heap.size w w' := by
  have hq1 : (q == 0) = false := by simp; omega
  go_enter Tryd.func64, Tryd.ntmps64
  go_wp2_with (at_make; refine wpList_make_row elt_u64 _ rfl _ _ rfl .i64 .i64 ((t : Int) + 1) ((t : Int) + 1) (t + 1) rfl rfl (by omega) (by omega) (by omega) (by omega) ?_; intro w1 hr1 hs1 hb1)
  rw [← rowK5_zero c t q] at hr1
  obtain ⟨g, hg⟩ : ∃ g, w.heap.size = g := ⟨_, rfl⟩
  have HG := hid hg
  rw [hg] at hr1 hs1 ⊢
  clear hg
  go_loopw [8] (fun i wr => ∃ k : Nat, i = .int .i64 (k : Int) ∧ k ≤ t + 1 ∧ Hid (Row1 wr g 24 ((rowK5 c t q k).map (.int .u64)) ∧ Below w.heap.size w wr)) (fun i _ => t + 1 - (intOf i).toNat)
  case atStart => exact ⟨0, rfl, by omega, hid ⟨hr1, hb1⟩⟩
  case round =>
    obtain ⟨k, rfl, hk, HI⟩ := hrel
    by_cases hlt : k < t + 1
    · by_cases hlc : k < c.length
      · obtain ⟨z, hz⟩ := get_of_lt hlc
        obtain ⟨b, off, rfl, hc⟩ := (hA.below HI.out.2).at_map hz
        have huz := hu z (List.mem_of_getElem? hz)
        have h0 := huz.lo
        have h2 := Int.tmod_eq_emod_of_nonneg (b := q) h0
        obtain ⟨x0, hx0⟩ := get_of_lt (l := rowK5 c t q k) (show k < _ by rw [rowK5_len]; exact hlt)
        have c0 := HI.out.1.cell (k := k) (u := .int .u64 x0) (by rw [List.getElem?_map, hx0]; rfl)
        have f0 := HI.out.1.frozen k
        have hset := HI.out.1.set k (.int .u64 (z % q))
        rw [rowK5_set hz] at hset
        have hge : w.heap.size ≤ g := by rw [HG.out]; exact Nat.le_refl _
        have HN := hid (And.intro hset (HI.out.2.setCell (p := ⟨g, k, none⟩) hge (.int .u64 (z % q))))
        clear hz hx0 HI hset
        go_wp2
        go_roundw
        case rel => exact ⟨k + 1, by go_num, by omega, HN⟩
        case measure => simp [intOf]; omega
      · have HE := hid (rowK5_end (t := t) (q := q) (.inr (show c.length ≤ k by omega)))
        go_wp2
        go_ret
        refine ⟨_, rfl, ?_, HI.out.2⟩
        rw [← HE.out]
        have := HI.out.1.own (base := w.heap.size) (by rw [HG.out]; exact Nat.le_refl _) (by simp [rowK5]; omega)
        rw [List.length_map, rowK5_len] at this
        exact this
    · obtain rfl : k = t + 1 := by omega
      go_wp2
      go_ret
      refine ⟨_, rfl, ?_, HI.out.2⟩
      have := HI.out.1.own (base := w.heap.size) (by rw [HG.out]; exact Nat.le_refl _) (by simp [rowK5]; omega)
      rw [List.length_map, rowK5_len] at this
      exact this
end Go.Proofs.YtcojnjhffmhbiaaDoor
