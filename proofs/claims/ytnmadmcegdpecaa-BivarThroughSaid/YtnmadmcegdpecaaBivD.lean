/-
  The reference's: x and y change places; columns.
-/
import Derived.Test.YtnmadmcegdpecaaBivC
namespace Go.Proofs.Ytnmadmcegdpecaa
open Go.RowKit

/-- columns as lists. -/
def turnedF (f : List (List Int)) : List (List Int) := (List.range (wide f)).map fun j => colJ f j
theorem turnedF_at (f : List (List Int)) {j : Nat} (h : j < wide f) : (turnedF f)[j]? = some (colJ f j) := by
  unfold turnedF
  rw [List.getElem?_map, List.getElem?_range h]; rfl
theorem turnedF_len (f : List (List Int)) : (turnedF f).length = wide f := by simp [turnedF]
theorem turnedF_words {f : List (List Int)} (h : Words f) : Words (turnedF f) := by
  intro l hl
  obtain ⟨j, _, rfl⟩ := List.mem_map.1 hl
  exact colJ_u64 h j
/-- rows as cells. -/
def rowsU (W : List (List Int)) : List (List Value) := W.map (·.map (.int .u64))
theorem rowsU_take {W : List (List Int)} {j : Nat} {l : List Int} (h : W[j]? = some l) : rowsU (W.take j) ++ [l.map (.int .u64)] = rowsU (W.take (j + 1)) := by
  unfold rowsU
  rw [take_snoc' h]; simp
/-- the result of a call: a new list of lists. -/
def NewGrid (W : List (List Int)) (w : World) (e : Ending) (w' : World) : Prop := ∃ v, e = .returned v ∧ OwnRows w' w.heap.size 26 23 v (rowsU W) ∧ Below w.heap.size w w'

set_option maxRecDepth 100000 in
set_option maxHeartbeats 1000000 in
theorem rturned06_c (A : Option Addr) (f : List (List Int)) (c : Nat) (w : World) (hA : Grid w A f) (hl : f.length ≤ 17592186044415) (hwd : wide f ≤ 1000000) :
    Calls Try.prog 74 #[.slice A f.length c] w (NewGrid (turnedF f) w) := by
  have hrw : ∀ w', Below w.heap.size w w' → Calls Try.prog 75 #[.slice A f.length c] w' fun e w'' => e = .returned (.int .i64 (wide f : Int)) ∧ w' = w'' := fun w' hb => rwide_c A f c w' (hA.below hb) (by omega)
  have hat : ∀ j, j < wide f → (turnedF f)[j]? = some (colJ f j) := fun j h => turnedF_at f h
  have htl := turnedF_len f
  obtain ⟨n, hn⟩ : ∃ n, wide f = n := ⟨_, rfl⟩
  rw [hn] at hrw hat hwd htl
  have HRW := hid hrw
  have HAT := hid (⟨hat, htl⟩ : _ ∧ _)
  clear hrw hat hn htl
  go_enter Try.func74, Try.ntmps74
  go_wp2
  go_loopw [3, 4, 5, 6, 7] (fun o i _ _ _ wr => ∃ k : Nat, i = .int .i64 k ∧ k ≤ n ∧ OwnRows wr w.heap.size 26 23 o (rowsU ((turnedF f).take k)) ∧ Below w.heap.size w wr) (fun _ i _ _ _ _ => n - (intOf i).toNat)
  case atStart => exact ⟨0, rfl, by omega, by simpa [rowsU] using OwnRows.nil w w.heap.size 26 23, Below.refl _ _⟩
  case round =>
    obtain ⟨k, rfl, hk, ⟨vs, hown, hvl, hvr⟩, hb⟩ := hrel
    by_cases hlt : k < n
    · have hz := HAT.out.1 k hlt
      have hvl' : vs.length = k := by rw [hvl]; simp [rowsU]; have := HAT.out.2; omega
      have HV := hid (⟨hz, hvl, hvl', hvr⟩ : _ ∧ _ ∧ _ ∧ _)
      clear hz hvl hvl' hvr
      go_wp2_with (go_at_call 75; refine (HRW.out _ hb).mono ?_; rintro e w2 ⟨rfl, rfl⟩)
      generalize wr = wo at *
      go_loopw [5, 6, 7] (fun o i _ w4 => ∃ i' : Nat, i = .int .i64 i' ∧ i' ≤ f.length ∧ Own w4 wo.heap.size 23 o (((colJ f k).take i').map (.int .u64)) ∧ Below wo.heap.size wo w4) (fun _ i _ _ => f.length - (intOf i).toNat)
      case atStart => exact ⟨0, rfl, by omega, by simpa using Own.nil wo wo.heap.size 23, Below.refl _ _⟩
      case round =>
        obtain ⟨i, rfl, hi, hown4, hb4⟩ := hrel
        by_cases hlt2 : i < f.length
        · obtain ⟨l, hxl⟩ := get_of_lt hlt2
          obtain ⟨o1, off, A', c', rfl, hc, hcs, hln⟩ := ((hA.below hb).below hb4).at_ hxl
          have hcj := colJ_at hxl k
          have hs : ((colJ f k).take i).map (Value.int .u64) ++ [Value.int .u64 (l.getD k 0)] = ((colJ f k).take (i + 1)).map (Value.int .u64) := by
            rw [take_snoc' hcj]; simp
          have hlen : (((colJ f k).take i).map (Value.int .u64)).length = i := by simp [colJ_len]; omega
          have HS := hid (⟨hs, hlen⟩ : _ ∧ _)
          clear hs hlen hcj hxl
          by_cases hin : k < l.length
          · obtain ⟨z, hz⟩ := get_of_lt hin
            obtain ⟨o2, off2, rfl, hcz⟩ := hcs.at_map hz
            have hgd : l.getD k 0 = z := by rw [List.getD_eq_getElem?_getD, hz]; rfl
            rw [hgd] at HS
            clear hgd hz
            go_wp2_with (at_builtin; refine wpList_push elt_u64 wr rfl _ _ rfl wo.heap.size hown4 rfl (.int .u64 z) rfl rfl (by rw [HS.out.2]; omega) (by rw [HS.out.2]; omega) hb4.size ?_; intro v' w3 hown5 _ hb5)
            go_roundw
            case rel =>
              rw [HS.out.1] at hown5
              exact ⟨i + 1, by go_num, by omega, hown5, hb4.trans hb5⟩
            case measure => simp [intOf]; omega
          · have hgd : l.getD k 0 = 0 := by rw [List.getD_eq_getElem?_getD, List.getElem?_eq_none (by omega)]; rfl
            rw [hgd] at HS
            clear hgd
            go_wp2_with (at_builtin; refine wpList_push elt_u64 wr rfl _ _ rfl wo.heap.size hown4 rfl (.int .u64 0) rfl rfl (by rw [HS.out.2]; omega) (by rw [HS.out.2]; omega) hb4.size ?_; intro v' w3 hown5 _ hb5)
            go_roundw
            case rel =>
              rw [HS.out.1] at hown5
              exact ⟨i + 1, by go_num, by omega, hown5, hb4.trans hb5⟩
            case measure => simp [intOf]; omega
        · obtain rfl : i = f.length := by omega
          rw [List.take_of_length_le (by rw [colJ_len]; exact Nat.le_refl _)] at hown4
          have hrt := hown4.rowT
          have hown5 := hown.below hb4
          have hvr5 : ∀ (j : Nat) u xs, vs[j]? = some u → (rowsU ((turnedF f).take k))[j]? = some xs → RowT wr 23 u xs := fun j u xs a b => (HV.out.2.2.2 j u xs a b).below hb4
          have HVR := hid hvr5
          clear hvr5
          obtain ⟨A7, c7, rfl, _⟩ := hown4.form
          rw [List.length_map] at hrt
          clear hown4
          go_wp2_with (at_builtin; refine wpList_push elt_rows wr rfl _ _ rfl w.heap.size hown5 rfl (.slice A7 _ c7) rfl rfl (by rw [HV.out.2.2.1]; omega) (by rw [HV.out.2.2.1]; omega) (by have := hb.size; have := hb4.size; omega) ?_; intro v' w3 hown6 hoth hb6)
          go_roundw
          case rel =>
            have hrows := OwnRows.push (w := wr) (by decide) HV.out.2.1 HVR.out hown5 hrt hown6 hoth
            rw [rowsU_take HV.out.1] at hrows
            exact ⟨k + 1, by go_num, by omega, hrows, (below_next hb hb.size hb4).trans hb6⟩
          case measure => simp [intOf]; omega
    · obtain rfl : k = n := by omega
      go_wp2_with (go_at_call 75; refine (HRW.out _ hb).mono ?_; rintro e w2 ⟨rfl, rfl⟩)
      go_ret
      rw [List.take_of_length_le (by rw [HAT.out.2]; exact Nat.le_refl _)] at hvl hvr
      exact ⟨_, rfl, ⟨vs, hown, hvl, hvr⟩, hb⟩

end Go.Proofs.Ytnmadmcegdpecaa
