/-
  The reference's columns; is a polynomial more than a statement goes over.
-/
import Derived.Test.YtnmadmcegdpecaaBivD
namespace Go.Proofs.Ytnmadmcegdpecaa
open Go.RowKit

theorem ev_zeros (n : Nat) (x : Int) : ev (List.replicate n 0) x = 0 := by
  induction n with
  | zero => rfl
  | succ n ih => rw [List.replicate_succ, ev_cons, ih]; simp
theorem pad_eq (l : List Int) {n : Nat} (h : l.length ≤ n) : (List.range n).map (fun j => l.getD j 0) = l ++ List.replicate (n - l.length) 0 := by
  apply List.ext_getElem?
  intro j
  rw [List.getElem?_map]
  rcases Nat.lt_or_ge j n with h1 | h1
  · rw [List.getElem?_range h1]
    rcases Nat.lt_or_ge j l.length with h2 | h2
    · rw [List.getElem?_append_left h2, List.getElem?_eq_getElem h2, Option.map_some, List.getD_eq_getElem?_getD, List.getElem?_eq_getElem h2]; rfl
    · rw [List.getElem?_append_right h2, List.getElem?_replicate, if_pos (by omega), Option.map_some, List.getD_eq_getElem?_getD, List.getElem?_eq_none h2]; rfl
  · rw [List.getElem?_eq_none (by simpa using h1), List.getElem?_eq_none (by simp; omega)]; rfl
theorem mEval_pad (l : List Int) {n : Nat} (h : l.length ≤ n) (x q : Int) : mEval ((List.range n).map fun j => l.getD j 0) x q = mEval l x q := by
  rw [pad_eq l h]
  unfold mEval
  split
  · rw [ev_append, ev_zeros]; simp
  · rfl
theorem wide_turned (f : List (List Int)) (h : 0 < wide f) : wide (turnedF f) = f.length := by
  apply Nat.le_antisymm
  · exact wide_le fun l hl => by
      obtain ⟨j, _, rfl⟩ := List.mem_map.1 hl
      rw [colJ_len]; exact Nat.le_refl _
  · have := le_wide (f := turnedF f) (l := colJ f 0) (List.mem_of_getElem? (turnedF_at f h))
    rwa [colJ_len] at this
theorem turned_none (f : List (List Int)) (h : wide f = 0) : turnedF f = [] := by simp [turnedF, h]
theorem mRow_turned (f : List (List Int)) (y q : Int) (h : 0 < wide f) : mRow (turnedF f) y q = mCol f y q := by
  unfold mRow mCol
  rw [wide_turned f h]
  apply List.ext_getElem?
  intro i
  rw [List.getElem?_map, List.getElem?_map]
  rcases Nat.lt_or_ge i f.length with h1 | h1
  · obtain ⟨l, hl⟩ := get_of_lt h1
    rw [List.getElem?_range h1, hl, Option.map_some, Option.map_some]
    have : colJ (turnedF f) i = (List.range (wide f)).map fun j => l.getD j 0 := by
      unfold colJ turnedF
      rw [List.map_map]
      apply List.map_congr_left
      intro j _
      simp only [Function.comp]
      rw [List.getD_eq_getElem?_getD, colJ_at hl]; rfl
    rw [this, mEval_pad l (le_wide (List.mem_of_getElem? hl))]
  · rw [List.getElem?_eq_none (by simpa using h1), List.getElem?_eq_none h1]; rfl
theorem mCol_none (f : List (List Int)) (y q : Int) (h : wide f = 0) : mCol f y q = List.replicate f.length 0 := by
  unfold mCol
  rw [List.eq_replicate_iff]
  refine ⟨by simp, fun b hb => ?_⟩
  obtain ⟨l, hl, rfl⟩ := List.mem_map.1 hb
  have := le_wide hl
  rw [List.eq_nil_of_length_eq_zero (show l.length = 0 by omega), mEval_nil]

/-- the length of a slice. -/
def sliceLen : Value → Nat
  | .slice _ n _ => n
  | _ => 0

set_option maxRecDepth 100000 in
set_option maxHeartbeats 1000000 in
theorem rcol06_c (A : Option Addr) (f : List (List Int)) (c : Nat) (y q : Int) (w : World) (hA : Grid w A f) (hl : f.length ≤ 1000000) (hwd : wide f ≤ 1000000) (hu : Words f) (hy : U64 y) (hq : U64 q) :
    Calls Try.prog 25 #[.slice A f.length c, .int .u64 y, .int .u64 q] w (NewNums (mCol f y q) w) := by
  have hwt : wide (turnedF f) ≤ 1000000 := by
    rcases Nat.eq_zero_or_pos (wide f) with h | h
    · rw [turned_none f h]; simp [wide]
    · rw [wide_turned f h]; exact hl
  have hpad : (mRow (turnedF f) y q).length ≤ f.length ∧ mRow (turnedF f) y q ++ List.replicate (f.length - (mRow (turnedF f) y q).length) 0 = mCol f y q := by
    rcases Nat.eq_zero_or_pos (wide f) with h | h
    · have h1 : mRow (turnedF f) y q = [] := by rw [turned_none f h]; simp [mRow, wide]
      rw [h1, mCol_none f y q h]
      exact ⟨by simp, by simp⟩
    · have h1 := mRow_turned f y q h
      rw [h1]
      have h2 : (mCol f y q).length = f.length := by simp [mCol]
      exact ⟨by omega, by rw [h2]; simp⟩
  have htl : (turnedF f).length ≤ 1000000 := by rw [turnedF_len]; exact hwd
  have htw := turnedF_words hu
  have HPAD := hid hpad
  clear hpad
  go_enter Try.func25, Try.ntmps25
  go_wp2_with (fail)
  refine (rturned06_c A f c w hA (by omega) hwd).mono ?_
  rintro e w1 ⟨v, rfl, hrows, hb1⟩
  obtain ⟨A1, c1, rfl, hg1, hl1⟩ := OwnRows.grid (f := turnedF f) hrows
  go_wp2_with (fail)
  refine (rrow06_c A1 (turnedF f) c1 y q w1 hg1 (by omega) (by omega) htw hy hq).mono ?_
  rintro e w2 ⟨v, rfl, hown, hb2⟩
  have hb3 := below_next hb1 hb1.size hb2
  obtain ⟨A2, c2, rfl, _⟩ := hown.form
  have hown := hown.from_ hb1.size
  have hru := HPAD.out.1
  have HP := hid HPAD.out.2
  generalize mRow (turnedF f) y q = row at *
  rw [List.length_map]
  rw [List.length_map] at hown
  clear hwt htl htw hrows hg1 hl1 hb1 hb2 HPAD
  go_wp2
  go_loopw [7] (fun o wr => ∃ (A : Option Addr) (n c : Nat), o = .slice A n c ∧ row.length ≤ n ∧ n ≤ f.length ∧ Own wr w.heap.size 23 o ((row ++ List.replicate (n - row.length) 0).map (.int .u64)) ∧ Below w.heap.size w wr) (fun o _ => f.length - sliceLen o)
  case atStart => exact ⟨A2, row.length, c2, rfl, Nat.le_refl _, hru, by simpa using hown, hb3⟩
  case round =>
    obtain ⟨A3, n, c3, rfl, hn1, hn2, hown3, hb4⟩ := hrel
    clear hown hb3
    have hlen : ((row ++ List.replicate (n - row.length) 0).map (Value.int .u64)).length = n := by simp; omega
    by_cases hlt : n < f.length
    · have hs : (row ++ List.replicate (n - row.length) 0).map (Value.int .u64) ++ [Value.int .u64 0] = (row ++ List.replicate (n + 1 - row.length) 0).map (Value.int .u64) := by
        rw [show n + 1 - row.length = (n - row.length) + 1 by omega, List.replicate_succ']
        simp
      have hlen2 : ((row ++ List.replicate (n + 1 - row.length) 0).map (Value.int .u64)).length = n + 1 := by simp; omega
      have HS := hid (⟨hs, hlen, hlen2⟩ : _ ∧ _ ∧ _)
      clear hs hlen hlen2
      go_wp2_with (at_builtin; refine wpList_push elt_u64 wr rfl _ _ rfl w.heap.size hown3 rfl (.int .u64 0) rfl rfl (by rw [HS.out.2.1]; omega) (by rw [HS.out.2.1]; omega) hb4.size ?_; intro v' w3 hown5 _ hb5; rw [HS.out.1] at hown5; obtain ⟨A5, c5, rfl, _⟩ := hown5.form; rw [HS.out.2.2] at hown5 ⊢)
      go_roundw
      case rel => exact ⟨A5, n + 1, c5, rfl, by omega, by omega, hown5, hb4.trans hb5⟩
      case measure => simp [sliceLen]; omega
    · obtain rfl : n = f.length := by omega
      rw [HP.out] at hown3
      clear hlen
      go_wp2
      go_ret
      exact ⟨_, rfl, hown3, hb4⟩

/-- is a polynomial more than a statement goes over? -/
def largeF (f : List (List Int)) : Bool := decide ((f.length : Int) > 20) || decide ((wide f : Int) > 20)

set_option maxRecDepth 100000 in
set_option maxHeartbeats 1000000 in
theorem large06_c (g : Nat) (A : Option Addr) (f : List (List Int)) (c : Nat) (w : World) (hr : Row1 w g 22 [.slice A f.length c]) (hA : Grid w A f) (hl : f.length ≤ 9223372036854775807) :
    Calls Try.prog 17 #[.slice (some ⟨g, 0, none⟩) 1 1] w fun e w' => e = .returned (.bool (largeF f)) ∧ Dr w w' := by
  have hrw : ∀ w', Dr w w' → Calls Try.prog 75 #[.slice A f.length c] w' fun e w'' => e = .returned (.int .i64 (wide f : Int)) ∧ w' = w'' := fun w' hd => rwide_c A f c w' (hA.dr hd) hl
  have HRW := hid hrw
  have hc := hr.cell (k := 0) rfl
  clear hrw
  go_enter Try.func17, Try.ntmps17
  cases h1 : decide ((f.length : Int) > 20) with
  | true =>
    have HF := hid (show largeF f = true by simp [largeF, h1])
    go_wp2
    go_loopw [3] (fun i wr => i = .int .i64 0 ∧ Dr w wr) (fun _ _ => 0)
    case atStart => exact ⟨rfl, Dr.refl _⟩
    case round =>
      obtain ⟨rfl, hw⟩ := hrel
      have hc2 := (hw.cell _).trans hc
      go_wp2
      go_ret
      exact ⟨ret_bool HF.out.symm, hw⟩
  | false =>
  cases h2 : decide ((wide f : Int) > 20) with
  | true =>
    have HF := hid (show largeF f = true by simp [largeF, h2])
    go_wp2
    go_loopw [3] (fun i wr => i = .int .i64 0 ∧ Dr w wr) (fun _ _ => 0)
    case atStart => exact ⟨rfl, Dr.refl _⟩
    case round =>
      obtain ⟨rfl, hw⟩ := hrel
      have hc2 := (hw.cell _).trans hc
      go_wp2_with (go_at_call 75; refine (HRW.out _ hw).mono ?_; rintro e w2 ⟨rfl, rfl⟩)
      go_ret
      exact ⟨ret_bool HF.out.symm, hw⟩
  | false =>
    have HF := hid (show largeF f = false by simp [largeF, h1, h2])
    go_wp2
    go_loopw [3] (fun i wr => ∃ k : Nat, i = .int .i64 k ∧ k ≤ 1 ∧ Dr w wr) (fun i _ => 1 - (intOf i).toNat)
    case atStart => exact ⟨0, rfl, by omega, Dr.refl _⟩
    case round =>
      obtain ⟨k, rfl, hk, hw⟩ := hrel
      by_cases hlt : k < 1
      · obtain rfl : k = 0 := by omega
        have hc2 := (hw.cell _).trans hc
        go_wp2_with (go_at_call 75; refine (HRW.out _ hw).mono ?_; rintro e w2 ⟨rfl, rfl⟩)
        go_roundw
        case rel => exact ⟨1, by go_num, by omega, hw⟩
        case measure => simp [intOf]
      · obtain rfl : k = 1 := by omega
        go_wp2
        go_ret
        exact ⟨ret_bool HF.out.symm, hw⟩

end Go.Proofs.Ytnmadmcegdpecaa
