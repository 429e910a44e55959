/-
  The writers of a strings.Builder: copyCheck, WriteByte, WriteString.
  Numbers put as bytes; a disk's text read.
  Writes and syncs one behind the other, plainly; what a text's writing does.
  A text is written into a place.
  The function values that a text's writing goes over.
-/
import Derived.Test.YthllhnjbddpeoaaSlRd

section
namespace Go.Proofs.Ythllhnjbddpeoaa
open Go Go.RowKit Go.Maps Go.Shelf Go.Proofs

abbrev tBld : TypeId := 109
abbrev tU8 : TypeId := 5
theorem size_bld : (Try.prog.info? tBld).map (·.size) = some 2 := by kernel_rfl
theorem lies_bld : liesAt Try.prog Try.prog.depth tBld (2 / Try.prog.cellsOf tBld) 0 tBld 1 = true := by kernel_rfl
theorem info_u8 : (Try.prog.info? tU8).map (fun i => (i.zero, i.size, i.bytes)) = some (some (.int .u8 0), 1, 1) := by kernel_rfl

set_option maxHeartbeats 1000000 in
set_option maxRecDepth 100000 in
theorem bcheck_used (b : Nat) (w : World) (h0 : w.cell? ⟨b, 0, none⟩ = some (.pointer (some ⟨b, 0, none⟩))) :
    Calls Try.prog 91 #[.pointer (some ⟨b, 0, none⟩)] w fun e w' => e = .returned (.tuple #[]) ∧ w' = w := by
  obtain ⟨j, hj, _⟩ := Option.map_eq_some_iff.1 size_bld
  go_enter Try.func91, Try.ntmps91
  go_wp2
  rw [Lib.run_neq_ptr_same w _ Try.underlying107 hj]
  go_wp2
  go_end0
  exact ⟨rfl, rfl⟩
set_option maxHeartbeats 1000000 in
set_option maxRecDepth 100000 in
theorem bcheck_fresh (b : Nat) (w : World) (h0 : w.cell? ⟨b, 0, none⟩ = some (.pointer none)) (hsh : w.shape? b = some (tBld, 2)) (hfz : w.frozen? ⟨b, 0, none⟩ = false) :
    Calls Try.prog 91 #[.pointer (some ⟨b, 0, none⟩)] w fun e w' => e = .returned (.tuple #[]) ∧ w' = w.setCell ⟨b, 0, none⟩ (.pointer (some ⟨b, 0, none⟩)) := by
  obtain ⟨j, hj, hjs⟩ := Option.map_eq_some_iff.1 size_bld
  go_enter Try.func91, Try.ntmps91
  go_wp2
  rw [Lib.run_to_unsafe w ⟨b, 0, none⟩ Try.underlying107 Try.underlying147 hj (by rw [hjs]; decide) hsh (Nat.zero_lt_succ 1)]
  simp only [Result.andThen]
  rw [Oper.upon_value]
  go_wp2
  rw [run_callFunc_extern Try.func112 (by kernel_rfl) (by kernel_rfl) (by kernel_rfl) (e := Extern.AbiNoEscape.same) (by kernel_rfl)]
  rw [Lib.run_noEscape]
  simp only [Result.andThen]
  rw [Oper.upon_value]
  go_wp2
  rw [Lib.run_from_unsafe w ⟨b, 0, none⟩ Try.underlying147 Try.underlying107 hj hsh lies_bld]
  simp only [Result.andThen]
  rw [Oper.upon_value]
  go_wp2
  go_end0
  exact ⟨rfl, rfl⟩
theorem bcheck_c (B b : Nat) (bs : List Value) (w : World) (h : Lib.IsBuilder tBld tU8 B b bs w) :
    Calls Try.prog 91 #[.pointer (some ⟨b, 0, none⟩)] w fun e w' => e = .returned (.tuple #[]) ∧ (Lib.BuilderAt tBld tU8 B b (.pointer (some ⟨b, 0, none⟩)) bs w' ∧ Below B w w') := by
  rcases h with h | h
  · refine (bcheck_fresh b w h.cell0 h.shape h.frozen0).mono ?_
    rintro e w' ⟨rfl, rfl⟩
    exact ⟨rfl, h.used _, (Below.refl B w).setCell (p := ⟨b, 0, none⟩) h.1 _⟩
  · refine (bcheck_used b w h.cell0).mono ?_
    rintro e w' ⟨rfl, rfl⟩
    exact ⟨rfl, h, Below.refl B _⟩

set_option maxHeartbeats 2000000 in
set_option maxRecDepth 100000 in
theorem bbyte_c (B b : Nat) (bs : List Value) (c : Int) (w : World) (h : Lib.IsBuilder tBld tU8 B b bs w) (hlen : bs.length + 1 ≤ 140737488355328) (hBw : B ≤ w.heap.size) :
    Calls Try.prog 111 #[.pointer (some ⟨b, 0, none⟩), .int .u8 c] w fun e w' => e = .returned .nilIface ∧ (Lib.BuilderAt tBld tU8 B b (.pointer (some ⟨b, 0, none⟩)) (bs ++ [.int .u8 c]) w' ∧ Below B w w') := by
  obtain ⟨i0, hi, hz0, hz1, hz2⟩ := info_parts info_u8
  have HC := hid (bcheck_c B b bs w h)
  clear h
  go_enter Try.func111, Try.ntmps111
  go_wp2_with (fail)
  refine HC.out.mono ?_
  rintro e w1 ⟨rfl, h1, hb1⟩
  obtain ⟨hB, v, hbk, hown, hne⟩ := h1
  have c0 : w1.cell? ⟨b, 0, none⟩ = some (.pointer (some ⟨b, 0, none⟩)) := by rw [Lib.cell_of_heap hbk]; rfl
  have c1 : w1.cell? ⟨b, 1, none⟩ = some v := by rw [Lib.cell_of_heap hbk]; rfl
  go_wp2_with (at_builtin; refine wpList_append_own _ rfl _ _ 64 rfl B tU8 i0 (.int .u8 0) 1 1 Try.underlying64 hi hz0 hz1 hz2 rfl (by decide) _ _ _ rfl (hown.alloc _) ⟨w1.heap.size, 0, none⟩ 1 1 [.int .u8 c] rfl rfl ?c1 ?c2 ?c3 ?c4 ?c5 ?_)
  case c1 =>
    intro j u hj
    match j, hj with
    | 0, hj => simp at hj; subst hj; simp [Addr.add]
  case c2 => intro u hu; simp at hu; subst hu; rfl
  case c3 => unfold maxLen; omega
  case c4 => omega
  case c5 => have := hb1.size; simp; omega
  intro v' w2 hown' hgrow _
  have hlt : b < w1.heap.size := by
    rcases Nat.lt_or_ge b w1.heap.size with h' | h'
    · exact h'
    · simp [Array.getElem?_eq_none h'] at hbk
  have hb2 : w2.heap[b]? = some (.cells #[.pointer (some ⟨b, 0, none⟩), v] tBld (0, 0)) := by
    rw [hgrow.block b (by simp; omega) (fun e => hne e.symm), Lib.alloc_old w1 _ b hlt]
    exact hbk
  have d0 : w2.cell? ⟨b, 0, none⟩ = some (.pointer (some ⟨b, 0, none⟩)) := by rw [Lib.cell_of_heap hb2]; rfl
  have d1 : w2.cell? ⟨b, 1, none⟩ = some v := by rw [Lib.cell_of_heap hb2]; rfl
  have f1 : w2.frozen? ⟨b, 1, none⟩ = false := Lib.frozen_of_heap hb2 1
  obtain ⟨g, cap, rfl⟩ : ∃ g cap, v' = .slice (some ⟨g, 0, none⟩) (bs.length + 1) cap := by
    rcases hown'.2 with ⟨_, h0⟩ | ⟨g, cap, cur, hv, _⟩
    · omega
    · exact ⟨g, cap, hv⟩
  go_wp2
  go_ret
  refine ⟨rfl, ?_, ?_⟩
  · exact Lib.BuilderAt.put (T := tBld) (e := tU8) hB hb2 (bs' := bs ++ [.int .u8 c]) (by simpa using hown') (by decide)
  · exact ((hb1.alloc (by have := hb1.size; omega) _).grown hgrow (by have := hb1.size; simp; omega) (fun k hk => (hown.lt k hk).1)).setCell (p := ⟨b, 1, none⟩) hB _
set_option maxHeartbeats 2000000 in
set_option maxRecDepth 100000 in
theorem bstring_c (B b : Nat) (bs : List Value) (s : ByteArray) (w : World) (h : Lib.IsBuilder tBld tU8 B b bs w) (hlen : bs.length + s.size ≤ 140737488355328) (hBw : B ≤ w.heap.size) :
    Calls Try.prog 79 #[.pointer (some ⟨b, 0, none⟩), .string s] w fun e w' => e = .returned (.tuple #[.int .i64 s.size, .nilIface]) ∧ (Lib.BuilderAt tBld tU8 B b (.pointer (some ⟨b, 0, none⟩)) (bs ++ Lib.strCells s) w' ∧ Below B w w') := by
  obtain ⟨i0, hi, hz0, hz1, hz2⟩ := info_parts info_u8
  have HC := hid (bcheck_c B b bs w h)
  clear h
  go_enter Try.func79, Try.ntmps79
  go_wp2_with (fail)
  refine HC.out.mono ?_
  rintro e w1 ⟨rfl, h1, hb1⟩
  obtain ⟨hB, v, hbk, hown, hne⟩ := h1
  have c0 : w1.cell? ⟨b, 0, none⟩ = some (.pointer (some ⟨b, 0, none⟩)) := by rw [Lib.cell_of_heap hbk]; rfl
  have c1 : w1.cell? ⟨b, 1, none⟩ = some v := by rw [Lib.cell_of_heap hbk]; rfl
  go_wp2_with (at_builtin; refine Lib.wpList_append_own_string _ rfl _ _ 64 9 rfl B tU8 i0 Try.underlying64 Try.underlying9 hi hz0 hz1 hz2 _ _ _ rfl hown s rfl ?c3 ?c4 ?c5 ?_)
  case c3 => unfold maxLen; omega
  case c4 => omega
  case c5 => have := hb1.size; omega
  intro v' w2 hown' hgrow _
  have hlt : b < w1.heap.size := by
    rcases Nat.lt_or_ge b w1.heap.size with h' | h'
    · exact h'
    · simp [Array.getElem?_eq_none h'] at hbk
  have hb2 : w2.heap[b]? = some (.cells #[.pointer (some ⟨b, 0, none⟩), v] tBld (0, 0)) := by
    rw [hgrow.block b hlt (fun e => hne e.symm)]
    exact hbk
  have d0 : w2.cell? ⟨b, 0, none⟩ = some (.pointer (some ⟨b, 0, none⟩)) := by rw [Lib.cell_of_heap hb2]; rfl
  have d1 : w2.cell? ⟨b, 1, none⟩ = some v := by rw [Lib.cell_of_heap hb2]; rfl
  have f1 : w2.frozen? ⟨b, 1, none⟩ = false := Lib.frozen_of_heap hb2 1
  obtain ⟨ao, n', cap, rfl⟩ : ∃ ao n' cap, v' = .slice ao n' cap := by
    rcases hown'.2 with ⟨hv, _⟩ | ⟨g, cap, cur, hv, _⟩
    · exact ⟨_, _, _, hv⟩
    · exact ⟨_, _, _, hv⟩
  go_wp2
  go_ret2
  refine ⟨rfl, ?_, ?_⟩
  · exact Lib.BuilderAt.put (T := tBld) (e := tU8) hB hb2 (bs' := bs ++ Lib.strCells s) (by simpa [Lib.strCells_length] using hown') (by decide)
  · exact (hb1.grown hgrow (by have := hb1.size; omega) (fun k hk => (hown.lt k hk).1)).setCell (p := ⟨b, 1, none⟩) hB _
end Go.Proofs.Ythllhnjbddpeoaa
end

section
namespace Go.Proofs.Ythllhnjbddpeoaa
open Go Go.RowKit Go.Maps Go.Shelf Go.Proofs

theorem digs_get (n : Nat) : ∀ k i, i < k → (digs n k)[i]? = some (UInt8.ofNat (n / 256 ^ (k - 1 - i)))
  | 0, _, h => by omega
  | k + 1, 0, _ => by simp [digs]
  | k + 1, i + 1, h => by
    rw [digs, List.getElem?_cons_succ, digs_get n k i (by omega)]
    congr 4; omega
/-- a builder that was written. -/
abbrev Bld (w : World) (B b : Nat) (l : List UInt8) : Prop := Lib.BuilderAt tBld tU8 B b (.pointer (some ⟨b, 0, none⟩)) (Lib.byteCells l) w
set_option maxRecDepth 100000 in
set_option maxHeartbeats 1000000 in
theorem put8_c (s : ByteArray) (n : Nat) (w : World) (hs : s.size ≤ 1000000000) (hn : n < 18446744073709551616) :
    Calls Try.prog 90 #[.string s, .int .u64 (n : Int), .int .i64 8] w fun e w' => e = .returned (.string ⟨(s.data.toList ++ num8 n).toArray⟩) ∧ Below w.heap.size w w' := by
  have hI := Lib.fresh_isBuilder tBld tU8 w
  have hb0 := below_alloc w (.cells #[.pointer none, .slice none 0 0] tBld)
  have HS := hid (bstring_c w.heap.size w.heap.size [] s (w.alloc (.cells #[.pointer none, .slice none 0 0] tBld)) hI (by simp; omega) (by simp))
  clear hI
  go_enter Try.func90, Try.ntmps90
  go_wp2_with (fail)
  refine HS.out.mono ?_
  rintro e w1 ⟨rfl, hB1, hb1⟩
  clear HS
  have hb := hb0.trans hb1
  clear hb0 hb1
  obtain ⟨b, hbn⟩ : ∃ n, w.heap.size = n := ⟨_, rfl⟩
  have HB := hid hbn
  have hsz : b ≤ w1.heap.size := by rw [← hbn]; exact hb.size
  rw [hbn] at hB1 hb ⊢
  clear hbn
  replace hB1 : Bld w1 b b s.data.toList := by simpa [Lib.strCells_eq] using hB1
  go_wp2_with (fail)
  go_loopw [2] (fun bytes wr => ∃ j : Nat, j ≤ 8 ∧ bytes = .int .i64 (j : Int) ∧ Bld wr b b (s.data.toList ++ (num8 n).take (8 - j)) ∧ Below b w wr ∧ b ≤ wr.heap.size) (fun bytes _ => (intOf bytes).toNat)
  case atStart => exact ⟨8, by omega, rfl, by simpa using hB1, hb, hsz⟩
  case round =>
    obtain ⟨j, hj, rfl, hBr, hbr, hszr⟩ := hrel
    clear hB1 hb hsz
    by_cases h0 : 0 < j
    · obtain ⟨x, hx⟩ : ∃ x, UInt8.ofNat (n / 256 ^ (j - 1)) = x := ⟨_, rfl⟩
      have hv : (n : Int) / 2 ^ (8 * (j - 1)) % 256 = (x.toNat : Int) := by
        rw [← hx, UInt8.toNat_ofNat']
        have e : ((2 : Int) ^ (8 * (j - 1))) = ((256 ^ (j - 1) : Nat) : Int) := by
          rw [Int.pow_mul]; push_cast; rfl
        rw [e]; push_cast; rfl
      have hsn : (num8 n).take (8 - (j - 1)) = (num8 n).take (8 - j) ++ [x] := by
        have hg := digs_get n 8 (8 - j) (by omega)
        rw [show 8 - 1 - (8 - j) = j - 1 by omega, hx] at hg
        rw [show 8 - (j - 1) = (8 - j) + 1 by omega]
        exact take_snoc hg
      have HV := hid hv
      have hlen : (s.data.toList ++ (num8 n).take (8 - j)).length ≤ 1000000008 := by
        rw [List.length_append, List.length_take, num8_len, Array.length_toList]
        have : s.data.size = s.size := rfl
        omega
      have HC := hid (bbyte_c b b (Lib.byteCells (s.data.toList ++ (num8 n).take (8 - j))) x.toNat wr (.inr hBr) (by rw [Lib.byteCells_length]; omega) hszr)
      have HN := hid hsn
      clear hx hv hsn hlen hBr
      go_wp2_with (fail)
      rw [HV.out]
      refine HC.out.mono ?_
      rintro e w2 ⟨rfl, hB2, hb2⟩
      have hB3 : Bld w2 b b (s.data.toList ++ (num8 n).take (8 - (j - 1))) := by
        rw [HN.out, ← List.append_assoc]
        have e : Lib.byteCells (s.data.toList ++ (num8 n).take (8 - j) ++ [x]) = Lib.byteCells (s.data.toList ++ (num8 n).take (8 - j)) ++ [Value.int .u8 x.toNat] := by rw [Lib.byteCells_append]; rfl
        unfold Bld
        rw [e]; exact hB2
      go_wp2
      go_roundw
      case rel => exact ⟨j - 1, by omega, by congr 1; omega, hB3, hbr.trans hb2, Nat.le_trans hszr hb2.size⟩
      case measure => simp [intOf]; omega
    · obtain rfl : j = 0 := by omega
      have HC := hid (Try.Builder_String_any b b _ wr (.inr hBr) hszr)
      rw [show (num8 n).take (8 - 0) = num8 n from List.take_of_length_le (by rw [num8_len]; omega)] at HC
      clear hBr
      go_wp2_with (fail)
      refine HC.out.mono ?_
      rintro e w2 ⟨rfl, hb2⟩
      go_wp2
      go_ret
      exact ⟨rfl, by rw [HB.out]; exact hbr.trans hb2⟩
theorem num_c (s : ByteArray) (n : Nat) (w : World) (hs : s.size ≤ 1000000000) (hn : n < 18446744073709551616) :
    Calls Try.prog 73 #[.string s, .int .u64 (n : Int)] w fun e w' => e = .returned (.string ⟨(s.data.toList ++ num8 n).toArray⟩) ∧ Below w.heap.size w w' := by
  have HC := hid (put8_c s n w hs hn)
  go_enter Try.func73, Try.ntmps73
  go_wp2_with (fail)
  refine HC.out.mono ?_
  rintro e w2 ⟨rfl, hb2⟩
  go_wp2
  go_ret
  exact ⟨rfl, hb2⟩
theorem number1_c (n : Nat) (w : World) (hn : n ≤ 9223372036854775807) :
    Calls Try.prog 72 #[.int .i64 (n : Int)] w fun e w' => e = .returned (.string ⟨(num8 n).toArray⟩) ∧ Below w.heap.size w w' := by
  have HC := hid (num_c ⟨#[]⟩ n w (by decide) (by omega))
  go_enter Try.func72, Try.ntmps72
  go_wp2_with (fail)
  refine HC.out.mono ?_
  rintro e w2 ⟨rfl, hb2⟩
  go_wp2
  go_ret
  exact ⟨by simp, hb2⟩

/-- the bytes of so many sectors. -/
def catS (r : Int → ByteArray) (p : Int) : Nat → List UInt8
  | 0 => []
  | k + 1 => catS r p k ++ (r (p + 1 + k)).data.toList
/-- a disk's text: is there one, and what. -/
def textP (r : Int → ByteArray) (N : Int × Nat × Nat) : ByteArray × Bool := if N.2.1 = 0 then (⟨#[]⟩, false) else (⟨((catS r N.1 (secs_of N.2.2)).take N.2.2).toArray⟩, true)
def readP (r : Int → ByteArray) : ByteArray × Bool := textP r (newP (r 32768) (r 0))
theorem newP_le (b c : ByteArray) : 0 ≤ (newP b c).1 ∧ (newP b c).1 ≤ 32768 ∧ (newP b c).2.1 ≤ maxN ∧ (newP b c).2.2 ≤ roomN := by
  have h1 := hd_le b
  have h2 := hd_le c
  unfold newP
  split
  · exact ⟨by simp, by simp, h2⟩
  · split
    · exact ⟨by simp, by simp, h1⟩
    · exact ⟨by simp, by simp, by simp, by simp⟩
theorem bat_below {T e : TypeId} {B b : Nat} {p : Value} {bs : List Value} {w w' : World} (h : Lib.BuilderAt T e B b p bs w) (hb : Below w.heap.size w w') : Lib.BuilderAt T e B b p bs w' := by
  have hlt := h.lt
  obtain ⟨hB, v, hk, hown, hne⟩ := h
  exact ⟨hB, v, (hb.block b hlt).trans hk, hown.kept (row := some b) (but_below hb (some b)) (Or.inr hne), hne⟩
theorem isb_below {T e : TypeId} {B b : Nat} {bs : List Value} {w w' : World} (h : Lib.IsBuilder T e B b bs w) (hb : Below w.heap.size w w') : Lib.IsBuilder T e B b bs w' := h.imp (fun h => bat_below h hb) fun h => bat_below h hb
set_option maxRecDepth 100000 in
set_option maxHeartbeats 1000000 in
theorem sread_c (dv : Value) (r : Int → ByteArray) (w : World) (h : Reads w dv r) (hr : ∀ a, (r a).size ≤ 512) (hfull : ∀ a, 0 ≤ a → a < 65536 → 0 < (newP (r 32768) (r 0)).2.1 → (r a).size = 512) :
    Calls Try.prog 45 #[dv] w fun e w' => e = .returned (.tuple #[.string (readP r).1, .bool (readP r).2]) ∧ Below w.heap.size w w' := by
  have HN := hid (newest_c dv r w h)
  have hle := newP_le (r 32768) (r 0)
  unfold readP
  obtain ⟨⟨p, a, n⟩, hN⟩ : ∃ x, newP (r 32768) (r 0) = x := ⟨_, rfl⟩
  rw [hN] at HN hle hfull ⊢
  simp only at HN hle hfull
  obtain ⟨hp1, hp2, ha2, hn2⟩ := hle
  clear hN
  by_cases ha : a = 0
  · subst ha
    have e : textP r (p, 0, n) = (⟨#[]⟩, false) := rfl
    rw [e]
    clear e h hr hfull
    go_enter Try.func45, Try.ntmps45
    go_wp2_with (fail)
    refine HN.out.mono ?_
    rintro e w1 ⟨rfl, hb1⟩
    go_wp2
    go_ret2
    exact ⟨rfl, hb1⟩
  · have e : textP r (p, a, n) = (⟨((catS r p (secs_of n)).take n).toArray⟩, true) := by unfold textP; rw [if_neg ha]
    rw [e]
    clear e
    have HR := hid h
    have HF := hid (show ∀ a, 0 ≤ a → a < 65536 → (r a).size = 512 from fun x h1 h2 => hfull x h1 h2 (by omega))
    have ha' : ((a : Int) == 0) = false := by simpa using ha
    have hcl : ∀ k, k ≤ 32767 → (catS r p k).length = 512 * k := by
      intro k
      induction k with
      | zero => intro _; rfl
      | succ k ih =>
        intro hk
        have : (r (p + 1 + k)).data.toList.length = 512 := by
          rw [Array.length_toList]; exact HF.out (p + 1 + k) (by omega) (by omega)
        rw [catS, List.length_append, this, ih (by omega)]; omega
    have HL := hid hcl
    have hsec : secs_of n ≤ 32767 := by unfold secs_of; unfold roomN at hn2; omega
    have hsn : n ≤ 512 * secs_of n := by unfold secs_of; omega
    clear h hr hfull hcl ha
    go_enter Try.func45, Try.ntmps45
    go_wp2_with (fail)
    refine HN.out.mono ?_
    rintro e w1 ⟨rfl, hb1⟩
    clear HN
    go_upto_region 5 with (fail)
    have hI := Lib.fresh_isBuilder tBld tU8 w1
    have hb0 := below_alloc w1 (.cells #[.pointer none, .slice none 0 0] tBld)
    have hB1 : Lib.IsBuilder tBld tU8 w1.heap.size w1.heap.size (Lib.byteCells (catS r p 0)) (w1.alloc (.cells #[.pointer none, .slice none 0 0] tBld)) := hI
    clear hI
    obtain ⟨b, hbn⟩ : ∃ n, w1.heap.size = n := ⟨_, rfl⟩
    have HB := hid hbn
    have HR1 := hid (HR.out.below hb1)
    have hz : b ≤ (w1.alloc (.cells #[.pointer none, .slice none 0 0] tBld)).heap.size := by rw [← hbn]; simp
    rw [hbn] at hb0 hB1 ⊢
    clear hbn
    generalize w1.alloc _ = w2 at *
    have HQ := hid (sectors_of n w2 (by omega))
    go_wp2_with (fail)
    refine HQ.out.mono ?_
    rintro e _ ⟨rfl, rfl⟩
    clear HQ
    obtain ⟨m, hm⟩ : ∃ m, secs_of n = m := ⟨_, rfl⟩
    have HM := hid hm
    rw [hm] at hsec hsn ⊢
    clear hm
    go_wp2_with (fail)
    go_loopw [19] (fun i wr => ∃ k : Nat, k ≤ m ∧ i = .int .i64 (k : Int) ∧ Lib.IsBuilder tBld tU8 b b (Lib.byteCells (catS r p k)) wr ∧ Below b w1 wr ∧ b ≤ wr.heap.size) (fun i _ => m - (intOf i).toNat)
    case atStart => exact ⟨0, by omega, rfl, hB1, hb0, hz⟩
    case round =>
      obtain ⟨k, hk, rfl, hBr, hbr, hzr⟩ := hrel
      clear hB1 hb0 hz
      by_cases hlt : k < m
      · have HC := hid (HR1.out wr (by rw [HB.out]; exact hbr) (p + 1 + k) ⟨by omega, by omega⟩)
        have hsz := HF.out (p + 1 + k) (by omega) (by omega)
        have hln := HL.out k (by omega)
        go_wp2_with (fail)
        refine HC.out.mono ?_
        rintro e w3 ⟨rfl, hb3⟩
        have HS := hid (bstring_c b b (Lib.byteCells (catS r p k)) (r (p + 1 + k)) w3 (isb_below hBr hb3) (by rw [Lib.byteCells_length]; omega) (Nat.le_trans hzr hb3.size))
        clear hBr HC hsz hln
        go_wp2_with (fail)
        refine HS.out.mono ?_
        rintro e w4 ⟨rfl, hB4, hb4⟩
        have hB5 : Lib.IsBuilder tBld tU8 b b (Lib.byteCells (catS r p (k + 1))) w4 := by
          right
          rw [catS, Lib.byteCells_append]
          exact hB4
        go_wp2
        go_roundw
        case rel => exact ⟨k + 1, by omega, by go_num, hB5, hbr.trans ((hb3.mono hzr).trans hb4), Nat.le_trans hzr (Nat.le_trans hb3.size hb4.size)⟩
        case measure => simp [intOf]; omega
      · obtain rfl : k = m := by omega
        have HC := hid (Try.Builder_String_any b b _ wr hBr hzr)
        have hln := HL.out k hsec
        have hn3 : n ≤ (catS r p k).length := by omega
        have hn4 : (⟨(catS r p k).toArray⟩ : ByteArray).size = (catS r p k).length := by simp [ByteArray.size]
        have HX := hid (show (⟨(catS r p k).toArray⟩ : ByteArray).extract 0 n = ⟨((catS r p k).take n).toArray⟩ by apply bytes_ext; simp [ByteArray.data_extract])
        obtain ⟨S, hS⟩ : ∃ S, (⟨(catS r p k).toArray⟩ : ByteArray) = S := ⟨_, rfl⟩
        rw [hS] at HC HX hn4
        rw [← hn4] at hn3
        clear hBr hln hS hn4
        go_wp2_with (fail)
        refine HC.out.mono ?_
        rintro e w3 ⟨rfl, hb3⟩
        go_wp2
        go_ret2
        exact ⟨by show Ending.returned (.tuple #[.string (S.extract 0 n), .bool true]) = _; rw [HX.out, HM.out], hb1.trans ((hbr.trans hb3).mono (by rw [← HB.out]; exact hb1.size))⟩
end Go.Proofs.Ythllhnjbddpeoaa
end

section
namespace Go.Proofs.Ythllhnjbddpeoaa
open Go Go.RowKit Go.Maps Go.Shelf Go.Proofs

/-- a write, or a sync. -/
inductive Wr
  | sync
  | put (a : Int) (s : ByteArray)
def Dk.op (d : Dk) : Wr → Int × Dk
  | .sync => (d.syncE, d.sync)
  | .put a s => (d.writeE a s, d.write a s)
/-- some, till one is not done. -/
def Dk.go (d : Dk) : List Wr → Int × Dk
  | [] => (0, d)
  | x :: l => if (d.op x).1 = 0 then (d.op x).2.go l else d.op x
theorem go_append (l k : List Wr) : ∀ d : Dk, d.go (l ++ k) = if (d.go l).1 = 0 then (d.go l).2.go k else d.go l := by
  induction l with
  | nil => intro d; simp [Dk.go]
  | cons x l ih =>
    intro d
    simp only [List.cons_append, Dk.go]
    by_cases h : (d.op x).1 = 0
    · simp only [if_pos h]; exact ih _
    · simp only [if_neg h]
theorem go_fail {d : Dk} {l : List Wr} (h : (d.go l).1 ≠ 0) (k : List Wr) : d.go (l ++ k) = d.go l := by rw [go_append, if_neg h]
theorem go_done {d : Dk} {l : List Wr} (h : (d.go l).1 = 0) (k : List Wr) : d.go (l ++ k) = (d.go l).2.go k := by rw [go_append, if_pos h]
theorem go_one (d : Dk) (x : Wr) : d.go [x] = d.op x := by
  simp only [Dk.go]
  split
  · rename_i h; rw [← h]
  · rfl
theorem Dk.Ok.op {d : Dk} {m : Nat} (h : d.Ok m) (x : Wr) : (d.op x).2.Ok (m + 1) := by
  cases x with
  | sync => exact h.sync.mono (by omega)
  | put a s => exact h.write a s
theorem Dk.Ok.go {l : List Wr} : ∀ {d : Dk} {m : Nat}, d.Ok m → (d.go l).2.Ok (m + l.length) := by
  induction l with
  | nil => intro d m h; exact h
  | cons x l ih =>
    intro d m h
    simp only [Dk.go]
    split
    · exact (ih (h.op x)).mono (by simp; omega)
    · exact (h.op x).mono (by simp)
def chunk (p : Int) (s : ByteArray) (k : Nat) : Wr := .put (p + 1 + k) (s.extract (512 * k) (512 * k + 512))
def chunks (p : Int) (s : ByteArray) (k : Nat) : List Wr := (List.range k).map (chunk p s)
theorem chunks_succ (p : Int) (s : ByteArray) (k : Nat) : chunks p s (k + 1) = chunks p s k ++ [chunk p s k] := by simp [chunks, List.range_succ]
theorem chunks_len (p : Int) (s : ByteArray) (k : Nat) : (chunks p s k).length = k := by simp [chunks]
theorem chunks_add (p : Int) (s : ByteArray) (k m : Nat) (h : k ≤ m) : ∃ l, chunks p s m = chunks p s k ++ l := by
  obtain ⟨j, rfl⟩ := Nat.exists_eq_add_of_le h
  induction j with
  | zero => exact ⟨[], by simp⟩
  | succ j ih =>
    obtain ⟨l, hl⟩ := ih (by omega)
    exact ⟨l ++ [chunk p s (k + j)], by rw [← Nat.add_assoc, chunks_succ, hl, List.append_assoc]⟩
/-- those in between are written over with 00s. -/
def blank1 (a : Int) : Wr := .put a ⟨#[]⟩
def inB (lo hi a : Int) : Bool := decide (lo ≤ a) && decide (a < hi)
def blanks (us : List Int) (lo hi : Int) : List Wr := (us.filter (inB lo hi)).map blank1
/-- what a disk uses. -/
def used (d : Dk) : List Int := Lib.compact (srt (d.P.map Pt.at_ ++ d.C.map Pt.at_))
theorem used_uses (d : Dk) : Uses d (used d) := by
  obtain ⟨h1, h2⟩ := used_up (d.P.map Pt.at_ ++ d.C.map Pt.at_)
  refine ⟨h1, fun a => (h2 a).trans ?_⟩
  rw [List.mem_append, List.mem_map, List.mem_map]
theorem used_len (d : Dk) : (used d).length ≤ d.P.length + d.C.length := by
  unfold used
  have h1 := Lib.compact_length_le (srt (d.P.map Pt.at_ ++ d.C.map Pt.at_))
  rw [srt_len] at h1
  simpa using h1
/-- what a text's writing into a place does. -/
def Dk.text (d : Dk) (p : Int) (s : ByteArray) : Int × Dk :=
  if (d.go (chunks p s (secs_of s.size))).1 = 0 then (d.go (chunks p s (secs_of s.size))).2.go (blanks (used (d.go (chunks p s (secs_of s.size))).2) (p + 1 + secs_of s.size) (p + 32768)) else d.go (chunks p s (secs_of s.size))
theorem Dk.Ok.text {d : Dk} {m : Nat} (h : d.Ok m) (p : Int) (s : ByteArray) : (d.text p s).2.Ok (2 * (m + secs_of s.size)) := by
  have h1 : (d.go (chunks p s (secs_of s.size))).2.Ok (m + secs_of s.size) := by have := h.go (l := chunks p s (secs_of s.size)); rwa [chunks_len] at this
  unfold Dk.text
  split
  · refine (h1.go (l := blanks _ _ _)).mono ?_
    have h2 := used_len (d.go (chunks p s (secs_of s.size))).2
    have h3 := h1.len
    have h4 := List.length_filter_le (inB (p + 1 + secs_of s.size) (p + 32768)) (used (d.go (chunks p s (secs_of s.size))).2)
    unfold blanks
    rw [List.length_map]
    omega
  · exact h1.mono (by omega)
/-- the head of the older place; the place that is written. -/
def Dk.place (d : Dk) : Int := if 0 < d.age then 32768 - d.newest.1 else d.newest.1
/-- a text is written. -/
def Dk.slw (d : Dk) (s : ByteArray) : Int × Dk :=
  if d.de then (42, d) else if roomN < s.size then (10, d) else if d.age = maxN then (41, d) else
    let x := d.go [.sync, .put d.place ⟨#[]⟩, .sync]
    if x.1 = 0 then
      let y := x.2.text d.place s
      if y.1 = 0 then y.2.go [.sync, .put d.place (headS (d.age + 1) s.size), .sync] else y
    else x
theorem Dk.Ok.slw {d : Dk} {m : Nat} (h : d.Ok m) (s : ByteArray) : (d.slw s).2.Ok (2 * m + 100000) := by
  unfold Dk.slw
  split
  · exact h.mono (by omega)
  · split
    · exact h.mono (by omega)
    · split
      · exact h.mono (by omega)
      · rename_i _ hs _
        have hsec : secs_of s.size ≤ 32767 := by unfold secs_of; unfold roomN at hs; omega
        have h1 : (d.go [.sync, .put d.place ⟨#[]⟩, .sync]).2.Ok (m + 3) := h.go
        simp only
        split
        · have h2 := h1.text d.place s
          split
          · exact (h2.go (l := [.sync, .put d.place (headS (d.age + 1) s.size), .sync])).mono (by simp only [List.length_cons, List.length_nil]; omega)
          · exact h2.mono (by omega)
        · exact h1.mono (by omega)
end Go.Proofs.Ythllhnjbddpeoaa
end

section
namespace Go.Proofs.Ythllhnjbddpeoaa
open Go Go.RowKit Go.Maps Go.Shelf Go.Proofs

theorem blanks_succ {us : List Int} {j : Nat} {a : Int} (h : us[j]? = some a) (lo hi : Int) : blanks (us.take (j + 1)) lo hi = blanks (us.take j) lo hi ++ (if inB lo hi a then [blank1 a] else []) := by
  rw [take_snoc h]
  unfold blanks
  rw [List.filter_append, List.map_append]
  by_cases hb : inB lo hi a = true
  · rw [if_pos hb]; simp [hb]
  · rw [if_neg hb]; simp [hb]
theorem blanks_len (us : List Int) (lo hi : Int) : (blanks us lo hi).length ≤ us.length := by
  unfold blanks
  rw [List.length_map]
  exact List.length_filter_le _ _
theorem blanks_add (us : List Int) (lo hi : Int) (j : Nat) : ∃ l, blanks us lo hi = blanks (us.take j) lo hi ++ l := by
  refine ⟨blanks (us.drop j) lo hi, ?_⟩
  unfold blanks
  rw [← List.map_append, ← List.filter_append, List.take_append_drop]
theorem used_mem {d : Dk} {m : Nat} (h : d.Ok m) {a : Int} (ha : a ∈ used d) : 0 ≤ a ∧ a < 65536 := by
  rcases (used_uses d).2 a |>.1 ha with ⟨p, hp, rfl⟩ | ⟨p, hp, rfl⟩
  · exact isS_iff.1 (h.P.at_ p hp)
  · exact isS_iff.1 (h.C.at_ p hp)
theorem go_take (d : Dk) (l : List Wr) (k : Nat) (x : Wr) (hx : l[k]? = some x) (h : (d.go (l.take k)).1 = 0) : d.go (l.take (k + 1)) = (d.go (l.take k)).2.op x := by
  rw [take_snoc hx, go_done h, go_one]
theorem go_stop (d : Dk) (l : List Wr) (k : Nat) (h : (d.go (l.take k)).1 ≠ 0) : d.go l = d.go (l.take k) := by
  have := go_fail h (l.drop k)
  rwa [List.take_append_drop] at this
theorem chunks_get (p : Int) (s : ByteArray) {k m : Nat} (h : k < m) : (chunks p s m)[k]? = some (chunk p s k) := by
  unfold chunks
  rw [List.getElem?_map, List.getElem?_range h]; rfl
theorem chunks_take (p : Int) (s : ByteArray) {k m : Nat} (h : k ≤ m) : (chunks p s m).take k = chunks p s k := by
  obtain ⟨l, hl⟩ := chunks_add p s k m h
  rw [hl, List.take_append_of_le_length (by rw [chunks_len]; omega), List.take_of_length_le (by rw [chunks_len]; omega)]
theorem ext_ext (s : ByteArray) (k n : Nat) (h : k ≤ s.size) : (s.extract k s.size).extract 0 n = s.extract k (k + n) := by
  apply bytes_ext
  have : s.size = s.data.toList.length := by rw [Array.length_toList]; rfl
  simp only [ByteArray.data_extract, Array.toList_extract, List.extract_eq_take_drop, List.drop_zero, Nat.sub_zero]
  rw [List.take_of_length_le (i := s.size - k) (by rw [List.length_drop]; omega)]
  congr 1; omega
theorem ext_tail (s : ByteArray) (k n : Nat) (h : k + n ≤ s.size) : (s.extract k s.size).extract n (s.extract k s.size).size = s.extract (k + n) s.size := by
  apply bytes_ext
  have : s.size = s.data.toList.length := by rw [Array.length_toList]; rfl
  simp only [ByteArray.data_extract, Array.toList_extract, List.extract_eq_take_drop, ByteArray.size_extract]
  rw [List.take_of_length_le (i := s.size - k) (by rw [List.length_drop]; omega), List.take_of_length_le (by rw [List.length_drop, List.length_drop]; omega), List.take_of_length_le (by rw [List.length_drop]; omega), List.drop_drop]
theorem ext_next (s : ByteArray) (k : Nat) (h : k ≤ s.size) : (s.extract k s.size).extract (min (s.size - k) 512) (s.size - k) = s.extract (k + 512) s.size := by
  apply bytes_ext
  have : s.size = s.data.toList.length := by rw [Array.length_toList]; rfl
  simp only [ByteArray.data_extract, Array.toList_extract, List.extract_eq_take_drop]
  rw [List.take_of_length_le (i := s.size - k) (by rw [List.length_drop]; omega), List.take_of_length_le (by rw [List.length_drop, List.length_drop]; omega), List.take_of_length_le (by rw [List.length_drop]; omega), List.drop_drop]
  by_cases h2 : 512 ≤ s.size - k
  · rw [Nat.min_eq_right h2]
  · rw [List.drop_of_length_le (by omega), List.drop_of_length_le (by omega)]
set_option maxRecDepth 100000 in
set_option maxHeartbeats 2000000 in
theorem text_c (g gm : Nat) (v : Value) (d : Dk) (m : Nat) (p : Int) (s : ByteArray) (w : World) (h : Dsk w g gm v d) (hd : d.Ok m) (hm : m ≤ 400000) (hp : 0 ≤ p) (hp2 : p ≤ 32768) (hs : s.size ≤ roomN) :
    Calls Try.prog 77 #[.int .i64 p, .pointer (some ⟨g, 0, none⟩), .string s] w fun e w' => ∃ v', e = .returned (.int .i64 (d.text p s).1) ∧ Dsk w' g gm v' (d.text p s).2 ∧ Then w v v' ∧ Tch w w' g gm v := by
  have hsec : secs_of s.size ≤ 32767 := by unfold secs_of; unfold roomN at hs; omega
  have hs1 : s.size ≤ 512 * secs_of s.size := by unfold secs_of; omega
  have hs2 : 512 * secs_of s.size < s.size + 512 := by unfold secs_of; omega
  have hs3 : s.size ≤ 16776704 := hs
  have HQ := hid (sectors_of s.size w (by omega))
  have HT := hid (show d.text p s = if (d.go (chunks p s (secs_of s.size))).1 = 0 then (d.go (chunks p s (secs_of s.size))).2.go (blanks (used (d.go (chunks p s (secs_of s.size))).2) (p + 1 + secs_of s.size) (p + 32768)) else d.go (chunks p s (secs_of s.size)) from rfl)
  have HD := hid hd
  clear hd hs
  generalize d.text p s = R at *
  go_enter Try.func77, Try.ntmps77
  go_wp2_with (fail)
  refine HQ.out.mono ?_
  rintro e _ ⟨rfl, rfl⟩
  clear HQ
  obtain ⟨n, hn⟩ : ∃ n, secs_of s.size = n := ⟨_, rfl⟩
  rw [hn] at HT hsec hs1 hs2 ⊢
  clear hn
  go_wp2_with (fail)
  go_loopw [2, 8] (fun sv at_ wr => ∃ (k : Nat) (v' : Value), k ≤ n ∧ sv = .string (s.extract (512 * k) s.size) ∧ at_ = .int .i64 (p + 1 + k) ∧ (d.go (chunks p s k)).1 = 0 ∧ Dsk wr g gm v' (d.go (chunks p s k)).2 ∧ Then w v v' ∧ Tch w wr g gm v) (fun _ at_ _ => (p + 1 + n - intOf at_).toNat)
  case atStart => exact ⟨0, v, by omega, by congr 1; apply bytes_ext; simp [ByteArray.data_extract], by congr 1; omega, rfl, h, Then.refl, Tch.refl⟩
  case round =>
    obtain ⟨k, v', hk, rfl, rfl, h0, hDr, hTh, hTc⟩ := hrel
    clear h
    by_cases hlt : k < n
    · have hok := (HD.out.go (l := chunks p s k))
      rw [chunks_len] at hok
      have hsz : (s.extract (512 * k) s.size).size = s.size - 512 * k := by rw [ByteArray.size_extract]; omega
      have HX := hid (show (s.extract (512 * k) s.size).extract 0 (min (s.size - 512 * k) 512) = s.extract (512 * k) (512 * k + 512) by
        rw [ext_ext s _ _ (by omega)]
        by_cases h2 : 512 ≤ s.size - 512 * k
        · rw [Nat.min_eq_right h2]
        · rw [Nat.min_eq_left (by omega)]
          apply bytes_ext
          have : s.size = s.data.toList.length := by rw [Array.length_toList]; rfl
          simp only [ByteArray.data_extract, Array.toList_extract, List.extract_eq_take_drop]
          rw [List.take_of_length_le (by rw [List.length_drop]; omega), List.take_of_length_le (by rw [List.length_drop]; omega)])
      have HZ := hid hsz
      have HY := hid (show (min ((s.size - 512 * k : Nat) : Int) 512).toNat = min (s.size - 512 * k) 512 by omega)
      have HW := hid (ext_next s (512 * k) (by omega))
      clear hsz
      go_wp2_with (fail)
      rw [HY.out, HX.out]
      have HC := hid (write_c g gm v' (d.go (chunks p s k)).2 (m + k) (p + 1 + k) (s.extract (512 * k) (512 * k + 512)) wr hDr hok (by omega) ⟨by omega, by omega⟩ (by rw [ByteArray.size_extract]; omega))
      have HG := hid (go_take d (chunks p s n) k (chunk p s k) (chunks_get p s hlt) (by rw [chunks_take p s hk]; exact h0))
      rw [chunks_take p s hk, chunks_take p s (show k + 1 ≤ n by omega)] at HG
      have HF := hid (go_stop d (chunks p s n) (k + 1))
      rw [chunks_take p s (show k + 1 ≤ n by omega)] at HF
      refine HC.out.mono ?_
      rintro e w2 ⟨v2, rfl, hD2, hTh2, hTc2⟩
      clear HC hok hDr
      have hD3 : Dsk w2 g gm v2 (d.go (chunks p s (k + 1))).2 := by rw [HG.out]; exact hD2
      have hE : (d.go (chunks p s (k + 1))).1 = (d.go (chunks p s k)).2.writeE (p + 1 + k) (s.extract (512 * k) (512 * k + 512)) := by rw [HG.out]; rfl
      rw [← hE]
      have hT3 := hTh.trans hTc.size hTh2
      have hC3 := hTc.trans hTh hTc2
      clear hD2 hE HG h0 hTh hTc hTh2 hTc2
      by_cases hz : (d.go (chunks p s (k + 1))).1 = 0
      · have hz1 : ((d.go (chunks p s (k + 1))).1 != 0) = false := by simpa using hz
        go_wp2
        go_roundw
        case rel => exact ⟨k + 1, v2, by omega, by rw [HY.out, HZ.out] at *; exact congrArg _ HW.out, by congr 1; omega, hz, hD3, hT3, hC3⟩
        case measure => simp [intOf]; omega
      · have hz1 : ((d.go (chunks p s (k + 1))).1 != 0) = true := by simpa using hz
        have HR := hid (show R = d.go (chunks p s (k + 1)) by rw [HT.out, HF.out hz, if_neg hz])
        clear hz
        go_wp2
        go_ret
        exact ⟨v2, by rw [HR.out]; rfl, by rw [HR.out]; exact hD3, hT3, hC3⟩
    · obtain rfl : k = n := by omega
      have hok := (HD.out.go (l := chunks p s k))
      rw [chunks_len] at hok
      have HR := hid (HT.out.trans (if_pos h0))
      clear HT h0
      obtain ⟨D1, hD1⟩ : ∃ D, (d.go (chunks p s k)).2 = D := ⟨_, rfl⟩
      rw [hD1] at hDr hok HR
      clear hD1
      have HU := hid (used_c g gm v' D1 (m + k) wr hDr hok (by omega))
      have HK := hid hok
      have hul := used_len D1
      have hkl := hok.len
      go_wp2_with (fail)
      refine HU.out.mono ?_
      rintro e w2 ⟨vu, us, rfl, hus, hOwn, hb2⟩
      obtain rfl := uses_eq hus (used_uses D1)
      clear hus HU hok
      have hD2 := hDr.below hb2
      have hTc2 := hTc.next hb2
      obtain ⟨A, cap, rfl⟩ := hOwn.form
      have HO := hid hOwn
      clear hOwn
      obtain ⟨us, hus⟩ : ∃ u, used D1 = u := ⟨_, rfl⟩
      have HM := hid (fun a (ha : a ∈ used D1) => used_mem HK.out ha)
      rw [hus] at HO HR HM hul ⊢
      clear hus hDr hTc
      go_wp2_with (fail)
      generalize wr = wo at *
      go_loopw [45] (fun i wz => ∃ (j : Nat) (v2 : Value), j ≤ us.length ∧ i = .int .i64 (j : Int) ∧ (D1.go (blanks (us.take j) (p + 1 + k) (p + 32768))).1 = 0 ∧ Dsk wz g gm v2 (D1.go (blanks (us.take j) (p + 1 + k) (p + 32768))).2 ∧ Then w2 v' v2 ∧ Tch w2 wz g gm v') (fun i _ => us.length - (intOf i).toNat)
      case atStart => exact ⟨0, v', by omega, rfl, rfl, hD2, Then.refl, Tch.refl⟩
      case round =>
        obtain ⟨j, v2, hj, rfl, hj0, hDz, hThz, hTcz⟩ := hrel
        have hOz : OwnI wr wo.heap.size (.slice A us.length cap) us := ownsRow_tch HO.out hD2 hTcz (by decide) (by decide)
        by_cases hlt : j < us.length
        · obtain ⟨a, ha⟩ := get_of_lt hlt
          obtain ⟨A', cap', e1, hcells⟩ := hOz.cellsI
          obtain ⟨rfl, _, rfl⟩ : A = A' ∧ us.length = us.length ∧ cap = cap' := by simpa using e1
          obtain ⟨b, off, rfl, hc⟩ := Cells.at_map hcells ha
          obtain ⟨ha0, ha1⟩ := HM.out a (List.mem_of_getElem? ha)
          have HB := hid (blanks_succ ha (p + 1 + k) (p + 32768))
          clear hcells ha hOz e1
          by_cases hin : inB (p + 1 + k) (p + 32768) a = true
          · rw [hin, if_pos rfl] at HB
            obtain ⟨h1, h2⟩ : p + 1 + k ≤ a ∧ a < p + 32768 := by simpa [inB] using hin
            have hok2 := HK.out.go (l := blanks (us.take j) (p + 1 + k) (p + 32768))
            have hbl := blanks_len (us.take j) (p + 1 + k) (p + 32768)
            have htl := List.length_take_le' j us
            have HC := hid (write_c g gm v2 (D1.go (blanks (us.take j) (p + 1 + k) (p + 32768))).2 _ a ⟨#[]⟩ wr hDz hok2 (by omega) ⟨by omega, by omega⟩ (by decide))
            have HG := hid (show D1.go (blanks (us.take (j + 1)) (p + 1 + k) (p + 32768)) = (D1.go (blanks (us.take j) (p + 1 + k) (p + 32768))).2.op (blank1 a) by rw [HB.out, go_done hj0, go_one])
            have HF := hid (show (D1.go (blanks (us.take (j + 1)) (p + 1 + k) (p + 32768))).1 ≠ 0 → D1.go (blanks us (p + 1 + k) (p + 32768)) = D1.go (blanks (us.take (j + 1)) (p + 1 + k) (p + 32768)) by
              intro hne
              obtain ⟨l, hl⟩ := blanks_add us (p + 1 + k) (p + 32768) (j + 1)
              rw [hl, go_fail hne])
            clear hok2 hbl htl hin HB
            go_wp2_with (fail)
            refine HC.out.mono ?_
            rintro e w3 ⟨v3, rfl, hD3, hTh3, hTc3⟩
            have hD4 : Dsk w3 g gm v3 (D1.go (blanks (us.take (j + 1)) (p + 1 + k) (p + 32768))).2 := by rw [HG.out]; exact hD3
            have hE : (D1.go (blanks (us.take (j + 1)) (p + 1 + k) (p + 32768))).1 = (D1.go (blanks (us.take j) (p + 1 + k) (p + 32768))).2.writeE a ⟨#[]⟩ := by rw [HG.out]; rfl
            rw [← hE]
            have hT5 := hThz.trans hTcz.size hTh3
            have hC5 := hTcz.trans hThz hTc3
            clear hD3 hE HG hj0 hThz hTcz hTh3 hTc3 HC hDz
            by_cases hz : (D1.go (blanks (us.take (j + 1)) (p + 1 + k) (p + 32768))).1 = 0
            · have hz1 : ((D1.go (blanks (us.take (j + 1)) (p + 1 + k) (p + 32768))).1 != 0) = false := by simpa using hz
              go_wp2
              go_roundw
              case rel => exact ⟨j + 1, v3, by omega, by go_num, hz, hD4, hT5, hC5⟩
              case measure => simp [intOf]; omega
            · have hz1 : ((D1.go (blanks (us.take (j + 1)) (p + 1 + k) (p + 32768))).1 != 0) = true := by simpa using hz
              have HX := hid (show R = D1.go (blanks (us.take (j + 1)) (p + 1 + k) (p + 32768)) by rw [HR.out, HF.out hz])
              clear hz
              go_wp2
              go_ret
              exact ⟨v3, by rw [HX.out]; rfl, by rw [HX.out]; exact hD4, (hTh.trans hTc2.size hT5), hTc2.trans hTh hC5⟩
          · rw [if_neg hin, List.append_nil] at HB
            have hno : ¬ (p + 1 + k ≤ a ∧ a < p + 32768) := by simpa [inB] using hin
            clear hin
            have hj1 : (D1.go (blanks (us.take (j + 1)) (p + 1 + k) (p + 32768))).1 = 0 := by rw [HB.out]; exact hj0
            have hD4 : Dsk wr g gm v2 (D1.go (blanks (us.take (j + 1)) (p + 1 + k) (p + 32768))).2 := by rw [HB.out]; exact hDz
            by_cases hlo : a < p + 1 + k
            · go_wp2
              go_roundw
              case rel => exact ⟨j + 1, v2, by omega, by go_num, hj1, hD4, hThz, hTcz⟩
              case measure => simp [intOf]; omega
            · have hhi : p + 32768 ≤ a := by omega
              go_wp2
              go_roundw
              case rel => exact ⟨j + 1, v2, by omega, by go_num, hj1, hD4, hThz, hTcz⟩
              case measure => simp [intOf]; omega
        · obtain rfl : j = us.length := by omega
          rw [List.take_length] at hj0 hDz
          clear hOz
          have HX := hid hj0
          clear hj0
          go_wp2
          go_ret
          exact ⟨v2, by rw [HR.out, HX.out]; rfl, by rw [HR.out]; exact hDz, hTh.trans hTc2.size hThz, hTc2.trans hTh hTcz⟩
end Go.Proofs.Ythllhnjbddpeoaa
end

section
namespace Go.Proofs.Ythllhnjbddpeoaa
open Go Go.RowKit Go.Maps Go.Shelf Go.Proofs

/-- the boxes of a disk's address and of a place. -/
structure Bx (w : World) (bd bp g : Nat) (p : Int) : Prop where
  d : Row1 w bd 25 [.pointer (some ⟨g, 0, none⟩)]
  p : Row1 w bp 100 [.int .i64 p]
theorem Bx.below {w w' : World} {bd bp g : Nat} {p : Int} (h : Bx w bd bp g p) (hb : Below w.heap.size w w') : Bx w' bd bp g p := ⟨h.d.below hb, h.p.below hb⟩
theorem Bx.tch {w w' : World} {bd bp g g2 gm : Nat} {p : Int} {v : Value} {d : Dk} (h : Bx w bd bp g p) (hD : Dsk w g2 gm v d) (hT : Tch w w' g2 gm v) : Bx w' bd bp g p := ⟨row1_tch h.d hD hT (by decide) (by decide), row1_tch h.p hD hT (by decide) (by decide)⟩
abbrev hdV (bd bp bs : Nat) : Value := .func (.func 75) #[] #[.pointer (some ⟨bd, 0, none⟩), .pointer (some ⟨bp, 0, none⟩), .pointer (some ⟨bs, 0, none⟩)]
theorem hdmk_c (s : ByteArray) (bd bp : Nat) (w : World) :
    Calls Try.prog 74 #[.string s, .pointer (some ⟨bd, 0, none⟩), .pointer (some ⟨bp, 0, none⟩)] w fun e w' => e = .returned (hdV bd bp w.heap.size) ∧ Row1 w' w.heap.size 9 [.string s] ∧ Below w.heap.size w w' := by
  have hmf : ∀ (fn : Fn) (first cap : Array Value) (w : World), (Instr.makeFunc fn first cap).run Try.prog w = .ok (.func fn first cap) w := fun _ _ _ _ => rfl
  have hr := row1_new w [.string s] 9
  have hb := below_alloc w (.cells #[.string s] 9)
  go_enter Try.func74, Try.ntmps74
  go_wp2
  go_ret
  exact ⟨rfl, hr, hb⟩
theorem hdfn_c (g gm bd bp bs : Nat) (v : Value) (d : Dk) (m : Nat) (p : Int) (s : ByteArray) (w : World) (h : Dsk w g gm v d) (hd : d.Ok m) (hm : m ≤ 1000000) (hp : I64 p) (hs : s.size ≤ 9223372036854775807) (hB : Bx w bd bp g p) (hS : Row1 w bs 9 [.string s]) :
    Calls Try.prog 75 #[.pointer (some ⟨bd, 0, none⟩), .pointer (some ⟨bp, 0, none⟩), .pointer (some ⟨bs, 0, none⟩)] w fun e w' => ∃ v', e = .returned (.int .i64 (d.op (.put p s)).1) ∧ Dsk w' g gm v' (d.op (.put p s)).2 ∧ Then w v v' ∧ Tch w w' g gm v := by
  have HC := hid (write_c g gm v d m p s w h hd hm hp hs)
  have c0 := hB.d.cell (k := 0) rfl
  have c1 := hB.p.cell (k := 0) rfl
  have c2 := hS.cell (k := 0) rfl
  clear h hd hm hp hs hB hS
  go_enter Try.func75, Try.ntmps75
  go_wp2_with (fail)
  refine HC.out.mono ?_
  rintro e w2 ⟨v', rfl, hD, hTh, hT⟩
  go_wp2
  go_ret
  exact ⟨v', rfl, hD, hTh, hT⟩
theorem txfn_c (g gm bd bp bs : Nat) (v : Value) (d : Dk) (m : Nat) (p : Int) (s : ByteArray) (w : World) (h : Dsk w g gm v d) (hd : d.Ok m) (hm : m ≤ 400000) (hp : 0 ≤ p) (hp2 : p ≤ 32768) (hs : s.size ≤ roomN) (hB : Bx w bd bp g p) (hS : Row1 w bs 9 [.string s]) :
    Calls Try.prog 76 #[.pointer (some ⟨bp, 0, none⟩), .pointer (some ⟨bd, 0, none⟩), .pointer (some ⟨bs, 0, none⟩)] w fun e w' => ∃ v', e = .returned (.int .i64 (d.text p s).1) ∧ Dsk w' g gm v' (d.text p s).2 ∧ Then w v v' ∧ Tch w w' g gm v := by
  have HC := hid (text_c g gm v d m p s w h hd hm hp hp2 hs)
  have c0 := hB.d.cell (k := 0) rfl
  have c1 := hB.p.cell (k := 0) rfl
  have c2 := hS.cell (k := 0) rfl
  clear h hd hm hp hp2 hs hB hS
  go_enter Try.func76, Try.ntmps76
  go_wp2_with (fail)
  refine HC.out.mono ?_
  rintro e w2 ⟨v', rfl, hD, hTh, hT⟩
  go_wp2
  go_ret
  exact ⟨v', rfl, hD, hTh, hT⟩
end Go.Proofs.Ythllhnjbddpeoaa
end
