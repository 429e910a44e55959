/-
  Layer 9's reader: need, take.
  Layer 9's reader: a number.
  Layer 9's reader: a counted number, of most at most.
  Layer 9's reader: a read of one thing.
  Numbers as bytes, and heads, plainly.
  Layer 9's reader: read, Count, Open, Wrong.
  Layer 9's reader: Count, Open, Wrong; a place's head.
  A place's head; the newest place.
-/
import Derived.Test.YthllhnjbddpeoaaDkW
import Derived.Defers
import Derived.Recover
import Derived.Laws.IdiomStrings
import Derived.Test.YthllhnjbddpeoaaDkX

section
namespace Go.Proofs.Ythllhnjbddpeoaa
open Go Go.RowKit Go.Maps Go.Shelf Go.Proofs

/-- what is thrown. -/
abbrev lackV (e : Int) : Value := .iface 173 (.agg #[.int .i64 e])
abbrev lackC (e : Int) : List PanicEntry := [{ v := lackV e, recovered := false }]
theorem need_yes (e : Int) (w : World) : Calls Try.prog 126 #[.bool true, .int .i64 e] w fun en w' => en = .returned (.tuple #[]) ∧ w = w' := by
  go_enter Try.func126, Try.ntmps126
  go_wp2
  go_end0
  exact ⟨rfl, rfl⟩
theorem need_no (e : Int) (w : World) : Calls Try.prog 126 #[.bool false, .int .i64 e] w fun en w' => en = .panicked (lackC e) ∧ w = w' := by
  go_enter Try.func126, Try.ntmps126
  go_wp2
  exact ⟨rfl, rfl, rfl⟩
theorem take_c (g : Nat) (s : ByteArray) (n : Nat) (w : World) (h : Row1 w g 171 [.string s]) (hn : n ≤ s.size) :
    Calls Try.prog 130 #[.pointer (some ⟨g, 0, none⟩), .int .i64 (n : Int)] w fun e w' => e = .returned (.string (s.extract 0 n)) ∧ w' = w.setCell ⟨g, 0, none⟩ (.string (s.extract n s.size)) := by
  have c0 := h.cell (k := 0) rfl
  have f0 := h.frozen 0
  have HN := hid (need_yes 8)
  go_enter Try.func130, Try.ntmps130
  go_wp2_with (fail)
  refine (HN.out w).mono ?_
  rintro e _ ⟨rfl, rfl⟩
  go_wp2
  go_ret
  exact ⟨rfl, rfl⟩
set_option maxRecDepth 100000 in
theorem take_no (g : Nat) (s : ByteArray) (n : Nat) (w : World) (h : Row1 w g 171 [.string s]) (hn : s.size < n) :
    Calls Try.prog 130 #[.pointer (some ⟨g, 0, none⟩), .int .i64 (n : Int)] w fun e w' => e = .panicked (lackC 8) ∧ w = w' := by
  have c0 := h.cell (k := 0) rfl
  have f0 := h.frozen 0
  have HN := hid (need_no 8)
  go_enter Try.func130, Try.ntmps130
  go_wp2_with (fail)
  rw [show decide (n ≤ s.size) = false from decide_eq_false (by omega)]
  refine (HN.out w).mono ?_
  rintro e _ ⟨rfl, rfl⟩
  exact ⟨rfl, rfl, rfl⟩
end Go.Proofs.Ythllhnjbddpeoaa
end

section
namespace Go.Proofs.Ythllhnjbddpeoaa
open Go Go.RowKit Go.Maps Go.Shelf Go.Proofs

/-- the number that bytes are, the highest first. -/
def numB (l : List UInt8) : Nat := l.foldl (fun n b => n * 256 + b.toNat) 0
theorem numB_snoc (l : List UInt8) (b : UInt8) : numB (l ++ [b]) = numB l * 256 + b.toNat := by simp [numB]
theorem numB_lt (l : List UInt8) : numB l < 256 ^ l.length := by
  have key : ∀ (l : List UInt8) (n : Nat), l.foldl (fun n b => n * 256 + b.toNat) n < (n + 1) * 256 ^ l.length := by
    intro l
    induction l with
    | nil => intro n; simp
    | cons b l ih =>
      intro n
      have h1 := ih (n * 256 + b.toNat)
      have h2 : b.toNat < 256 := b.toNat_lt
      rw [List.foldl_cons, List.length_cons, Nat.pow_succ]
      refine Nat.lt_of_lt_of_le h1 ?_
      have : (n * 256 + b.toNat + 1) ≤ (n + 1) * 256 := by omega
      calc (n * 256 + b.toNat + 1) * 256 ^ l.length ≤ ((n + 1) * 256) * 256 ^ l.length := Nat.mul_le_mul_right _ this
        _ = (n + 1) * (256 ^ l.length * 256) := by rw [Nat.mul_assoc, Nat.mul_comm 256]
  have := key l 0
  unfold numB
  omega
theorem or_byte (n b : Nat) (hb : b < 256) : n * 256 ||| b = n * 256 + b := by
  have := Nat.shiftLeft_add_eq_or_of_lt (i := 8) (b := b) (by simpa using hb) n
  rw [Nat.shiftLeft_eq] at this
  exact this.symm
set_option maxRecDepth 100000 in
theorem bits_or_byte (n b : Nat) (hn : n * 256 + b < 18446744073709551616) (hb : b < 256) : bits .or .u64 ((n : Int) * 256) (b : Int) = ((n * 256 + b : Nat) : Int) := by
  have h64 : (2 : Nat) ^ 64 = 18446744073709551616 := by decide +kernel
  have h1 : (n : Int) * 256 = ((n * 256 : Nat) : Int) := by omega
  rw [h1]
  show IntKind.u64.wrap (((BitVec.ofInt 64 ((n * 256 : Nat) : Int) ||| BitVec.ofInt 64 (b : Int)).toNat : Nat) : Int) = _
  rw [BitVec.toNat_or, BitVec.ofInt_natCast, BitVec.ofInt_natCast, BitVec.toNat_ofNat, BitVec.toNat_ofNat, h64, Nat.mod_eq_of_lt (show n * 256 < 18446744073709551616 by omega), Nat.mod_eq_of_lt (show b < 18446744073709551616 by omega), or_byte n b hb]
  have h3 : IntKind.u64.wrap ((n * 256 + b : Nat) : Int) = ((n * 256 + b : Nat) : Int) % 18446744073709551616 := by simp [IntKind.wrap, IntKind.bits, IntKind.signed]
  rw [h3]
  omega
theorem conv_bytes (w : World) (s : ByteArray) : ∃ W cap, (convert 9 64 (.string s)).run Try.prog w = .ok (.slice (some ⟨w.heap.size, 0, none⟩) s.size cap) W ∧ Below w.heap.size w W ∧ ∀ j (hj : j < s.data.size), W.cell? ⟨w.heap.size, j, none⟩ = some (.int .u8 (s.data[j].toNat : Int)) := by
  refine ⟨_, _, run_bytes_of_string (P := Try.prog) w 9 64 5 s Try.underlying9 Try.underlying64 Try.underlying5, (below_dr (Below.refl _ _) ⟨1, rfl⟩).alloc (Nat.le_refl _) _, fun j hj => ?_⟩
  exact (World.cell?_alloc_mark w.drew _ _ _ j).trans (bytesRow_at s (grownCap w s.size 0 5) j hj)
set_option maxRecDepth 100000 in
theorem number_c (g : Nat) (s : ByteArray) (w : World) (h : Row1 w g 171 [.string s]) (hn : 8 ≤ s.size) :
    Calls Try.prog 125 #[.pointer (some ⟨g, 0, none⟩), .int .i64 8] w fun e w' => e = .returned (.int .u64 (numB (s.data.toList.take 8))) ∧ Below w.heap.size (w.setCell ⟨g, 0, none⟩ (.string (s.extract 8 s.size))) w' := by
  have HT := hid (take_c g s 8 w h hn)
  obtain ⟨W, cap, hcv, hB, hc⟩ := conv_bytes (w.setCell ⟨g, 0, none⟩ (.string (s.extract 8 s.size))) (s.extract 0 8)
  go_enter Try.func125, Try.ntmps125
  go_wp2_with (fail)
  refine HT.out.mono ?_
  rintro e w2 ⟨rfl, rfl⟩
  have hsz : (s.extract 0 8).size = 8 := by rw [ByteArray.size_extract]; omega
  have hL : ∀ j (hj : j < 8), ∃ b : UInt8, W.cell? ⟨(w.setCell ⟨g, 0, none⟩ (.string (s.extract 8 s.size))).heap.size, j, none⟩ = some (.int .u8 (b.toNat : Int)) ∧ (s.data.toList.take 8)[j]? = some b := fun j hj => by
    have hj2 : j < (s.extract 0 8).data.size := by have : (s.extract 0 8).data.size = 8 := hsz; omega
    exact ⟨_, hc j hj2, by rw [List.getElem?_take_of_lt hj]; simp [ByteArray.data_extract]⟩
  have HL := hid hL
  rw [hsz] at hcv
  have hW : (w.setCell ⟨g, 0, none⟩ (.string (s.extract 8 s.size))).heap.size = w.heap.size := by simp
  rw [hW] at hcv HL hB
  clear hc hsz hL hW
  go_wp2
  go_loopw [5, 13] (fun nv i wr => ∃ k : Nat, i = .int .i64 k ∧ k ≤ 8 ∧ nv = .int .u64 (numB ((s.data.toList.take 8).take k)) ∧ W = wr) (fun _ i _ => 8 - (intOf i).toNat)
  case atStart => exact ⟨0, rfl, by omega, rfl, rfl⟩
  case round =>
    obtain ⟨k, rfl, hk, rfl, rfl⟩ := hrel
    by_cases hlt : k < 8
    · obtain ⟨b, q, hb⟩ := HL.out k hlt
      have hlt56 := numB_lt ((s.data.toList.take 8).take k)
      have hbn := b.toNat_lt
      have HN := hid (show numB ((s.data.toList.take 8).take (k + 1)) = numB ((s.data.toList.take 8).take k) * 256 + b.toNat by rw [take_snoc hb, numB_snoc])
      have hk8 : numB ((s.data.toList.take 8).take k) < 256 ^ 7 := Nat.lt_of_lt_of_le hlt56 (Nat.pow_le_pow_right (by omega) (by rw [List.length_take]; omega))
      have h7 : (256 : Nat) ^ 7 = 72057594037927936 := by decide +kernel
      rw [h7] at hk8
      have HB := hid (bits_or_byte (numB ((s.data.toList.take 8).take k)) b.toNat (by omega) (by omega))
      clear hlt56 h7
      go_wp2
      go_roundw
      case rel => exact ⟨k + 1, by go_num, by omega, by rw [HN.out, HB.out], trivial⟩
      case measure => simp [intOf]; omega
    · obtain rfl : k = 8 := by omega
      rw [List.take_take, Nat.min_self]
      go_wp2
      go_ret
      exact ⟨rfl, hB⟩
end Go.Proofs.Ythllhnjbddpeoaa
end

section
namespace Go.Proofs.Ythllhnjbddpeoaa
open Go Go.RowKit Go.Maps Go.Shelf Go.Proofs

set_option maxRecDepth 100000 in
theorem count1_yes (g gq : Nat) (s : ByteArray) (m : Nat) (w : World) (h : Row1 w g 171 [.string s]) (hq : w.cell? ⟨gq, 0, none⟩ = some (.int .i64 m)) (hne : gq ≠ g) (hql : gq < w.heap.size) (hn : 8 ≤ s.size) (hm : m ≤ 9223372036854775807) (hle : numB (s.data.toList.take 8) ≤ m) :
    Calls Try.prog 124 #[.pointer (some ⟨g, 0, none⟩), .pointer (some ⟨gq, 0, none⟩)] w fun e w' => e = .returned (.int .i64 (numB (s.data.toList.take 8))) ∧ Below w.heap.size (w.setCell ⟨g, 0, none⟩ (.string (s.extract 8 s.size))) w' := by
  have HC := hid (number_c g s w h hn)
  have HN := hid (need_yes 4)
  generalize numB (s.data.toList.take 8) = v at *
  go_enter Try.func124, Try.ntmps124
  go_wp2_with (fail)
  refine HC.out.mono ?_
  rintro e w2 ⟨rfl, hb⟩
  have hq2 : w2.cell? ⟨gq, 0, none⟩ = some (.int .i64 m) := by
    have e1 := hb.block gq hql
    have e2 := Below.heap_setCell w ⟨g, 0, none⟩ (.string (s.extract 8 s.size)) gq hne
    unfold World.cell? at hq ⊢
    simp only at hq ⊢
    rw [e1, e2]
    exact hq
  go_wp2_with (fail)
  refine (HN.out w2).mono ?_
  rintro e _ ⟨rfl, rfl⟩
  go_wp2
  go_ret
  exact ⟨rfl, hb⟩
set_option maxRecDepth 100000 in
theorem count1_no (g gq : Nat) (s : ByteArray) (m : Nat) (w : World) (h : Row1 w g 171 [.string s]) (hq : w.cell? ⟨gq, 0, none⟩ = some (.int .i64 m)) (hne : gq ≠ g) (hql : gq < w.heap.size) (hn : 8 ≤ s.size) (hm : m ≤ 9223372036854775807) (hle : m < numB (s.data.toList.take 8)) :
    Calls Try.prog 124 #[.pointer (some ⟨g, 0, none⟩), .pointer (some ⟨gq, 0, none⟩)] w fun e w' => e = .panicked (lackC 4) ∧ Below w.heap.size (w.setCell ⟨g, 0, none⟩ (.string (s.extract 8 s.size))) w' := by
  have HC := hid (number_c g s w h hn)
  have HN := hid (need_no 4)
  generalize numB (s.data.toList.take 8) = v at *
  go_enter Try.func124, Try.ntmps124
  go_wp2_with (fail)
  refine HC.out.mono ?_
  rintro e w2 ⟨rfl, hb⟩
  have hq2 : w2.cell? ⟨gq, 0, none⟩ = some (.int .i64 m) := by
    have e1 := hb.block gq hql
    have e2 := Below.heap_setCell w ⟨g, 0, none⟩ (.string (s.extract 8 s.size)) gq hne
    unfold World.cell? at hq ⊢
    simp only at hq ⊢
    rw [e1, e2]
    exact hq
  go_wp2_with (fail)
  rw [show decide (v ≤ m) = false from decide_eq_false (by omega)]
  refine (HN.out w2).mono ?_
  rintro e _ ⟨rfl, rfl⟩
  exact ⟨rfl, rfl, hb⟩
set_option maxRecDepth 100000 in
theorem number_no (g : Nat) (s : ByteArray) (w : World) (h : Row1 w g 171 [.string s]) (hn : s.size < 8) :
    Calls Try.prog 125 #[.pointer (some ⟨g, 0, none⟩), .int .i64 8] w fun e w' => e = .panicked (lackC 8) ∧ w = w' := by
  have HT := hid (take_no g s 8 w h hn)
  go_enter Try.func125, Try.ntmps125
  go_wp2_with (fail)
  refine HT.out.mono ?_
  rintro e _ ⟨rfl, rfl⟩
  exact ⟨rfl, rfl, rfl⟩
theorem count1_short (g gq : Nat) (s : ByteArray) (w : World) (h : Row1 w g 171 [.string s]) (hn : s.size < 8) :
    Calls Try.prog 124 #[.pointer (some ⟨g, 0, none⟩), .pointer (some ⟨gq, 0, none⟩)] w fun e w' => e = .panicked (lackC 8) ∧ w = w' := by
  have HC := hid (number_no g s w h hn)
  go_enter Try.func124, Try.ntmps124
  go_wp2_with (fail)
  refine HC.out.mono ?_
  rintro e _ ⟨rfl, rfl⟩
  exact ⟨rfl, rfl, rfl⟩
end Go.Proofs.Ythllhnjbddpeoaa
end

section
namespace Go.Proofs.Ythllhnjbddpeoaa
open Go Go.RowKit Go.Maps Go.Shelf Go.Proofs

set_option maxRecDepth 100000 in
theorem read1_idle (bp br bx be gp gr : Nat) (s t : ByteArray) (er : Int) (w : World) (h1 : Row1 w bp 162 [.pointer (some ⟨gp, 0, none⟩)]) (h2 : Row1 w br 142 [.pointer (some ⟨gr, 0, none⟩)]) (h3 : Row1 w gp 171 [.string s]) (h4 : Row1 w gr 160 [.string t, .int .i64 er]) :
    CallsD Try.prog 129 #[.pointer (some ⟨bp, 0, none⟩), .pointer (some ⟨br, 0, none⟩), .pointer (some ⟨bx, 0, none⟩), .pointer (some ⟨be, 0, none⟩)] .returning w fun e u' w' => e = .returned (.tuple #[]) ∧ u' = .returning ∧ ∃ wx, Below w.heap.size w wx ∧ w' = wx.setCell ⟨gr, 0, none⟩ (.string s) := by
  refine callsD_of_wpS Try.func129 rfl fun c₀ cs hu => ?_
  apply wpS_seq
  apply wpS_region
  simp [wpOpsS, go_sem, recoverD, hu, Try.ntmps129, Exit.thenS]
  refine wpS_of_wp ?_
  have c1 := h1.cell (k := 0) rfl
  have c2 := h2.cell (k := 0) rfl
  have c3 := h3.cell (k := 0) rfl
  have c4 := h4.cell (k := 0) rfl
  have f4 := h4.frozen 0
  simp only [Array.replicate_succ, Array.replicate_zero, List.push_toArray, List.append_toArray, List.nil_append, List.cons_append, List.setIfInBounds_toArray, List.set_cons_zero, List.set_cons_succ]
  go_wp2_with (fail)
  refine Rgd.wp_region (l := [_, _, _, _, _, _, _]) (tail := [_]) (Rgd.keep w [] [(0, 0), (0, 0), (0, 0), (0, 0), (0, 0), (0, 0), (0, 0)]) [some 11, some 12, some 13, some 14, some 15, some 16, some 17, none] 32 rfl [[], [], [1], [1, 2], [1, 2, 3], [0, 1, 2, 3, 4], [0, 1, 2, 3, 4, 5]] (by kernel_rfl) (by kernel_rfl) (by kernel_rfl) (by kernel_rfl) (by kernel_rfl) rfl (Rgd.keep_fair) (Rgd.keep_start _) ?_
  refine Rgd.op_is (.pointer (some ⟨gr, 0, none⟩)) [] 0 0 rfl rfl rfl (by kernel_rfl) ?_ ?_
  · intro p wx hp1 hp2 hb
    obtain rfl : p = 0 := by omega
    refine Rgd.from_nil fun T hT => ?_
    have c2 := (h2.below hb).cell (k := 0) rfl
    go_wp2
    exact hT _ _ rfl (by first | exact Rgd.Keep.refl _ | exact below_of_dr hw2 | exact hw2 | exact (Below.refl _ _).alloc (Nat.le_refl _) _) (by first | rfl | exact congrArg _ (by decide))
  refine Rgd.op_is (.pointer (some ⟨gp, 0, none⟩)) [] 0 0 rfl rfl rfl (by kernel_rfl) ?_ ?_
  · intro p wx hp1 hp2 hb
    obtain rfl : p = 0 := by omega
    refine Rgd.from_nil fun T hT => ?_
    have c1 := (h1.below hb).cell (k := 0) rfl
    go_wp2
    exact hT _ _ rfl (by first | exact Rgd.Keep.refl _ | exact below_of_dr hw2 | exact hw2 | exact (Below.refl _ _).alloc (Nat.le_refl _) _) (by first | rfl | exact congrArg _ (by decide))
  refine' Rgd.op_is _ [1] 0 0 rfl rfl rfl (by kernel_rfl) ?_ ?_
  rotate_left
  · intro p wx hp1 hp2 hb
    obtain rfl : p = 0 := by omega
    refine Rgd.from_is (some 12) rfl rfl ?_
    refine Rgd.from_nil fun T hT => ?_
    go_wp2
    refine hT _ _ rfl (by first | exact Rgd.Keep.refl _ | exact below_of_dr hw2 | exact hw2 | exact (Below.refl _ _).alloc (Nat.le_refl _) _) ?_
    simp only [Rgd.last, List.getElem?_toArray, List.getElem?_cons_succ, List.getElem?_cons_zero, Option.getD_some]
    rfl
  refine' Rgd.op_is _ [2] 0 0 rfl rfl rfl (by kernel_rfl) ?_ ?_
  rotate_left
  · intro p wx hp1 hp2 hb
    obtain rfl : p = 0 := by omega
    refine Rgd.from_is (some 13) rfl rfl ?_
    refine Rgd.from_nil fun T hT => ?_
    go_wp2
    refine hT _ _ rfl (by first | exact Rgd.Keep.refl _ | exact below_of_dr hw2 | exact hw2 | exact (Below.refl _ _).alloc (Nat.le_refl _) _) ?_
    simp only [Rgd.last, List.getElem?_toArray, List.getElem?_cons_succ, List.getElem?_cons_zero, Option.getD_some]
    rfl
  refine Rgd.op_is (.string s) [3] 0 0 rfl rfl rfl (by kernel_rfl) ?_ ?_
  · intro p wx hp1 hp2 hb
    obtain rfl : p = 0 := by omega
    refine Rgd.from_is (some 14) rfl rfl ?_
    refine Rgd.from_nil fun T hT => ?_
    have c3 := (h3.below hb).cell (k := 0) rfl
    go_wp2
    exact hT _ _ rfl (by first | exact Rgd.Keep.refl _ | exact below_of_dr hw2 | exact hw2 | exact (Below.refl _ _).alloc (Nat.le_refl _) _) (by first | rfl | exact congrArg _ (by decide))
  refine' Rgd.op_is _ [0] 0 0 rfl rfl rfl (by kernel_rfl) ?_ ?_
  rotate_left
  · intro p wx hp1 hp2 hb
    obtain rfl : p = 0 := by omega
    refine Rgd.from_is (some 11) rfl rfl ?_
    refine Rgd.from_nil fun T hT => ?_
    go_wp2
    refine hT _ _ rfl (by first | exact Rgd.Keep.refl _ | exact below_of_dr hw2 | exact hw2 | exact (Below.refl _ _).alloc (Nat.le_refl _) _) ?_
    simp only [Rgd.last, List.getElem?_toArray, List.getElem?_cons_succ, List.getElem?_cons_zero, Option.getD_some]
    rfl
  refine' Rgd.op_is _ [5] 0 0 rfl rfl rfl (by kernel_rfl) ?_ ?_
  rotate_left
  · intro p wx hp1 hp2 hb
    obtain rfl : p = 0 := by omega
    refine Rgd.from_is (some 16) rfl rfl ?_
    refine Rgd.from_nil fun T hT => ?_
    go_wp2
    refine hT _ _ rfl (by first | exact Rgd.Keep.refl _ | exact below_of_dr hw2 | exact hw2 | exact (Below.refl _ _).alloc (Nat.le_refl _) _) ?_
    simp only [Rgd.last, List.getElem?_toArray, List.getElem?_cons_succ, List.getElem?_cons_zero, Option.getD_some]
    rfl
  refine Rgd.walk_nil [0, 1, 2, 3, 4, 5, 6] (by kernel_rfl) ?_
  intro wx hb
  refine Rgd.from_is (some 11) rfl rfl ?_
  refine Rgd.from_is (some 12) rfl rfl ?_
  refine Rgd.from_is (some 13) rfl rfl ?_
  refine Rgd.from_is (some 14) rfl rfl ?_
  refine Rgd.from_is (some 15) rfl rfl ?_
  refine Rgd.from_is (some 16) rfl rfl ?_
  refine Rgd.from_is (some 17) rfl rfl ?_
  refine Rgd.from_nil ?_
  simp only [List.map, Act.put, List.setIfInBounds_toArray, List.set_cons_zero, List.set_cons_succ]
  have hb : Below w.heap.size w wx := hb
  have c4 := (h4.below hb).cell (k := 0) rfl
  have f4 := (h4.below hb).frozen 0
  go_wp2
  cases c₀
  simp_all [bodyPostS, results, Try.results129]
  exact ⟨wx, hb, rfl⟩
theorem assert_lack (en : Int) (w : World) : (Instr.typeAssert (lackV en) 20 173 true).run Try.prog w = .ok (.tuple #[.agg #[.int .i64 en], .bool true]) w := by
  kernel_rfl
theorem Row1.ne {w : World} {a b : Nat} {e e' : TypeId} {xs ys : List Value} (h : Row1 w a e xs) (k : Row1 w b e' ys) (hne : e ≠ e') : a ≠ b := by
  rintro rfl
  unfold Row1 at h k
  rw [h] at k
  simp only [Option.some.injEq, Obj.cells.injEq] at k
  exact hne k.2.1
set_option maxRecDepth 100000 in
theorem read1_thrown (bp br bx be gp gr : Nat) (t : ByteArray) (er en x0 y0 : Int) (older : List PanicEntry) (w : World) (h2 : Row1 w br 142 [.pointer (some ⟨gr, 0, none⟩)]) (h4 : Row1 w gr 160 [.string t, .int .i64 er]) (h5 : Row1 w bx 3 [.int .i64 x0]) (h6 : Row1 w be 28 [.int .i64 y0]) :
    CallsD Try.prog 129 #[.pointer (some ⟨bp, 0, none⟩), .pointer (some ⟨br, 0, none⟩), .pointer (some ⟨bx, 0, none⟩), .pointer (some ⟨be, 0, none⟩)] (.panicking ({ v := lackV en, recovered := false } :: older)) w fun e u' w' => e = .returned (.tuple #[]) ∧ u' = .panicking ({ v := lackV en, recovered := true } :: older) ∧ w' = (((((w.setCell ⟨bx, 0, none⟩ (.int .i64 0)).setCell ⟨be, 0, none⟩ (.int .i64 en)).setCell ⟨gr, 0, none⟩ (.string ⟨#[]⟩)).setCell ⟨gr, 1, none⟩ (.int .i64 en)).alloc (.cells #[.int .i64 en] 173)).drew.drew := by
  refine callsD_of_wpS Try.func129 rfl fun c₀ cs hu => ?_
  apply wpS_seq
  apply wpS_region
  simp [wpOpsS, go_sem, recoverD, hu, Try.ntmps129, Exit.thenS]
  refine wpS_of_wp ?_
  have hta := fun w => assert_lack en w
  have n56 : ¬ bx = be := h5.ne h6 (by decide)
  have n24 : ¬ br = gr := h2.ne h4 (by decide)
  have n25 : ¬ br = bx := h2.ne h5 (by decide)
  have n26 : ¬ br = be := h2.ne h6 (by decide)
  have n45 : ¬ gr = bx := h4.ne h5 (by decide)
  have n46 : ¬ gr = be := h4.ne h6 (by decide)
  have l2 := h2.lt
  have l4 := h4.lt
  have l5 := h5.lt
  have l6 := h6.lt
  have c2 := h2.cell (k := 0) rfl
  have c40 := h4.cell (k := 0) rfl
  have c41 := h4.cell (k := 1) rfl
  have f40 := h4.frozen 0
  have f41 := h4.frozen 1
  have c5 := h5.cell (k := 0) rfl
  have f5 := h5.frozen 0
  have c6 := h6.cell (k := 0) rfl
  have f6 := h6.frozen 0
  have hb0 := below_alloc w (.cells #[.int .i64 en] 173)
  simp only [Array.replicate_succ, Array.replicate_zero, List.push_toArray, List.append_toArray, List.nil_append, List.cons_append, List.setIfInBounds_toArray, List.set_cons_zero, List.set_cons_succ]
  go_wp2_with (fail)
  go_region
  go_wp2_with (fail)
  go_region
  go_wp2
  cases c₀
  simp_all [bodyPostS, results, Try.results129]
end Go.Proofs.Ythllhnjbddpeoaa
end

section
namespace Go.Proofs.Ythllhnjbddpeoaa
open Go Go.RowKit Go.Maps Go.Shelf Go.Proofs

theorem numB_fold (l : List UInt8) (n : Nat) : l.foldl (fun n b => n * 256 + b.toNat) n = n * 256 ^ l.length + numB l := by
  induction l generalizing n with
  | nil => simp [numB]
  | cons b l ih =>
    have h1 := ih (n * 256 + b.toNat)
    have h2 : numB (b :: l) = b.toNat * 256 ^ l.length + numB l := by
      have := ih (0 * 256 + b.toNat)
      unfold numB
      rw [List.foldl_cons, this, Nat.zero_mul, Nat.zero_add]
      rfl
    rw [List.foldl_cons, h1, h2, List.length_cons, Nat.pow_succ, Nat.add_mul, Nat.mul_assoc, Nat.mul_comm 256]
    omega
theorem numB_append (l k : List UInt8) : numB (l ++ k) = numB l * 256 ^ k.length + numB k := by
  rw [numB, List.foldl_append, numB_fold]; rfl
theorem numB_cons (b : UInt8) (l : List UInt8) : numB (b :: l) = b.toNat * 256 ^ l.length + numB l := by
  have := numB_append [b] l
  simpa [numB] using this
theorem numB_zeros (n : Nat) : numB (List.replicate n 0) = 0 := by
  induction n with
  | zero => rfl
  | succ n ih => rw [List.replicate_succ, numB_cons, ih]; simp
/-- a number's bytes, the highest first. -/
def digs (n : Nat) : Nat → List UInt8
  | 0 => []
  | k + 1 => UInt8.ofNat (n / 256 ^ k) :: digs n k
theorem digs_len (n : Nat) : ∀ k, (digs n k).length = k
  | 0 => rfl
  | k + 1 => by rw [digs, List.length_cons, digs_len n k]
theorem numB_digs (n : Nat) : ∀ k, numB (digs n k) = n % 256 ^ k
  | 0 => by simp [digs, numB, Nat.mod_one]
  | k + 1 => by
    rw [digs, numB_cons, digs_len, numB_digs n k, Nat.mod_pow_succ]
    have : (UInt8.ofNat (n / 256 ^ k)).toNat = n / 256 ^ k % 256 := by simp
    rw [this, Nat.mul_comm, Nat.add_comm]
theorem digs_drop (n : Nat) : ∀ k i, (digs n k).drop i = digs n (k - i)
  | k, 0 => by simp
  | 0, i + 1 => by simp [digs]
  | k + 1, i + 1 => by
    rw [digs, List.drop_succ_cons, digs_drop n k i]
    congr 1; omega
/-- a number of eight bytes. -/
def num8 (n : Nat) : List UInt8 := digs n 8
theorem num8_len (n : Nat) : (num8 n).length = 8 := digs_len n 8
theorem p256_8 : (256 : Nat) ^ 8 = 18446744073709551616 := by decide +kernel
theorem numB_num8 {n : Nat} (h : n < 18446744073709551616) : numB (num8 n) = n := by
  unfold num8
  rw [numB_digs, p256_8]; omega

/-- the k-th number of bytes. -/
def w8 (b : ByteArray) (k : Nat) : Nat := numB ((b.data.toList.drop (8 * k)).take 8)
abbrev roomN : Nat := 16776704
abbrev maxN : Nat := 1099511627776
/-- a head: how old, how long; of age 0: none. -/
def Hw (b : ByteArray) : Prop := 24 ≤ b.size ∧ w8 b 0 ≤ maxN ∧ w8 b 1 ≤ roomN ∧ w8 b 0 = w8 b 2 ∧ 0 < w8 b 0
instance (b : ByteArray) : Decidable (Hw b) := by unfold Hw; infer_instance
def hd (b : ByteArray) : Nat × Nat := if Hw b then (w8 b 0, w8 b 1) else (0, 0)
theorem hd_le (b : ByteArray) : (hd b).1 ≤ maxN ∧ (hd b).2 ≤ roomN := by
  unfold hd
  split
  · rename_i h; exact ⟨h.2.1, h.2.2.1⟩
  · exact ⟨by simp, by simp⟩
theorem hd_zero {b : ByteArray} (h : (hd b).1 = 0) : hd b = (0, 0) := by
  unfold hd at h ⊢
  split
  · rename_i h2
    rw [if_pos h2] at h
    have := h2.2.2.2.2
    simp only at h
    omega
  · rfl
/-- a head's bytes. -/
def headS (a n : Nat) : ByteArray := ⟨(num8 a ++ num8 n ++ num8 a).toArray⟩
theorem headS_size (a n : Nat) : (headS a n).size = 24 := by simp [headS, ByteArray.size, num8_len]
theorem headS_data (a n : Nat) : (headS a n).data.toList = num8 a ++ num8 n ++ num8 a := rfl
theorem w8_head (a n : Nat) (b : ByteArray) (l : List UInt8) (hb : b.data.toList = num8 a ++ num8 n ++ num8 a ++ l) : w8 b 0 = numB (num8 a) ∧ w8 b 1 = numB (num8 n) ∧ w8 b 2 = numB (num8 a) := by
  refine ⟨?_, ?_, ?_⟩
  · unfold w8
    rw [hb]
    simp only [List.append_assoc, Nat.mul_zero, List.drop_zero]
    rw [List.take_append_of_le_length (by rw [num8_len]; omega), List.take_of_length_le (by rw [num8_len]; omega)]
  · unfold w8
    rw [hb]
    simp only [List.append_assoc, Nat.mul_one]
    rw [List.drop_append_of_le_length (by rw [num8_len]; omega), List.drop_of_length_le (by rw [num8_len]; omega), List.nil_append, List.take_append_of_le_length (by rw [num8_len]; omega), List.take_of_length_le (by rw [num8_len]; omega)]
  · unfold w8
    rw [hb, List.append_assoc, List.drop_append_of_le_length (by simp [num8_len]), List.drop_of_length_le (by simp [num8_len]), List.nil_append, List.take_append_of_le_length (by rw [num8_len]; omega), List.take_of_length_le (by rw [num8_len]; omega)]
set_option maxRecDepth 100000 in
theorem hd_head {a n : Nat} {b : ByteArray} {l : List UInt8} (hb : b.data.toList = num8 a ++ num8 n ++ num8 a ++ l) (ha : 0 < a) (ha2 : a ≤ maxN) (hn : n ≤ roomN) : hd b = (a, n) := by
  obtain ⟨h0, h1, h2⟩ := w8_head a n b l hb
  rw [numB_num8 (by unfold maxN at ha2; omega)] at h0 h2
  rw [numB_num8 (by unfold roomN at hn; omega)] at h1
  have hs : 24 ≤ b.size := by
    have : b.size = b.data.toList.length := by rw [Array.length_toList]; rfl
    rw [this, hb]; simp only [List.length_append, num8_len]; omega
  unfold hd
  rw [if_pos ⟨hs, by omega, by omega, by omega, by omega⟩, h0, h1]
theorem hd_pad {a n : Nat} (ha : 0 < a) (ha2 : a ≤ maxN) (hn : n ≤ roomN) : hd (pad (headS a n)) = (a, n) :=
  hd_head (l := List.replicate (512 - (headS a n).size) 0) (by rw [pad_data, headS_data]) ha ha2 hn
theorem hd_short {b : ByteArray} (h : b.size < 24) : hd b = (0, 0) := by
  unfold hd
  rw [if_neg]
  intro h2
  have := h2.1
  omega
theorem hd_blk : hd blk = (0, 0) := by decide +kernel
/-- the newest place: where, how old, how long. -/
def newP (b c : ByteArray) : Int × Nat × Nat := if 0 < (hd c).1 ∧ (hd b).1 ≤ (hd c).1 then (0, (hd c).1, (hd c).2) else if 0 < (hd b).1 then (32768, (hd b).1, (hd b).2) else (0, 0, 0)
def Dk.newest (d : Dk) : Int × Nat × Nat := newP (d.read 32768) (d.read 0)
def Dk.age (d : Dk) : Nat := d.newest.2.1
end Go.Proofs.Ythllhnjbddpeoaa
end

section
namespace Go.Proofs.Ythllhnjbddpeoaa
open Go Go.RowKit Go.Maps Go.Shelf Go.Proofs

/-- what becomes of a reader at gr: its two cells, and new blocks. -/
def RdrTo (B gr : Nat) (w w' : World) (s : ByteArray) (e : Int) : Prop := Row1 w' gr 160 [.string s, .int .i64 e] ∧ Below B w w'
/-- what Count's function does with a part: it ends so, and this is left. -/
def HowT (s : ByteArray) (m : Nat) (r : Ending) (s2 : ByteArray) : Prop := ∀ (w : World) (gp gq : Nat), Row1 w gp 171 [.string s] → Row1 w gq 3 [.int .i64 m] →
  Calls Try.prog 124 #[.pointer (some ⟨gp, 0, none⟩), .pointer (some ⟨gq, 0, none⟩)] w fun e w' => e = r ∧ w.grownBy w' (some gp) ∧ Row1 w' gp 171 [.string s2]
theorem grown_set (w : World) (g k : Nat) (u : Value) : w.grownBy (w.setCell ⟨g, k, none⟩ u) (some g) :=
  ⟨rfl, rfl, rfl, by simp, fun i _ hi => Below.heap_setCell w ⟨g, k, none⟩ u i (fun e => hi (by rw [e]))⟩
theorem how_of {w w' : World} {gp : Nat} {s s2 : ByteArray} (h : Row1 w gp 171 [.string s]) (hb : Below w.heap.size (w.setCell ⟨gp, 0, none⟩ (.string s2)) w') : w.grownBy w' (some gp) ∧ Row1 w' gp 171 [.string s2] := by
  have hs : w.heap.size = (w.setCell ⟨gp, 0, none⟩ (.string s2)).heap.size := by simp
  have hb2 : Below (w.setCell ⟨gp, 0, none⟩ (.string s2)).heap.size (w.setCell ⟨gp, 0, none⟩ (.string s2)) w' := by rw [← hs]; exact hb
  exact ⟨but_then (grown_set w gp 0 _) (but_below hb2 _), (h.set 0 (.string s2)).below hb2⟩
theorem how_yes {s : ByteArray} {m : Nat} (hn : 8 ≤ s.size) (hm : m ≤ 9223372036854775807) (hle : numB (s.data.toList.take 8) ≤ m) : HowT s m (.returned (.int .i64 (numB (s.data.toList.take 8)))) (s.extract 8 s.size) := by
  intro w gp gq h hq
  refine (count1_yes gp gq s m w h (hq.cell (k := 0) rfl) (hq.ne h (by decide)) hq.lt hn hm hle).mono ?_
  rintro e w' ⟨rfl, hb⟩
  exact ⟨rfl, how_of h hb⟩
theorem how_no {s : ByteArray} {m : Nat} (hn : 8 ≤ s.size) (hm : m ≤ 9223372036854775807) (hle : m < numB (s.data.toList.take 8)) : HowT s m (.panicked (lackC 4)) (s.extract 8 s.size) := by
  intro w gp gq h hq
  refine (count1_no gp gq s m w h (hq.cell (k := 0) rfl) (hq.ne h (by decide)) hq.lt hn hm hle).mono ?_
  rintro e w' ⟨rfl, hb⟩
  exact ⟨rfl, how_of h hb⟩
theorem how_short {s : ByteArray} {m : Nat} (hn : s.size < 8) : HowT s m (.panicked (lackC 8)) s := by
  intro w gp gq h hq
  refine (count1_short gp gq s w h hn).mono ?_
  rintro e w' ⟨rfl, rfl⟩
  exact ⟨rfl, but_below (Below.refl _ _) _, h⟩
set_option maxRecDepth 100000 in
set_option maxHeartbeats 1000000 in
theorem read_ok (B gr gq : Nat) (s s2 : ByteArray) (m : Nat) (v : Int) (w : World) (h : Row1 w gr 160 [.string s, .int .i64 0]) (hB : B ≤ gr) (hq : Row1 w gq 3 [.int .i64 m]) (H : HowT s m (.returned (.int .i64 v)) s2) :
    Calls Try.prog 123 #[.pointer (some ⟨gr, 0, none⟩), .func (.func 124) #[] #[.pointer (some ⟨gq, 0, none⟩)]] w fun e w' => e = .returned (.tuple #[.int .i64 v, .int .i64 0]) ∧ RdrTo B gr w w' s2 0 := by
  have hmf : ∀ (fn : Fn) (first cap : Array Value) (w : World), (Instr.makeFunc fn first cap).run Try.prog w = .ok (.func fn first cap) w := fun _ _ _ _ => rfl
  have hcf : ∀ (args : Array Value) (w : World), (callFunc 124 args).run Try.prog w = .ok (.enter 124 args) w := fun _ _ => rfl
  have hcd : ∀ (args : Array Value) (w : World), (callFunc 129 args).run Try.prog w = .ok (.enter 129 args) w := fun _ _ => rfl
  have HH := hid H
  clear H
  go_enter_defers Try.func123, Try.ntmps123
  go_upto_region 1 with (fail)
  have r0 := ((row1_new w [.pointer (some ⟨gr, 0, none⟩)] 142).alloc (.cells #[.int .i64 0] 3)).alloc (.cells #[.int .i64 0] 28)
  have r1 := (row1_new (w.alloc (.cells #[.pointer (some ⟨gr, 0, none⟩)] 142)) [.int .i64 0] 3).alloc (.cells #[.int .i64 0] 28)
  have r2 := row1_new ((w.alloc (.cells #[.pointer (some ⟨gr, 0, none⟩)] 142)).alloc (.cells #[.int .i64 0] 3)) [.int .i64 0] 28
  have hb0 : Below w.heap.size w (((w.alloc (.cells #[.pointer (some ⟨gr, 0, none⟩)] 142)).alloc (.cells #[.int .i64 0] 3)).alloc (.cells #[.int .i64 0] 28)) := ((below_alloc w (.cells #[.pointer (some ⟨gr, 0, none⟩)] 142)).alloc (by simp) (.cells #[.int .i64 0] 3)).alloc (by simp; omega) (.cells #[.int .i64 0] 28)
  simp only [World.size_alloc] at r1 r2
  generalize ((w.alloc _).alloc _).alloc _ = w1 at *
  obtain ⟨n0, hn0⟩ : ∃ n, w.heap.size = n := ⟨_, rfl⟩
  have HN := hid hn0
  rw [hn0] at r0 r1 r2 ⊢
  rw [hn0] at hb0
  clear hn0
  obtain ⟨n1, hn1⟩ : ∃ n, n0 + 1 = n := ⟨_, rfl⟩
  have HN1 := hid hn1
  rw [hn1] at r1 r2 ⊢
  clear hn1
  obtain ⟨n2, hn2⟩ : ∃ n, n1 + 1 = n := ⟨_, rfl⟩
  have HN2 := hid hn2
  rw [hn2] at r2 ⊢
  clear hn2
  have rg : Row1 w1 gr 160 [.string s, .int .i64 0] := h.below (by rw [HN.out]; exact hb0)
  have rq : Row1 w1 gq 3 [.int .i64 m] := hq.below (by rw [HN.out]; exact hb0)
  have c0 := r0.cell (k := 0) rfl
  have cg0 := rg.cell (k := 0) rfl
  have cg1 := rg.cell (k := 1) rfl
  go_upto_region 6 with (fail)
  have p0 := (row1_new w1 [.string s] 171).alloc (.cells #[.pointer (some ⟨w1.heap.size, 0, none⟩)] 162)
  have p1 := row1_new (w1.alloc (.cells #[.string s] 171)) [.pointer (some ⟨w1.heap.size, 0, none⟩)] 162
  have hb1 : Below w1.heap.size w1 ((w1.alloc (.cells #[.string s] 171)).alloc (.cells #[.pointer (some ⟨w1.heap.size, 0, none⟩)] 162)) := (below_alloc w1 (.cells #[.string s] 171)).alloc (by simp) _
  simp only [World.size_alloc] at p1
  generalize (w1.alloc _).alloc _ = w2 at *
  replace r0 := r0.below hb1
  replace r1 := r1.below hb1
  replace r2 := r2.below hb1
  replace rg := rg.below hb1
  replace rq := rq.below hb1
  have lg := (h.below (by rw [HN.out]; exact hb0)).lt
  have hb2 := below_next hb0 (by have := HN.out; have := hb0.size; omega) hb1
  have hn1 : n0 ≤ w1.heap.size := by have := HN.out; have := hb0.size; omega
  clear c0 cg0 cg1 hb0 
  obtain ⟨gp, hgp⟩ : ∃ n, w1.heap.size = n := ⟨_, rfl⟩
  have HP := hid hgp
  rw [hgp] at p0 p1 hb1 lg hn1 ⊢
  clear hgp
  obtain ⟨np, hnp⟩ : ∃ n, gp + 1 = n := ⟨_, rfl⟩
  have HNP := hid hnp
  rw [hnp] at p1 ⊢
  clear hnp
  have c0 := p1.cell (k := 0) rfl
  have HC := hid (HH.out w2 gp gq p0 rq)
  go_wp2_with (fail)
  refine HC.out.mono ?_
  rintro e w3 ⟨rfl, hgr, p2⟩
  have q0 := r0.but hgr (r0.ne p0 (by decide))
  have q1 := r1.but hgr (r1.ne p0 (by decide))
  have q2 := r2.but hgr (r2.ne p0 (by decide))
  have qg := rg.but hgr (rg.ne p0 (by decide))
  have qp := p1.but hgr (p1.ne p0 (by decide))
  have f1 := q1.frozen 0
  have f2 := q2.frozen 0
  have d1 := q1.cell (k := 0) rfl
  have d2 := q2.cell (k := 0) rfl
  have n12 : ¬ n1 = n2 := q1.ne q2 (by decide)
  clear c0
  go_wp2_with (fail)
  refine leaves_cons (f := 129) (args := #[.pointer (some ⟨np, 0, none⟩), .pointer (some ⟨n0, 0, none⟩), .pointer (some ⟨n1, 0, none⟩), .pointer (some ⟨n2, 0, none⟩)]) (by simp) (by simp [go_sem, hcd]) ?_
  have m0 := (q0.far (p := ⟨n1, 0, none⟩) (q1.ne q0 (by decide)) (.int .i64 v)).far (p := ⟨n2, 0, none⟩) (q2.ne q0 (by decide)) (.int .i64 0)
  have m1 := (q1.set 0 (.int .i64 v)).far (p := ⟨n2, 0, none⟩) (q2.ne q1 (by decide)) (.int .i64 0)
  have m2 := (q2.far (p := ⟨n1, 0, none⟩) (q1.ne q2 (by decide)) (.int .i64 v)).set 0 (.int .i64 0)
  have mg := (qg.far (p := ⟨n1, 0, none⟩) (q1.ne qg (by decide)) (.int .i64 v)).far (p := ⟨n2, 0, none⟩) (q2.ne qg (by decide)) (.int .i64 0)
  have mp := (qp.far (p := ⟨n1, 0, none⟩) (q1.ne qp (by decide)) (.int .i64 v)).far (p := ⟨n2, 0, none⟩) (q2.ne qp (by decide)) (.int .i64 0)
  have mq := (p2.far (p := ⟨n1, 0, none⟩) (q1.ne p2 (by decide)) (.int .i64 v)).far (p := ⟨n2, 0, none⟩) (q2.ne p2 (by decide)) (.int .i64 0)
  have hB0 : B ≤ n0 := by have := HN.out; have := h.lt; omega
  have hz : n0 ≤ w2.heap.size := by have := p0.lt; omega
  have hb3 := ((below_but hb2 hgr hn1 hz).setCell (p := ⟨n1, 0, none⟩) (show n0 ≤ n1 by have := HN1.out; omega) (.int .i64 v)).setCell (p := ⟨n2, 0, none⟩) (show n0 ≤ n2 by have := HN1.out; have := HN2.out; omega) (.int .i64 0)
  generalize (w3.setCell _ _).setCell _ _ = w4 at *
  refine (read1_idle np n0 n1 n2 gp gr s2 s 0 w4 mp m0 mq mg).mono ?_
  rintro e u' w' ⟨rfl, rfl, wx, hbx, rfl⟩
  have k1 := ((m1.below hbx).far (p := ⟨gr, 0, none⟩) (mg.ne m1 (by decide)) (.string s2)).cell (k := 0) rfl
  have k2 := ((m2.below hbx).far (p := ⟨gr, 0, none⟩) (mg.ne m2 (by decide)) (.string s2)).cell (k := 0) rfl
  have kg := (mg.below hbx).set 0 (.string s2)
  have hf : Below B w (wx.setCell ⟨gr, 0, none⟩ (.string s2)) := (below_next (hb3.mono hB0) (by have := mg.lt; omega) hbx).setCell (p := ⟨gr, 0, none⟩) hB _
  generalize wx.setCell _ _ = w5 at *
  simp [Leaves, settle, results, Try.results123, go_sem, k1, k2]
  exact ⟨kg, hf⟩
set_option maxRecDepth 100000 in
set_option maxHeartbeats 1000000 in
theorem read_no (B gr gq : Nat) (s s2 : ByteArray) (m : Nat) (c : Int) (w : World) (h : Row1 w gr 160 [.string s, .int .i64 0]) (hB : B ≤ gr) (hq : Row1 w gq 3 [.int .i64 m]) (H : HowT s m (.panicked (lackC c)) s2) :
    Calls Try.prog 123 #[.pointer (some ⟨gr, 0, none⟩), .func (.func 124) #[] #[.pointer (some ⟨gq, 0, none⟩)]] w fun e w' => e = .returned (.tuple #[.int .i64 0, .int .i64 c]) ∧ RdrTo B gr w w' ⟨#[]⟩ c := by
  have hmf : ∀ (fn : Fn) (first cap : Array Value) (w : World), (Instr.makeFunc fn first cap).run Try.prog w = .ok (.func fn first cap) w := fun _ _ _ _ => rfl
  have hcf : ∀ (args : Array Value) (w : World), (callFunc 124 args).run Try.prog w = .ok (.enter 124 args) w := fun _ _ => rfl
  have hcd : ∀ (args : Array Value) (w : World), (callFunc 129 args).run Try.prog w = .ok (.enter 129 args) w := fun _ _ => rfl
  have HH := hid H
  clear H
  go_enter_defers Try.func123, Try.ntmps123
  go_upto_region 1 with (fail)
  have r0 := ((row1_new w [.pointer (some ⟨gr, 0, none⟩)] 142).alloc (.cells #[.int .i64 0] 3)).alloc (.cells #[.int .i64 0] 28)
  have r1 := (row1_new (w.alloc (.cells #[.pointer (some ⟨gr, 0, none⟩)] 142)) [.int .i64 0] 3).alloc (.cells #[.int .i64 0] 28)
  have r2 := row1_new ((w.alloc (.cells #[.pointer (some ⟨gr, 0, none⟩)] 142)).alloc (.cells #[.int .i64 0] 3)) [.int .i64 0] 28
  have hb0 : Below w.heap.size w (((w.alloc (.cells #[.pointer (some ⟨gr, 0, none⟩)] 142)).alloc (.cells #[.int .i64 0] 3)).alloc (.cells #[.int .i64 0] 28)) := ((below_alloc w (.cells #[.pointer (some ⟨gr, 0, none⟩)] 142)).alloc (by simp) (.cells #[.int .i64 0] 3)).alloc (by simp; omega) (.cells #[.int .i64 0] 28)
  simp only [World.size_alloc] at r1 r2
  generalize ((w.alloc _).alloc _).alloc _ = w1 at *
  obtain ⟨n0, hn0⟩ : ∃ n, w.heap.size = n := ⟨_, rfl⟩
  have HN := hid hn0
  rw [hn0] at r0 r1 r2 ⊢
  rw [hn0] at hb0
  clear hn0
  obtain ⟨n1, hn1⟩ : ∃ n, n0 + 1 = n := ⟨_, rfl⟩
  have HN1 := hid hn1
  rw [hn1] at r1 r2 ⊢
  clear hn1
  obtain ⟨n2, hn2⟩ : ∃ n, n1 + 1 = n := ⟨_, rfl⟩
  have HN2 := hid hn2
  rw [hn2] at r2 ⊢
  clear hn2
  have rg : Row1 w1 gr 160 [.string s, .int .i64 0] := h.below (by rw [HN.out]; exact hb0)
  have rq : Row1 w1 gq 3 [.int .i64 m] := hq.below (by rw [HN.out]; exact hb0)
  have c0 := r0.cell (k := 0) rfl
  have cg0 := rg.cell (k := 0) rfl
  have cg1 := rg.cell (k := 1) rfl
  go_upto_region 6 with (fail)
  have p0 := (row1_new w1 [.string s] 171).alloc (.cells #[.pointer (some ⟨w1.heap.size, 0, none⟩)] 162)
  have p1 := row1_new (w1.alloc (.cells #[.string s] 171)) [.pointer (some ⟨w1.heap.size, 0, none⟩)] 162
  have hb1 : Below w1.heap.size w1 ((w1.alloc (.cells #[.string s] 171)).alloc (.cells #[.pointer (some ⟨w1.heap.size, 0, none⟩)] 162)) := (below_alloc w1 (.cells #[.string s] 171)).alloc (by simp) _
  simp only [World.size_alloc] at p1
  generalize (w1.alloc _).alloc _ = w2 at *
  replace r0 := r0.below hb1
  replace r1 := r1.below hb1
  replace r2 := r2.below hb1
  replace rg := rg.below hb1
  replace rq := rq.below hb1
  have lg := (h.below (by rw [HN.out]; exact hb0)).lt
  have hb2 := below_next hb0 (by have := HN.out; have := hb0.size; omega) hb1
  have hn1 : n0 ≤ w1.heap.size := by have := HN.out; have := hb0.size; omega
  clear c0 cg0 cg1 hb0 
  obtain ⟨gp, hgp⟩ : ∃ n, w1.heap.size = n := ⟨_, rfl⟩
  have HP := hid hgp
  rw [hgp] at p0 p1 hb1 lg hn1 ⊢
  clear hgp
  obtain ⟨np, hnp⟩ : ∃ n, gp + 1 = n := ⟨_, rfl⟩
  have HNP := hid hnp
  rw [hnp] at p1 ⊢
  clear hnp
  have c0 := p1.cell (k := 0) rfl
  have HC := hid (HH.out w2 gp gq p0 rq)
  go_wp2_with (fail)
  refine HC.out.mono ?_
  rintro e w3 ⟨rfl, hgr, p2⟩
  have q0 := r0.but hgr (r0.ne p0 (by decide))
  have q1 := r1.but hgr (r1.ne p0 (by decide))
  have q2 := r2.but hgr (r2.ne p0 (by decide))
  have qg := rg.but hgr (rg.ne p0 (by decide))
  have qp := p1.but hgr (p1.ne p0 (by decide))
  clear c0
  go_wp2_with (fail)
  refine leaves_cons (f := 129) (args := #[.pointer (some ⟨np, 0, none⟩), .pointer (some ⟨n0, 0, none⟩), .pointer (some ⟨n1, 0, none⟩), .pointer (some ⟨n2, 0, none⟩)]) (by simp) (by simp [go_sem, hcd]) ?_
  have hB0 : B ≤ n0 := by have := HN.out; have := h.lt; omega
  have hz : n0 ≤ w2.heap.size := by have := p0.lt; omega
  have hb3 := below_but hb2 hgr hn1 hz
  refine (read1_thrown np n0 n1 n2 gp gr s 0 c 0 0 [] w3 q0 qg q1 q2).mono ?_
  rintro e u' w' ⟨rfl, rfl, rfl⟩
  have g1 := ((((q1.set 0 (.int .i64 0)).far (p := ⟨n2, 0, none⟩) (q2.ne q1 (by decide)) (.int .i64 c)).far (p := ⟨gr, 0, none⟩) (qg.ne q1 (by decide)) (.string ⟨#[]⟩)).far (p := ⟨gr, 1, none⟩) (qg.ne q1 (by decide)) (.int .i64 c)).alloc (.cells #[.int .i64 c] 173)
  have g2 := ((((q2.far (p := ⟨n1, 0, none⟩) (q1.ne q2 (by decide)) (.int .i64 0)).set 0 (.int .i64 c)).far (p := ⟨gr, 0, none⟩) (qg.ne q2 (by decide)) (.string ⟨#[]⟩)).far (p := ⟨gr, 1, none⟩) (qg.ne q2 (by decide)) (.int .i64 c)).alloc (.cells #[.int .i64 c] 173)
  have gg := ((((qg.far (p := ⟨n1, 0, none⟩) (q1.ne qg (by decide)) (.int .i64 0)).far (p := ⟨n2, 0, none⟩) (q2.ne qg (by decide)) (.int .i64 c)).set 0 (.string ⟨#[]⟩)).set 1 (.int .i64 c)).alloc (.cells #[.int .i64 c] 173)
  have hf0 := (((((hb3.setCell (p := ⟨n1, 0, none⟩) (show n0 ≤ n1 by have := HN1.out; omega) (.int .i64 0)).setCell (p := ⟨n2, 0, none⟩) (show n0 ≤ n2 by have := HN1.out; have := HN2.out; omega) (.int .i64 c)).mono hB0).setCell (p := ⟨gr, 0, none⟩) hB (.string ⟨#[]⟩)).setCell (p := ⟨gr, 1, none⟩) hB (.int .i64 c)).alloc (by have := qg.lt; simp; omega) (.cells #[.int .i64 c] 173)
  generalize World.alloc _ _ = w5 at *
  have k1 := g1.cell (k := 0) rfl
  have k2 := g2.cell (k := 0) rfl
  simp [Leaves, settle, results, Try.results123, go_sem, k1, k2]
  exact ⟨(gg.dr ⟨1, rfl⟩).dr ⟨1, rfl⟩, below_dr (below_dr hf0 ⟨1, rfl⟩) ⟨1, rfl⟩⟩
end Go.Proofs.Ythllhnjbddpeoaa
end

section
namespace Go.Proofs.Ythllhnjbddpeoaa
open Go Go.RowKit Go.Maps Go.Shelf Go.Proofs

set_option maxRecDepth 100000 in
set_option maxHeartbeats 1000000 in
theorem read_err (B gr : Nat) (s : ByteArray) (c : Int) (gq : Nat) (w : World) (h : Row1 w gr 160 [.string s, .int .i64 c]) (hB : B ≤ gr) (hc : c ≠ 0) :
    Calls Try.prog 123 #[.pointer (some ⟨gr, 0, none⟩), .func (.func 124) #[] #[.pointer (some ⟨gq, 0, none⟩)]] w fun e w' => e = .returned (.tuple #[.int .i64 0, .int .i64 c]) ∧ RdrTo B gr w w' s c := by
  have hc1 : (c == 0) = false := by simpa using hc
  have hc2 : (c != 0) = true := by simpa using hc
  clear hc
  go_enter_defers Try.func123, Try.ntmps123
  go_upto_region 1 with (fail)
  have r0 := ((row1_new w [.pointer (some ⟨gr, 0, none⟩)] 142).alloc (.cells #[.int .i64 0] 3)).alloc (.cells #[.int .i64 0] 28)
  have r1 := (row1_new (w.alloc (.cells #[.pointer (some ⟨gr, 0, none⟩)] 142)) [.int .i64 0] 3).alloc (.cells #[.int .i64 0] 28)
  have r2 := row1_new ((w.alloc (.cells #[.pointer (some ⟨gr, 0, none⟩)] 142)).alloc (.cells #[.int .i64 0] 3)) [.int .i64 0] 28
  have hb0 : Below w.heap.size w (((w.alloc (.cells #[.pointer (some ⟨gr, 0, none⟩)] 142)).alloc (.cells #[.int .i64 0] 3)).alloc (.cells #[.int .i64 0] 28)) := ((below_alloc w (.cells #[.pointer (some ⟨gr, 0, none⟩)] 142)).alloc (by simp) (.cells #[.int .i64 0] 3)).alloc (by simp; omega) (.cells #[.int .i64 0] 28)
  simp only [World.size_alloc] at r1 r2
  have rg := h.below hb0
  have lg := h.lt
  generalize ((w.alloc _).alloc _).alloc _ = w1 at *
  obtain ⟨n0, hn0⟩ : ∃ n, w.heap.size = n := ⟨_, rfl⟩
  have HN := hid hn0
  rw [hn0] at r0 r1 r2 lg ⊢
  rw [hn0] at hb0
  clear hn0
  obtain ⟨n1, hn1⟩ : ∃ n, n0 + 1 = n := ⟨_, rfl⟩
  have HN1 := hid hn1
  rw [hn1] at r1 r2 ⊢
  clear hn1
  obtain ⟨n2, hn2⟩ : ∃ n, n1 + 1 = n := ⟨_, rfl⟩
  have HN2 := hid hn2
  rw [hn2] at r2 ⊢
  clear hn2
  have c0 := r0.cell (k := 0) rfl
  have c1 := r1.cell (k := 0) rfl
  have c2 := r2.cell (k := 0) rfl
  have f1 := r1.frozen 0
  have f2 := r2.frozen 0
  have cg1 := rg.cell (k := 1) rfl
  have n12 : ¬ n1 = n2 := r1.ne r2 (by decide)
  have n01 : ¬ n0 = n1 := r0.ne r1 (by decide)
  have n02 : ¬ n0 = n2 := r0.ne r2 (by decide)
  have ng1 : ¬ gr = n1 := rg.ne r1 (by decide)
  have ng2 : ¬ gr = n2 := rg.ne r2 (by decide)
  have n1g : ¬ n1 = gr := r1.ne rg (by decide)
  have n2g : ¬ n2 = gr := r2.ne rg (by decide)
  go_wp2_with (fail)
  go_region
  go_wp2_with (fail)
  have m1 := (r1.set 0 (.int .i64 0)).far (p := ⟨n2, 0, none⟩) (r2.ne r1 (by decide)) (.int .i64 c)
  have m2 := (r2.far (p := ⟨n1, 0, none⟩) (r1.ne r2 (by decide)) (.int .i64 0)).set 0 (.int .i64 c)
  have mg := (rg.far (p := ⟨n1, 0, none⟩) (r1.ne rg (by decide)) (.int .i64 0)).far (p := ⟨n2, 0, none⟩) (r2.ne rg (by decide)) (.int .i64 c)
  have hf := ((hb0.setCell (p := ⟨n1, 0, none⟩) (show n0 ≤ n1 by have := HN1.out; omega) (.int .i64 0)).setCell (p := ⟨n2, 0, none⟩) (show n0 ≤ n2 by have := HN1.out; have := HN2.out; omega) (.int .i64 c)).mono (show B ≤ n0 by omega)
  generalize (w1.setCell _ _).setCell _ _ = w5 at *
  have k1 := m1.cell (k := 0) rfl
  have k2 := m2.cell (k := 0) rfl
  simp [bodyPostD, Leaves, results, Try.results123, go_sem, k1, k2]
  exact ⟨mg.dr ⟨1, rfl⟩, below_dr hf ⟨1, rfl⟩⟩

/-- a number is read, of m at most: what it is, what is left, and what is wrong. -/
def rdN (m : Nat) (s : ByteArray) (e : Int) : Nat × ByteArray × Int :=
  if e = 0 then (if s.size < 8 then (0, ⟨#[]⟩, 8) else if m < numB (s.data.toList.take 8) then (0, ⟨#[]⟩, 4) else (numB (s.data.toList.take 8), s.extract 8 s.size, 0)) else (0, s, e)
theorem rdint_c (B gr gq : Nat) (s : ByteArray) (er : Int) (m : Nat) (w : World) (h : Row1 w gr 160 [.string s, .int .i64 er]) (hB : B ≤ gr) (hq : Row1 w gq 3 [.int .i64 m]) (hm : m ≤ 9223372036854775807) :
    Calls Try.prog 123 #[.pointer (some ⟨gr, 0, none⟩), .func (.func 124) #[] #[.pointer (some ⟨gq, 0, none⟩)]] w fun e w' => e = .returned (.tuple #[.int .i64 (rdN m s er).1, .int .i64 (rdN m s er).2.2]) ∧ RdrTo B gr w w' (rdN m s er).2.1 (rdN m s er).2.2 := by
  unfold rdN
  split
  · rename_i he
    subst he
    split
    · rename_i hs
      exact read_no B gr gq s s m 8 w h hB hq (how_short hs)
    · rename_i hs
      split
      · rename_i hl
        exact read_no B gr gq s _ m 4 w h hB hq (how_no (by omega) hm hl)
      · rename_i hl
        exact read_ok B gr gq s _ m _ w h hB hq (how_yes (by omega) hm (by omega))
  · rename_i he
    exact read_err B gr s er gq w h hB he
set_option maxRecDepth 100000 in
theorem count_c (B gr : Nat) (s : ByteArray) (er : Int) (m : Nat) (w : World) (h : Row1 w gr 160 [.string s, .int .i64 er]) (hB : B ≤ gr) (hm : m ≤ 9223372036854775807) :
    Calls Try.prog 109 #[.pointer (some ⟨gr, 0, none⟩), .int .i64 (m : Int)] w fun e w' => e = .returned (.tuple #[.int .i64 (rdN m s er).1, .int .i64 (rdN m s er).2.2]) ∧ RdrTo B gr w w' (rdN m s er).2.1 (rdN m s er).2.2 := by
  have hmf : ∀ (fn : Fn) (first cap : Array Value) (w : World), (Instr.makeFunc fn first cap).run Try.prog w = .ok (.func fn first cap) w := fun _ _ _ _ => rfl
  have hb0 := below_alloc w (.cells #[.int .i64 (m : Int)] 3)
  have HC := hid (rdint_c B gr w.heap.size s er m (w.alloc (.cells #[.int .i64 (m : Int)] 3)) (h.below hb0) hB (row1_new w [.int .i64 (m : Int)] 3) hm)
  have hl := h.lt
  clear h
  go_enter Try.func109, Try.ntmps109
  go_wp2_with (fail)
  refine HC.out.mono ?_
  rintro e w2 ⟨rfl, hR⟩
  go_wp2
  go_ret2
  exact ⟨rfl, hR.1, (hb0.mono (show B ≤ w.heap.size by omega)).trans hR.2⟩
theorem open_c (s : ByteArray) (w : World) : Calls Try.prog 108 #[.string s] w fun e w' => e = .returned (.pointer (some ⟨w.heap.size, 0, none⟩)) ∧ RdrTo w.heap.size w.heap.size w w' s 0 := by
  have hr := row1_new w [.string s, .int .i64 0] 160
  have hb := below_alloc w (.cells #[.string s, .int .i64 0] 160)
  go_enter Try.func108, Try.ntmps108
  go_wp2
  go_ret
  exact ⟨rfl, hr, hb⟩
theorem wrong_c (gr : Nat) (s : ByteArray) (er : Int) (w : World) (h : Row1 w gr 160 [.string s, .int .i64 er]) : Calls Try.prog 110 #[.pointer (some ⟨gr, 0, none⟩)] w fun e w' => e = .returned (.int .i64 er) ∧ w = w' := by
  have c1 := h.cell (k := 1) rfl
  go_enter Try.func110, Try.ntmps110
  go_wp2
  go_ret
  exact ⟨rfl, rfl⟩

/-- it reads so, whatever is made. -/
def Reads (w : World) (dv : Value) (r : Int → ByteArray) : Prop := ∀ w', Below w.heap.size w w' → ∀ p, I64 p → Calls Try.prog 18 #[dv, .int .i64 p] w' fun e w'' => e = .returned (.string (r p)) ∧ Below w'.heap.size w' w''
theorem Reads.below {w w' : World} {dv : Value} {r : Int → ByteArray} (h : Reads w dv r) (hb : Below w.heap.size w w') : Reads w' dv r := fun w2 hb2 => h w2 (below_next hb hb.size hb2)
theorem Dsk.reads {w : World} {g gm : Nat} {v : Value} {d : Dk} (h : Dsk w g gm v d) (hl : d.C.length ≤ 1000000) : Reads w (.pointer (some ⟨g, 0, none⟩)) d.read := fun w' hb p hp => read_c g gm v d p w' (h.below hb) hp hl
theorem reads_nil (w : World) : Reads w (.pointer none) (fun _ => ⟨#[]⟩) := fun w' _ p _ => read_nil p w'

theorem w8_zero (b : ByteArray) : numB (b.data.toList.take 8) = w8 b 0 := by simp [w8]
theorem w8_extract (b : ByteArray) (k j : Nat) (h : 8 * j ≤ b.size) : w8 (b.extract (8 * j) b.size) k = w8 b (j + k) := by
  unfold w8
  have e : (b.extract (8 * j) b.size).data.toList = b.data.toList.drop (8 * j) := by
    have : b.size = b.data.toList.length := by rw [Array.length_toList]; rfl
    simp only [ByteArray.data_extract, Array.toList_extract, List.extract_eq_take_drop]
    rw [List.take_of_length_le (by rw [List.length_drop]; omega)]
  rw [e, List.drop_drop]
  congr 3; omega
theorem extract_twice (b : ByteArray) (j : Nat) (h : 8 * j + 8 ≤ b.size) : (b.extract (8 * j) b.size).extract 8 (b.extract (8 * j) b.size).size = b.extract (8 * (j + 1)) b.size := by
  apply bytes_ext
  have : b.size = b.data.toList.length := by rw [Array.length_toList]; rfl
  simp only [ByteArray.data_extract, Array.toList_extract, List.extract_eq_take_drop, ByteArray.size_extract]
  rw [List.take_of_length_le (by rw [List.length_drop, List.length_take, List.length_drop]; omega), List.take_of_length_le (by rw [List.length_drop]; omega), List.take_of_length_le (by rw [List.length_drop]; omega), List.drop_drop]
  congr 1
/-- what three numbers say of a head. -/
structure HdIs (b : ByteArray) (x1 x2 x3 : Nat × ByteArray × Int) : Prop where
  yes : x3.2.2 = 0 → x1.1 = x3.1 → 0 < x1.1 → hd b = (x1.1, x2.1)
  no : ¬ (x3.2.2 = 0 ∧ x1.1 = x3.1 ∧ 0 < x1.1) → hd b = (0, 0)
theorem rdN_err {m : Nat} {s : ByteArray} {e : Int} (h : e ≠ 0) : rdN m s e = (0, s, e) := by unfold rdN; rw [if_neg h]
theorem rdN_ok {m : Nat} {s : ByteArray} (h1 : 8 ≤ s.size) (h2 : w8 s 0 ≤ m) : rdN m s 0 = (w8 s 0, s.extract 8 s.size, 0) := by
  unfold rdN
  rw [if_pos rfl, if_neg (by omega), w8_zero, if_neg (by omega)]
theorem rdN_bad {m : Nat} {s : ByteArray} (h : ¬ (8 ≤ s.size ∧ w8 s 0 ≤ m)) : (rdN m s 0).1 = 0 ∧ (rdN m s 0).2.2 ≠ 0 := by
  unfold rdN
  rw [if_pos rfl]
  split
  · exact ⟨rfl, by decide⟩
  · rename_i h1
    rw [w8_zero]
    split
    · exact ⟨rfl, by decide⟩
    · rename_i h2; exact absurd ⟨by omega, by omega⟩ h
theorem hdIs (b : ByteArray) : HdIs b (rdN maxN b 0) (rdN roomN (rdN maxN b 0).2.1 (rdN maxN b 0).2.2) (rdN maxN (rdN roomN (rdN maxN b 0).2.1 (rdN maxN b 0).2.2).2.1 (rdN roomN (rdN maxN b 0).2.1 (rdN maxN b 0).2.2).2.2) := by
  have key : ∀ {x1 x2 x3 : Nat × ByteArray × Int}, x3.2.2 ≠ 0 → ¬ Hw b → HdIs b x1 x2 x3 := fun h1 h2 => ⟨fun h => absurd h h1, fun _ => by unfold hd; rw [if_neg h2]⟩
  have bad : ∀ {m : Nat} {s : ByteArray} {e : Int}, e ≠ 0 → (rdN m s e).2.2 ≠ 0 := fun h => by rw [rdN_err h]; exact h
  by_cases h1 : 8 ≤ b.size ∧ w8 b 0 ≤ maxN
  · rw [rdN_ok h1.1 h1.2]
    simp only
    have e1 : b.extract 8 b.size = b.extract (8 * 1) b.size := rfl
    have w1 : w8 (b.extract 8 b.size) 0 = w8 b 1 := by rw [e1, w8_extract _ _ _ (by omega)]
    have z1 : (b.extract 8 b.size).size = b.size - 8 := by rw [ByteArray.size_extract]; omega
    by_cases h2 : 8 ≤ (b.extract 8 b.size).size ∧ w8 (b.extract 8 b.size) 0 ≤ roomN
    · rw [rdN_ok h2.1 h2.2]
      simp only
      rw [e1, extract_twice b 1 (by omega), w8_extract _ _ _ (by omega)]
      have w2 : w8 (b.extract (8 * (1 + 1)) b.size) 0 = w8 b 2 := by rw [w8_extract _ _ _ (by omega)]
      have z2 : (b.extract (8 * (1 + 1)) b.size).size = b.size - 16 := by rw [ByteArray.size_extract]; omega
      by_cases h3 : 8 ≤ (b.extract (8 * (1 + 1)) b.size).size ∧ w8 (b.extract (8 * (1 + 1)) b.size) 0 ≤ maxN
      · rw [rdN_ok h3.1 h3.2, w2]
        refine ⟨fun _ h4 h5 => ?_, fun h => ?_⟩
        · unfold hd
          rw [if_pos ⟨by omega, h1.2, by rw [w1] at h2; exact h2.2, h4, h5⟩]
        · unfold hd
          rw [if_neg]
          intro hw
          exact h ⟨rfl, hw.2.2.2.1, hw.2.2.2.2⟩
      · refine key (rdN_bad h3).2 fun hw => h3 ⟨by have := hw.1; omega, ?_⟩
        rw [w2, ← hw.2.2.2.1]; exact hw.2.1
    · refine key (bad (rdN_bad h2).2) fun hw => h2 ⟨by have := hw.1; omega, ?_⟩
      rw [w1]; exact hw.2.2.1
  · refine key (bad (bad (rdN_bad h1).2)) fun hw => h1 ⟨by have := hw.1; omega, hw.2.1⟩
end Go.Proofs.Ythllhnjbddpeoaa
end

section
namespace Go.Proofs.Ythllhnjbddpeoaa
open Go Go.RowKit Go.Maps Go.Shelf Go.Proofs

/-- what a head's reading tells. -/
def HeadEnds (b : ByteArray) (e : Ending) : Prop := ∃ (a n : Nat) (wh : Bool), e = .returned (.tuple #[.int .i64 a, .int .i64 n, .bool wh]) ∧ (wh = true → hd b = (a, n) ∧ 0 < a) ∧ (wh = false → hd b = (0, 0))
set_option maxRecDepth 100000 in
set_option maxHeartbeats 1000000 in
theorem head_c (dv : Value) (r : Int → ByteArray) (p : Int) (w : World) (h : Reads w dv r) (hp : I64 p) :
    Calls Try.prog 89 #[.int .i64 p, dv] w fun e w' => HeadEnds (r p) e ∧ Below w.heap.size w w' := by
  have HR := hid (h w (Below.refl _ _) p hp)
  clear h hp
  obtain ⟨b, hrp⟩ : ∃ b, r p = b := ⟨_, rfl⟩
  rw [hrp] at HR ⊢
  clear hrp
  go_enter Try.func89, Try.ntmps89
  go_wp2_with (fail)
  refine HR.out.mono ?_
  rintro e w1 ⟨rfl, hb1⟩
  go_wp2_with (fail)
  refine (open_c b w1).mono ?_
  rintro e w2 ⟨rfl, hr2, hb2⟩
  obtain ⟨gr, hgr⟩ : ∃ n, w1.heap.size = n := ⟨_, rfl⟩
  have HG := hid hgr
  rw [hgr] at hr2 hb2 ⊢
  clear hgr
  have HI := hid (hdIs b)
  have H1 := hid (count_c gr gr b 0 maxN w2 hr2 (Nat.le_refl _) (by decide))
  go_wp2_with (fail)
  refine H1.out.mono ?_
  rintro e w3 ⟨rfl, hr3, hb3⟩
  clear H1 hr2
  obtain ⟨x1, h1⟩ : ∃ x, rdN maxN b 0 = x := ⟨_, rfl⟩
  rw [h1] at hr3 HI ⊢
  clear h1
  have H1 := hid (count_c gr gr x1.2.1 x1.2.2 roomN w3 hr3 (Nat.le_refl _) (by decide))
  go_wp2_with (fail)
  refine H1.out.mono ?_
  rintro e w4 ⟨rfl, hr4, hb4⟩
  clear H1 hr3
  obtain ⟨x2, h1⟩ : ∃ x, rdN roomN x1.2.1 x1.2.2 = x := ⟨_, rfl⟩
  rw [h1] at hr4 HI ⊢
  clear h1
  have H1 := hid (count_c gr gr x2.2.1 x2.2.2 maxN w4 hr4 (Nat.le_refl _) (by decide))
  go_wp2_with (fail)
  refine H1.out.mono ?_
  rintro e w5 ⟨rfl, hr5, hb5⟩
  clear H1 hr4
  obtain ⟨x3, h1⟩ : ∃ x, rdN maxN x2.2.1 x2.2.2 = x := ⟨_, rfl⟩
  rw [h1] at hr5 HI ⊢
  clear h1
  have hb : Below w.heap.size w w5 := ((hb1.trans ((((hb2.trans hb3).trans hb4).trans hb5).mono (by rw [← HG.out]; exact hb1.size))))
  clear hb1 hb2 hb3 hb4 hb5
  obtain ⟨a, s1, e1⟩ := x1
  obtain ⟨n, s2, e2⟩ := x2
  obtain ⟨c, s3, e3⟩ := x3
  go_wp2_with (fail)
  refine (wrong_c gr s3 e3 w5 hr5).mono ?_
  rintro e _ ⟨rfl, rfl⟩
  by_cases h1 : e3 = 0
  · subst h1
    by_cases h2 : a = c
    · subst h2
      by_cases h3 : 0 < a
      · go_wp2
        go_ret3
        exact ⟨⟨a, n, true, rfl, fun _ => ⟨HI.out.yes rfl rfl h3, h3⟩, fun h => by cases h⟩, hb⟩
      · go_wp2
        go_ret3
        exact ⟨⟨a, n, false, rfl, (fun h => by cases h), fun _ => HI.out.no fun h => h3 h.2.2⟩, hb⟩
    · go_wp2
      go_ret3
      exact ⟨⟨a, n, false, rfl, (fun h => by cases h), fun _ => HI.out.no fun h => h2 h.2.1⟩, hb⟩
  · have h1' : (e3 == 0) = false := by simpa using h1
    go_wp2
    go_ret3
    exact ⟨⟨a, n, false, rfl, (fun h => by cases h), fun _ => HI.out.no fun h => h1 h.1⟩, hb⟩

/-- the newest, as far as one place goes. -/
def stB (b : ByteArray) : Int × Nat × Nat := if 0 < (hd b).1 then (32768, (hd b).1, (hd b).2) else (0, 0, 0)
theorem newP_eq (b c : ByteArray) : newP b c = if 0 < (hd c).1 ∧ (stB b).2.1 ≤ (hd c).1 then (0, (hd c).1, (hd c).2) else stB b := by
  have e : (stB b).2.1 = (hd b).1 := by
    unfold stB
    split
    · rfl
    · simp only; omega
  rw [e]
  rfl
set_option maxRecDepth 100000 in
set_option maxHeartbeats 1000000 in
theorem newest_c (dv : Value) (r : Int → ByteArray) (w : World) (h : Reads w dv r) :
    Calls Try.prog 71 #[dv] w fun e w' => e = .returned (.tuple #[.int .i64 (newP (r 32768) (r 0)).1, .int .i64 (newP (r 32768) (r 0)).2.1, .int .i64 (newP (r 32768) (r 0)).2.2]) ∧ Below w.heap.size w w' := by
  have HR := hid h
  clear h
  have r1 := row1_new w [.int .i64 32768, .int .i64 0] 100
  have hb1 := below_alloc w (.cells #[.int .i64 32768, .int .i64 0] 100)
  go_enter Try.func71, Try.ntmps71
  go_wp2_with (fail)
  have HR1 := hid (HR.out.below hb1)
  generalize w.alloc _ = w1 at *
  obtain ⟨gs, hgs⟩ : ∃ n, w.heap.size = n := ⟨_, rfl⟩
  rw [hgs] at r1 hb1 ⊢
  go_loopw [2, 3, 4, 12] (fun at_ age long i wr => Below w1.heap.size w1 wr ∧ ((i = .int .i64 0 ∧ at_ = .int .i64 0 ∧ age = .int .i64 0 ∧ long = .int .i64 0) ∨ (i = .int .i64 1 ∧ at_ = .int .i64 (stB (r 32768)).1 ∧ age = .int .i64 (stB (r 32768)).2.1 ∧ long = .int .i64 (stB (r 32768)).2.2) ∨ (i = .int .i64 2 ∧ at_ = .int .i64 (newP (r 32768) (r 0)).1 ∧ age = .int .i64 (newP (r 32768) (r 0)).2.1 ∧ long = .int .i64 (newP (r 32768) (r 0)).2.2))) (fun _ _ _ i _ => 2 - (intOf i).toNat)
  case atStart => exact ⟨Below.refl _ _, .inl ⟨rfl, rfl, rfl, rfl⟩⟩
  case round =>
    obtain ⟨hb, hrel⟩ := hrel
    have hr := r1.below hb
    have HR2 := HR1.out.below hb
    rcases hrel with ⟨rfl, rfl, rfl, rfl⟩ | ⟨rfl, rfl, rfl, rfl⟩ | ⟨rfl, rfl, rfl, rfl⟩
    · have c0 := hr.cell (k := 0) rfl
      have HC := hid (head_c dv r 32768 wr HR2 ⟨by omega, by omega⟩)
      clear hr HR2
      go_wp2_with (fail)
      refine HC.out.mono ?_
      rintro e w2 ⟨⟨a, n, wh, rfl, hy, hn⟩, hb2⟩
      have HB := hid (hb.trans (hb2.mono hb.size))
      cases wh with
      | true =>
        obtain ⟨h1, h2⟩ := hy rfl
        have HS := hid (show stB (r 32768) = (32768, a, n) by unfold stB; rw [h1, if_pos h2])
        clear hy hn h1
        go_wp2
        go_roundw
        case rel => exact ⟨HB.out, .inr (.inl ⟨rfl, by rw [HS.out], by rw [HS.out], by rw [HS.out]⟩)⟩
        case measure => simp [intOf]
      | false =>
        have HS := hid (show stB (r 32768) = (0, 0, 0) by unfold stB; rw [hn rfl]; rfl)
        clear hy hn
        go_wp2
        go_roundw
        case rel => exact ⟨HB.out, .inr (.inl ⟨rfl, by rw [HS.out], by rw [HS.out]; rfl, by rw [HS.out]; rfl⟩)⟩
        case measure => simp [intOf]
    · have c0 := hr.cell (k := 1) rfl
      have HC := hid (head_c dv r 0 wr HR2 ⟨by omega, by omega⟩)
      have HE := hid (newP_eq (r 32768) (r 0))
      obtain ⟨⟨A, G, L⟩, hst⟩ : ∃ s, stB (r 32768) = s := ⟨_, rfl⟩
      rw [hst] at HE ⊢
      clear hr HR2 hst
      go_wp2_with (fail)
      refine HC.out.mono ?_
      rintro e w2 ⟨⟨a, n, wh, rfl, hy, hn⟩, hb2⟩
      have HB := hid (hb.trans (hb2.mono hb.size))
      cases wh with
      | true =>
        obtain ⟨h1, h2⟩ := hy rfl
        by_cases h3 : G ≤ a
        · have HS := hid (show newP (r 32768) (r 0) = (0, a, n) by rw [HE.out, h1, if_pos ⟨h2, h3⟩])
          clear hy hn h1
          go_wp2
          go_roundw
          case rel => exact ⟨HB.out, .inr (.inr ⟨rfl, by rw [HS.out], by rw [HS.out], by rw [HS.out]⟩)⟩
          case measure => simp [intOf]
        · have HS := hid (show newP (r 32768) (r 0) = (A, G, L) by rw [HE.out, h1, if_neg (fun h => h3 h.2)])
          clear hy hn h1
          go_wp2
          go_roundw
          case rel => exact ⟨HB.out, .inr (.inr ⟨rfl, by rw [HS.out], by rw [HS.out], by rw [HS.out]⟩)⟩
          case measure => simp [intOf]
      | false =>
        have HS := hid (show newP (r 32768) (r 0) = (A, G, L) by rw [HE.out, hn rfl, if_neg (fun h => absurd h.1 (by decide))])
        clear hy hn
        go_wp2
        go_roundw
        case rel => exact ⟨HB.out, .inr (.inr ⟨rfl, by rw [HS.out], by rw [HS.out], by rw [HS.out]⟩)⟩
        case measure => simp [intOf]
    · have HB := hid (hb1.trans (hb.mono (by rw [← hgs]; exact (hgs ▸ hb1 : Below w.heap.size w w1).size)))
      clear hr HR2
      go_wp2
      go_ret3
      exact ⟨rfl, by rw [hgs]; exact HB.out⟩
/-- how many sectors a text has. -/
def secs_of (n : Nat) : Nat := (n + 511) / 512
theorem sectors_of (n : Nat) (w : World) (hn : n ≤ 1000000000000) : Calls Try.prog 78 #[.int .i64 (n : Int)] w fun e w' => e = .returned (.int .i64 (secs_of n)) ∧ w = w' := by
  have he : ((n : Int) + 511) / 512 = ((secs_of n : Nat) : Int) := by unfold secs_of; omega
  have HE := hid he
  clear he
  go_enter Try.func78, Try.ntmps78
  go_wp2
  go_ret
  exact ⟨ret_int (by rw [← HE.out]; omega), rfl⟩
theorem age_c (dv : Value) (r : Int → ByteArray) (w : World) (h : Reads w dv r) :
    Calls Try.prog 42 #[dv] w fun e w' => e = .returned (.int .i64 (newP (r 32768) (r 0)).2.1) ∧ Below w.heap.size w w' := by
  have HN := hid (newest_c dv r w h)
  clear h
  go_enter Try.func42, Try.ntmps42
  go_wp2_with (fail)
  refine HN.out.mono ?_
  rintro e w2 ⟨rfl, hb⟩
  go_wp2
  go_ret
  exact ⟨rfl, hb⟩
end Go.Proofs.Ythllhnjbddpeoaa
end
