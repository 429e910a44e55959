/-
  How many sent a text, whatever text, anything.
-/
import Derived.Test.YtnngnekfgijejaaTalI
import Derived.Shelf.Abstract
namespace Go.Proofs.Ytnngnekfgijejaa
open Go.RowKit Go.Maps Go.Shelf

theorem below_row {w W : World} {b : Nat} {e : TypeId} {xs : List Value} (h : Row1 w b e xs) (hb : Below w.heap.size w W) : Row1 W b e xs := h.below hb
set_option maxRecDepth 100000 in
theorem tcount_c (g gm : Nat) (n : Int) (L : List Vt) (r k : Int) (s : ByteArray) (w : World) (h : Tly w g gm n L) :
    Calls Try.prog 15 #[.pointer (some ⟨g, 0, none⟩), .int .i64 r, .int .u8 k, .string s] w fun e w' => e = .returned (.int .i64 (cntN (pCnt r k s) L)) ∧ Below w.heap.size w w' := by
  obtain ⟨m, rfl⟩ : ∃ m : Nat, n = m := ⟨n.toNat, by have := h.n; omega⟩
  have hb : Below w.heap.size w (((w.alloc (.cells #[.int .i64 r] 3)).alloc (.cells #[.int .u8 k] 5)).alloc (.cells #[.string s] 9)) := ((below_alloc w _).alloc (by simp) _).alloc (by simp; omega) _
  have h1 : Row1 (((w.alloc (.cells #[.int .i64 r] 3)).alloc (.cells #[.int .u8 k] 5)).alloc (.cells #[.string s] 9)) w.heap.size 3 [.int .i64 r] := ((row1_new w [.int .i64 r] 3).alloc _).alloc _
  have h2 : Row1 (((w.alloc (.cells #[.int .i64 r] 3)).alloc (.cells #[.int .u8 k] 5)).alloc (.cells #[.string s] 9)) (w.heap.size + 1) 5 [.int .u8 k] := by
    have := (row1_new (w.alloc (.cells #[.int .i64 r] 3)) [.int .u8 k] 5).alloc (.cells #[.string s] 9)
    simpa using this
  have h3 : Row1 (((w.alloc (.cells #[.int .i64 r] 3)).alloc (.cells #[.int .u8 k] 5)).alloc (.cells #[.string s] 9)) (w.heap.size + 1 + 1) 9 [.string s] := by
    have := (row1_new ((w.alloc (.cells #[.int .i64 r] 3)).alloc (.cells #[.int .u8 k] 5)) [.string s] 9)
    simpa using this
  have hT := h.below hb
  go_enter Try.func15, Try.ntmps15
  go_wp2_with (fail)
  generalize ((w.alloc (.cells #[.int .i64 r] 3)).alloc (.cells #[.int .u8 k] 5)).alloc (.cells #[.string s] 9) = w3 at *
  refine (members_c 37 #[.pointer (some ⟨w.heap.size, 0, none⟩), .pointer (some ⟨w.heap.size + 1, 0, none⟩), .pointer (some ⟨w.heap.size + 1 + 1, 0, none⟩)] (pCnt r k s) g gm m L w3 hT (enters_of Try.func37 (by kernel_rfl) rfl)
    (fun W v hW => count1_c _ _ _ r k s v W (h1.below hW) (h2.below hW) (h3.below hW))).mono ?_
  rintro e w4 ⟨rfl, hb4⟩
  go_wp2
  go_ret
  have he : memN m (pCnt r k s) L = cntN (pCnt r k s) L := memN_cnt (r := r) (k := k) (fun v hv => by simp only [pCnt, Bool.and_eq_true, beq_iff_eq] at hv; exact hv.1) L hT.srt hT.mays
  exact ⟨ret_int (by rw [he]), below_next hb hb.size hb4⟩
set_option maxRecDepth 100000 in
theorem tall_c (g gm : Nat) (n : Int) (L : List Vt) (r k : Int) (w : World) (h : Tly w g gm n L) :
    Calls Try.prog 17 #[.pointer (some ⟨g, 0, none⟩), .int .i64 r, .int .u8 k] w fun e w' => e = .returned (.int .i64 (cntN (pAll r k) L)) ∧ Below w.heap.size w w' := by
  obtain ⟨m, rfl⟩ : ∃ m : Nat, n = m := ⟨n.toNat, by have := h.n; omega⟩
  have hb : Below w.heap.size w ((w.alloc (.cells #[.int .i64 r] 3)).alloc (.cells #[.int .u8 k] 5)) := (below_alloc w _).alloc (by simp) _
  have h1 : Row1 ((w.alloc (.cells #[.int .i64 r] 3)).alloc (.cells #[.int .u8 k] 5)) w.heap.size 3 [.int .i64 r] := (row1_new w [.int .i64 r] 3).alloc _
  have h2 : Row1 ((w.alloc (.cells #[.int .i64 r] 3)).alloc (.cells #[.int .u8 k] 5)) (w.heap.size + 1) 5 [.int .u8 k] := by
    have := (row1_new (w.alloc (.cells #[.int .i64 r] 3)) [.int .u8 k] 5)
    simpa using this
  have hT := h.below hb
  go_enter Try.func17, Try.ntmps17
  go_wp2_with (fail)
  generalize (w.alloc (.cells #[.int .i64 r] 3)).alloc (.cells #[.int .u8 k] 5) = w3 at *
  refine (members_c 39 #[.pointer (some ⟨w.heap.size, 0, none⟩), .pointer (some ⟨w.heap.size + 1, 0, none⟩)] (pAll r k) g gm m L w3 hT (enters_of Try.func39 (by kernel_rfl) rfl)
    (fun W v hW => all1_c _ _ r k v W (h1.below hW) (h2.below hW))).mono ?_
  rintro e w4 ⟨rfl, hb4⟩
  go_wp2
  go_ret
  have he : memN m (pAll r k) L = cntN (pAll r k) L := memN_cnt (r := r) (k := k) (fun v hv => by simpa [pAll] using hv) L hT.srt hT.mays
  exact ⟨ret_int (by rw [he]), below_next hb hb.size hb4⟩
set_option maxRecDepth 100000 in
theorem tsent_c (g gm : Nat) (n : Int) (L : List Vt) (r : Int) (w : World) (h : Tly w g gm n L) :
    Calls Try.prog 18 #[.pointer (some ⟨g, 0, none⟩), .int .i64 r] w fun e w' => e = .returned (.int .i64 (sentT r L L.length)) ∧ Below w.heap.size w w' := by
  obtain ⟨m, rfl⟩ : ∃ m : Nat, n = m := ⟨n.toNat, by have := h.n; omega⟩
  have hb : Below w.heap.size w (w.alloc (.cells #[.int .i64 r] 3)) := below_alloc w _
  have h1 : Row1 (w.alloc (.cells #[.int .i64 r] 3)) w.heap.size 3 [.int .i64 r] := row1_new w [.int .i64 r] 3
  have hT := h.below hb
  go_enter Try.func18, Try.ntmps18
  go_wp2_with (fail)
  generalize w.alloc (.cells #[.int .i64 r] 3) = w3 at *
  refine (members_c 40 #[.pointer (some ⟨w.heap.size, 0, none⟩)] (pSent r) g gm m L w3 hT (enters_of Try.func40 (by kernel_rfl) rfl)
    (fun W v hW => sent1_c _ r v W (h1.below hW))).mono ?_
  rintro e w4 ⟨rfl, hb4⟩
  go_wp2
  go_ret
  have he : memN m (pSent r) L = sentT r L L.length := memN_sent r L hT.srt hT.mays
  exact ⟨ret_int (by rw [he]), below_next hb hb.size hb4⟩
/-- nobody's tally. -/
theorem tcount_nil (r k : Int) (s : ByteArray) (w : World) :
    Calls Try.prog 15 #[.pointer none, .int .i64 r, .int .u8 k, .string s] w fun e w' => e = .returned (.int .i64 0) ∧ Below w.heap.size w w' := by
  go_enter Try.func15, Try.ntmps15
  go_wp2_with (fail)
  refine (members_nil _ _).mono ?_
  rintro e w4 ⟨rfl, rfl⟩
  go_wp2
  go_ret
  exact ⟨rfl, ((below_alloc w _).alloc (by simp) _).alloc (by simp; omega) _⟩
theorem tall_nil (r k : Int) (w : World) :
    Calls Try.prog 17 #[.pointer none, .int .i64 r, .int .u8 k] w fun e w' => e = .returned (.int .i64 0) ∧ Below w.heap.size w w' := by
  go_enter Try.func17, Try.ntmps17
  go_wp2_with (fail)
  refine (members_nil _ _).mono ?_
  rintro e w4 ⟨rfl, rfl⟩
  go_wp2
  go_ret
  exact ⟨rfl, (below_alloc w _).alloc (by simp) _⟩
theorem tsent_nil (r : Int) (w : World) :
    Calls Try.prog 18 #[.pointer none, .int .i64 r] w fun e w' => e = .returned (.int .i64 0) ∧ Below w.heap.size w w' := by
  go_enter Try.func18, Try.ntmps18
  go_wp2_with (fail)
  refine (members_nil _ _).mono ?_
  rintro e w4 ⟨rfl, rfl⟩
  go_wp2
  go_ret
  exact ⟨rfl, below_alloc w _⟩
end Go.Proofs.Ytnngnekfgijejaa
