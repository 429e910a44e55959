/-
  Parts of: XEval, XBivA, XPolA, XPolB, XPolC, XPolD, XPolF (by pick.py).
-/
import Derived.Test.YtgdfphcggjclkaaDoorRaD
import Derived.Test.YtgdfphcggjclkaaDoorRegion
import Derived.Test.YtgdfphcggjclkaaDoorPolyPlainB
import Derived.Test.YtgdfphcggjclkaaDoorRegionB
import Derived.StillTailTactics
namespace Go.Proofs.YtgdfphcggjclkaaDoor
/-! From XEval. -/
open Go.RowKit

set_option maxHeartbeats 400000 in
theorem eval_c (A : Option Addr) (l : List Int) (c : Nat) (x q : Int) (w : World) (hA : Cells w A (l.map (.int .u64))) (hl : l.length ≤ 9223372036854775807) (hu : ∀ z ∈ l, U64 z) (hx : U64 x) (hq : U64 q) :
    Calls Tryd.prog 23 #[.slice A l.length c, .int .u64 x, .int .u64 q] w fun e w' => e = .returned (.int .u64 (mEval l x q)) ∧ Dr w w' := by
  go_enter Tryd.func23, Tryd.ntmps23
  go_wp2
  go_loopw [7, 8, 11] (fun o _ i wr => ∃ k : Nat, i = .int .i64 k ∧ k ≤ l.length ∧ o = .int .u64 (mEval (l.drop (l.length - k)) x q) ∧ Dr w wr) (fun _ _ i _ => l.length - (intOf i).toNat)
  case atStart => exact ⟨0, rfl, by omega, by rw [Nat.sub_zero, List.drop_length, mEval_nil], Dr.refl w⟩
  case round =>
    obtain ⟨k, rfl, hk, rfl, hw⟩ := hrel
    by_cases hlt : k < l.length
    · obtain ⟨j, hj⟩ : ∃ j, l.length = k + 1 + j := ⟨l.length - k - 1, by omega⟩
      have hj' : ((l.length : Nat) : Int) - 1 - k = (j : Int) := by omega
      obtain ⟨z, hz⟩ := get_of_lt (l := l) (show j < l.length by omega)
      obtain ⟨b, off, rfl, hc⟩ := (hA.dr hw).at_map hz
      have huz := hu z (List.mem_of_getElem? hz)
      have hstep := mEval_drop hz x q
      rw [show l.length - k = j + 1 by omega]
      have hm := mEval_u64 (l.drop (j + 1)) x q
      obtain ⟨v, hv⟩ : ∃ v, mEval (l.drop (j + 1)) x q = v := ⟨_, rfl⟩
      rw [hv] at hstep hm ⊢
      have hjl : j < l.length := by omega
      have HS := hid hstep
      have HJ := hid hj
      clear hstep hv hj
      go_wp2
      go_quiet (first | (go_at_call 22; exact quiet_dr (mul_c _ _ _ hm hx hq _)) | (go_at_call 21; exact quiet_dr (add_c _ _ _ (mMul_u64 _ _ _) huz hq _)))
      go_wp2
      go_roundw
      case rel => exact ⟨k + 1, by go_num, by omega, by rw [show l.length - (k + 1) = j by have := HJ.out; omega, HS.out], hw.more _⟩
      case measure => simp [intOf]; omega
    · obtain rfl : k = l.length := by omega
      go_wp2
      go_ret
      exact ⟨ret_int (by rw [Nat.sub_self]; rfl), hw⟩

/-! From XBivA. -/
open Go.RowKit

theorem U64s.at_ {l : List Int} (h : U64s l) {k : Nat} {z : Int} (hk : l[k]? = some z) : U64 z := h z (List.mem_of_getElem? hk)

/-- of a row the first k are known; behind them are 0s. -/
def filled (xs : List Int) (n k : Nat) : List Value := (xs.take k).map (.int .u64) ++ List.replicate (n - k) (.int .u64 0)
theorem filled_zero (xs : List Int) (n : Nat) : filled xs n 0 = List.replicate n (.int .u64 0) := by simp [filled]
theorem filled_len (xs : List Int) (n k : Nat) (h : k ≤ n) (hx : xs.length = n) : (filled xs n k).length = n := by
  simp [filled]; omega
theorem filled_at (xs : List Int) (n k : Nat) (h : k < n) (hx : xs.length = n) : (filled xs n k)[k]? = some (.int .u64 0) := by
  unfold filled
  rw [List.getElem?_append_right (by simp; omega)]
  simp only [List.length_map, List.length_take]
  rw [List.getElem?_replicate, if_pos (by omega)]
theorem filled_set (xs : List Int) (n k : Nat) (x : Int) (h : k < n) (hx : xs.length = n) (hk : xs[k]? = some x) : (filled xs n k).set k (.int .u64 x) = filled xs n (k + 1) := by
  apply List.ext_getElem?
  intro i
  unfold filled
  rcases Nat.lt_trichotomy i k with hi | hi | hi
  · rw [List.getElem?_set_ne (by omega), List.getElem?_append_left (by simp; omega), List.getElem?_append_left (by simp; omega)]
    simp only [List.getElem?_map, List.getElem?_take]
    rw [if_pos hi, if_pos (by omega)]
  · subst hi
    rw [List.getElem?_set_self (by simp; omega), List.getElem?_append_left (by simp; omega)]
    simp [List.getElem?_take, hk]
  · rw [List.getElem?_set_ne (by omega), List.getElem?_append_right (by simp; omega), List.getElem?_append_right (by simp; omega)]
    simp only [List.length_map, List.length_take, List.getElem?_replicate]
    have e1 : min k xs.length = k := by omega
    have e2 : min (k + 1) xs.length = k + 1 := by omega
    rw [e1, e2]
    by_cases hin : i < n
    · rw [if_pos (by omega), if_pos (by omega)]
    · rw [if_neg (by omega), if_neg (by omega)]
theorem filled_all (xs : List Int) (n : Nat) (hx : xs.length = n) : filled xs n n = xs.map (.int .u64) := by
  unfold filled; rw [← hx]; simp

/-- the result of a call: a new list of uint64s. -/
def NewNumsP (xs : List Int) (w : World) (e : Ending) (w' : World) : Prop := ∃ v, e = .returned v ∧ Own w' w.heap.size 23 v (xs.map (.int .u64)) ∧ Below w.heap.size w w'

/-! From XPolA. -/
open Go.RowKit

attribute [local go_sem] Oper.semAt_some

set_option maxHeartbeats 400000 in
theorem pmay_c (m : Int) (hm : U64 m) (w : World) :
    Calls Tryd.prog 64 #[.int .u64 m] w fun e w' => e = .returned (.bool (okm m)) ∧ w = w' := by
  obtain ⟨h0, h1⟩ := hm
  by_cases h : 0 < m
  · go_enter Tryd.func64, Tryd.ntmps64
    go_wp2
    go_ret
    exact ⟨by simp [okm, h], rfl⟩
  · have hd : decide (0 < m) = false := by simpa using h
    go_enter Tryd.func64, Tryd.ntmps64
    go_wp2
    go_ret
    exact ⟨by simp [okm, hd], rfl⟩
/-- a coefficient modulo q, 0 behind the end. -/
def cAt (l : List Int) (i : Nat) (q : Int) : Int := l.getD i 0 % q
theorem cAt_in {l : List Int} {i : Nat} {z : Int} (h : l[i]? = some z) (q : Int) : cAt l i q = z % q := by unfold cAt; rw [List.getD_eq_getElem?_getD, h]; rfl
theorem cAt_out {l : List Int} {i : Nat} (h : l.length ≤ i) (q : Int) : cAt l i q = 0 := by unfold cAt; rw [List.getD_eq_getElem?_getD, List.getElem?_eq_none h]; simp
theorem cAt_u64 (l : List Int) (i : Nat) {q : Int} (h : okm q = true) : U64 (cAt l i q) := mod_u64 h

theorem over1_c (A : Option Addr) (l : List Int) (c i g1 g2 : Nat) (q : Int) (w : World) (hr1 : Row1 w g1 22 [.slice A l.length c]) (hr2 : Row1 w g2 23 [.int .u64 q]) (hA : Cells w A (l.map (.int .u64))) (_ : l.length ≤ 9223372036854775807) (_ : i ≤ 9223372036854775807) (hu : U64s l) (hq : okm q = true) :
    Calls Tryd.prog 86 #[.int .i64 i, .pointer (some ⟨g1, 0, none⟩), .pointer (some ⟨g2, 0, none⟩)] w fun e w' => e = .returned (.int .u64 (cAt l i q)) ∧ Dr w w' := by
  have h0 := okm_pos hq
  have h1 := okm_le hq
  have c1 := hr1.cell (k := 0) rfl
  have c2 := hr2.cell (k := 0) rfl
  by_cases hin : i < l.length
  · obtain ⟨z, hz⟩ := get_of_lt hin
    obtain ⟨o2, off2, rfl, hcz⟩ := hA.at_map hz
    obtain ⟨z0, z1⟩ := hu.at_ hz
    have he := hid (cAt_in hz q)
    have hm0 := Int.emod_nonneg z (b := q) (by omega)
    have hm1 := Int.emod_lt_of_pos z h0
    clear hz
    go_enter Tryd.func86, Tryd.ntmps86
    go_wp2
    go_quiet (fail)
    go_wp2
    go_ret
    exact ⟨ret_int he.out.symm, _, rfl⟩
  · have he := hid (cAt_out (l := l) (i := i) (by omega) q)
    go_enter Tryd.func86, Tryd.ntmps86
    go_wp2
    go_ret
    exact ⟨ret_int he.out.symm, Dr.refl _⟩

theorem over_c (A : Option Addr) (n c : Nat) (q : Int) (w : World) :
    Calls Tryd.prog 65 #[.slice A n c, .int .u64 q] w fun e w' => ∃ g1 g2, e = .returned (.func (.func 86) #[] #[.pointer (some ⟨g1, 0, none⟩), .pointer (some ⟨g2, 0, none⟩)]) ∧ Row1 w' g1 22 [.slice A n c] ∧ Row1 w' g2 23 [.int .u64 q] ∧ Below w.heap.size w w' ∧ w.heap.size ≤ g1 ∧ w.heap.size ≤ g2 := by
  go_enter Tryd.func65, Tryd.ntmps65
  go_wp2
  go_ret
  refine ⟨_, _, rfl, (row1_new w [.slice A n c] 22).alloc _, ?_, (below_alloc w _).alloc (by simp) _, Nat.le_refl _, by simp⟩
  have := row1_new (w.alloc (.cells #[.slice A n c] 22)) [.int .u64 q] 23
  simpa using this

/-- a multiple. -/
def pScale (a : List Int) (k q : Int) : List Int := if okm q then a.map fun c => mMul c k q else []

set_option maxHeartbeats 1000000 in
theorem pscale_c (A : Option Addr) (a : List Int) (c : Nat) (k q : Int) (w : World) (hA : Cells w A (a.map (.int .u64))) (hl : a.length ≤ 17592186044416) (hu : U64s a) (hk : U64 k) (hq : U64 q) :
    Calls Tryd.prog 28 #[.slice A a.length c, .int .u64 k, .int .u64 q] w (NewNumsP (pScale a k q) w) := by
  by_cases h : okm q = true
  · have hlen : (a.map fun c => mMul c k q).length = a.length := by simp
    have hps : Hid (pScale a k q = a.map fun c => mMul c k q) := hid (by unfold pScale; rw [if_pos h])
    go_enter Tryd.func28, Tryd.ntmps28
    go_wp2_with (first | (go_at_call 64; refine (pmay_c _ hq _).mono ?_; rintro e w' ⟨rfl, rfl⟩; rw [h]) | (at_make; refine wpList_make_row elt_u64 _ rfl _ _ rfl .i64 .i64 _ _ a.length rfl rfl rfl rfl (by omega) (by omega) ?_; intro w1 hr1 hs1 hb1))
    go_loopw [8, 9, 18] (fun _ _ i wr => ∃ j : Nat, i = .int .i64 j ∧ j ≤ a.length ∧ Row1 wr w.heap.size 23 (filled (a.map fun c => mMul c k q) a.length j) ∧ Below w.heap.size w wr) (fun _ _ i _ => a.length - (intOf i).toNat)
    case atStart => exact ⟨0, rfl, by omega, by rw [filled_zero]; exact hr1, hb1⟩
    case round =>
      obtain ⟨j, rfl, hj, hr, hb⟩ := hrel
      by_cases hlt : j < a.length
      · obtain ⟨z, hz⟩ := get_of_lt hlt
        obtain ⟨o2, off2, rfl, hcz⟩ := (hA.keep fun p hp => hb.cell hp).at_map hz
        have huz := hu.at_ hz
        have hz2 : (a.map fun c => mMul c k q)[j]? = some (mMul z k q) := by rw [List.getElem?_map, hz]; rfl
        clear hz
        go_wp2_with (go_at_call 22; refine (mul_c _ _ _ huz hk hq _).mono ?_; rintro e w2 ⟨rfl, hw2⟩; have hc2 := (hr.dr hw2).cell (filled_at _ _ _ hlt hlen); have hf2 := (hr.dr hw2).frozen j)
        go_roundw
        case rel => exact ⟨j + 1, by go_num, by omega, by rw [← filled_set _ _ _ _ hlt hlen hz2]; exact (hr.dr hw2).set j _, (below_dr hb hw2).setCell (by simp) _⟩
        case measure => simp [intOf]; omega
      · obtain rfl : j = a.length := by omega
        go_wp2
        go_ret
        refine ⟨_, rfl, ?_, hb⟩
        rw [filled_all _ _ hlen] at hr
        have := hr.own (Nat.le_refl _) (by simp; omega)
        rw [hps.out]
        simpa [hlen] using this
  · have h' : okm q = false := by simpa using h
    go_enter Tryd.func28, Tryd.ntmps28
    go_wp2_with (go_at_call 64; refine (pmay_c _ hq _).mono ?_; rintro e w' ⟨rfl, rfl⟩; rw [h'])
    go_ret
    have : pScale a k q = [] := by unfold pScale; rw [if_neg h]
    rw [this]
    exact ⟨_, rfl, Own.nil _ _ _, Below.refl _ _⟩

/-! From XPolB. -/
open Go.RowKit

attribute [local go_sem] Oper.semAt_some

/-- a sum. -/
def sumL (a b : List Int) (q : Int) : List Int := (List.range (max a.length b.length)).map fun i => mAdd (cAt a i q) (cAt b i q) q
def pSum (a b : List Int) (q : Int) : List Int := if okm q then sumL a b q else []
theorem sumL_len (a b : List Int) (q : Int) : (sumL a b q).length = max a.length b.length := by simp [sumL]
theorem sumL_at (a b : List Int) (q : Int) {i : Nat} (h : i < max a.length b.length) : (sumL a b q)[i]? = some (mAdd (cAt a i q) (cAt b i q) q) := by
  unfold sumL; rw [List.getElem?_map, List.getElem?_range h]; rfl

set_option maxHeartbeats 1000000 in
theorem psum_c (A B : Option Addr) (a b : List Int) (c d : Nat) (q : Int) (w : World) (hA : Cells w A (a.map (.int .u64))) (hB : Cells w B (b.map (.int .u64))) (hl : a.length ≤ 1000000) (hl' : b.length ≤ 1000000) (hu : U64s a) (hu' : U64s b) (hq : U64 q) :
    Calls Tryd.prog 27 #[.slice A a.length c, .slice B b.length d, .int .u64 q] w (NewNumsP (pSum a b q) w) := by
  by_cases h : okm q = true
  · have hps : Hid (pSum a b q = sumL a b q) := hid (by unfold pSum; rw [if_pos h])
    have hlen := sumL_len a b q
    obtain ⟨n, hn⟩ : ∃ n, max a.length b.length = n := ⟨_, rfl⟩
    have hat : ∀ i, i < n → (sumL a b q)[i]? = some (mAdd (cAt a i q) (cAt b i q) q) := fun i hi => sumL_at a b q (by omega)
    have hni : max (a.length : Int) (b.length : Int) = (n : Int) := by omega
    have hnl : n ≤ 1000000 := by omega
    rw [hn] at hlen
    have HS := hid (⟨hlen, hat, hni⟩ : _ ∧ _ ∧ _)
    generalize sumL a b q = s at *
    clear hat hn hni
    go_enter Tryd.func27, Tryd.ntmps27
    go_wp2_with (go_at_call 64; refine (pmay_c _ hq _).mono ?_; rintro e w' ⟨rfl, rfl⟩; rw [h])
    refine (over_c A a.length c q w).mono ?_
    rintro e w1 ⟨g1, g2, rfl, r1, r2, hb1, _, _⟩
    go_wp2_with (fail)
    refine (over_c B b.length d q w1).mono ?_
    rintro e w2 ⟨g3, g4, rfl, r3, r4, hb2, _, _⟩
    have R1 := r1.below hb2
    have R2 := r2.below hb2
    have hb3 := below_next hb1 hb1.size hb2
    have hA2 := hA.keep fun p hp => hb3.cell hp
    have hB2 := hB.keep fun p hp => hb3.cell hp
    clear r1 r2 hb1 hb2
    go_wp2_with (at_make; refine wpList_make_row elt_u64 _ rfl _ _ rfl .i64 .i64 _ _ n rfl rfl HS.out.2.2 HS.out.2.2 (by omega) (by omega) ?_; intro w3 hr3 hs3 hb4)
    go_loopw [10, 28] (fun _ i wr => ∃ j : Nat, i = .int .i64 j ∧ j ≤ n ∧ Row1 wr w2.heap.size 23 (filled s n j) ∧ Below w2.heap.size w2 wr) (fun _ i _ => n - (intOf i).toNat)
    case atStart => exact ⟨0, rfl, by omega, by rw [filled_zero]; exact hr3, hb4⟩
    case round =>
      obtain ⟨j, rfl, hj, hr, hb⟩ := hrel
      by_cases hlt : j < n
      · have hz2 := HS.out.2.1 j hlt
        have R1' := R1.below hb
        have R2' := R2.below hb
        have R3' := r3.below hb
        have R4' := r4.below hb
        have hA3 := hA2.keep fun p hp => hb.cell hp
        have hB3 := hB2.keep fun p hp => hb.cell hp
        go_wp2_with (fail)
        refine (over1_c A a c j g1 g2 q wr R1' R2' hA3 (by omega) (by omega) hu h).mono ?_
        rintro e w5 ⟨rfl, hw5⟩
        go_wp2_with (fail)
        refine (over1_c B b d j g3 g4 q w5 (R3'.dr hw5) (R4'.dr hw5) (hB3.dr hw5) (by omega) (by omega) hu' h).mono ?_
        rintro e w6 ⟨rfl, hw6⟩
        go_wp2_with (go_at_call 21; refine (add_c _ _ _ (cAt_u64 a j h) (cAt_u64 b j h) hq _).mono ?_; rintro e w7 ⟨rfl, hw7⟩; have hr7 := ((hr.dr hw5).dr hw6).dr hw7; have hc7 := hr7.cell (filled_at _ _ _ hlt HS.out.1); have hf7 := hr7.frozen j)
        go_roundw
        case rel => exact ⟨j + 1, by go_num, by omega, by rw [← filled_set _ _ _ _ hlt HS.out.1 hz2]; exact hr7.set j _, (below_dr (below_dr (below_dr hb hw5) hw6) hw7).setCell (by simp) _⟩
        case measure => simp [intOf]; omega
      · obtain rfl : j = n := by omega
        go_wp2
        go_ret
        refine ⟨_, rfl, ?_, below_next hb3 hb3.size hb⟩
        rw [filled_all _ _ HS.out.1] at hr
        have h9 := (hr.own (Nat.le_refl _) (by rw [List.length_map, HS.out.1]; omega)).from_ hb3.size
        rw [List.length_map, HS.out.1] at h9
        rw [hps.out]
        exact h9
  · have h' : okm q = false := by simpa using h
    go_enter Tryd.func27, Tryd.ntmps27
    go_wp2_with (go_at_call 64; refine (pmay_c _ hq _).mono ?_; rintro e w' ⟨rfl, rfl⟩; rw [h'])
    go_ret
    have : pSum a b q = [] := by unfold pSum; rw [if_neg h]
    rw [this]
    exact ⟨_, rfl, Own.nil _ _ _, Below.refl _ _⟩

/-! From XPolC. -/
open Go.RowKit

attribute [local go_sem] Oper.semAt_some

/-- number n of a product, of the first i numbers of the first. -/
def tAt (a b : List Int) (q : Int) (n : Nat) : Nat → Int
  | 0 => 0
  | i + 1 => if i < a.length ∧ i ≤ n ∧ n - i < b.length then mAdd (tAt a b q n i) (mMul (a.getD i 0) (b.getD (n - i) 0) q) q else tAt a b q n i
theorem tAt_u64 (a b : List Int) (q : Int) (n : Nat) : ∀ i, U64 (tAt a b q n i)
  | 0 => ⟨by unfold tAt; omega, by unfold tAt; omega⟩
  | i + 1 => by
    unfold tAt; split
    · exact mAdd_u64 _ _ _
    · exact tAt_u64 a b q n i
theorem tAt_step {a b : List Int} {q : Int} {n i : Nat} {x y : Int} (h1 : i ≤ n) (h2 : a[i]? = some x) (h3 : b[n - i]? = some y) : tAt a b q n (i + 1) = mAdd (tAt a b q n i) (mMul x y q) q := by
  have e1 := (List.getElem?_eq_some_iff.1 h2).1
  have e2 := (List.getElem?_eq_some_iff.1 h3).1
  rw [tAt, if_pos ⟨e1, h1, e2⟩, List.getD_eq_getElem?_getD, List.getD_eq_getElem?_getD, h2, h3]; rfl
theorem tAt_same {a b : List Int} {q : Int} {n i : Nat} (h : ¬ (i < a.length ∧ i ≤ n ∧ n - i < b.length)) : tAt a b q n (i + 1) = tAt a b q n i := by rw [tAt, if_neg h]
theorem tAt_end {a b : List Int} {q : Int} {n i : Nat} (h : a.length ≤ i ∨ n < i) : ∀ d, tAt a b q n (i + d) = tAt a b q n i
  | 0 => rfl
  | d + 1 => by
    rw [← Nat.add_assoc, tAt_same (by omega), tAt_end h d]
theorem tAt_both (a b : List Int) (q : Int) (n : Nat) : tAt a b q n a.length = tAt a b q n (n + 1) := by
  rcases Nat.le_total a.length (n + 1) with h | h
  · obtain ⟨d, hd⟩ := Nat.exists_eq_add_of_le h
    rw [hd, tAt_end (.inl (Nat.le_refl _))]
  · obtain ⟨d, hd⟩ := Nat.exists_eq_add_of_le h
    rw [hd, tAt_end (.inr (by omega))]

def timesP (a b : List Int) (q : Int) : List Int := (List.range (a.length + b.length - 1)).map fun n => tAt a b q n (n + 1)
def pTimes (a b : List Int) (q : Int) : List Int := if okm q = true ∧ 0 < a.length ∧ 0 < b.length then timesP a b q else []
/-- the product while it is made. -/
def tRow (a b : List Int) (q : Int) (i k : Nat) : List Int := (List.range (a.length + b.length - 1)).map fun n => if i ≤ n ∧ n - i < k then tAt a b q n (i + 1) else tAt a b q n i
theorem tRow_zero (a b : List Int) (q : Int) : tRow a b q 0 0 = List.replicate (a.length + b.length - 1) 0 := by
  unfold tRow
  rw [List.eq_replicate_iff]
  refine ⟨by simp, fun x hx => ?_⟩
  obtain ⟨n, _, rfl⟩ := List.mem_map.1 hx
  rw [if_neg (by omega)]; rfl
theorem tRow_next {a b : List Int} {q : Int} {i : Nat} (_ : i < a.length) : tRow a b q i b.length = tRow a b q (i + 1) 0 := by
  unfold tRow
  apply List.map_congr_left
  intro n _
  rw [if_neg (by omega : ¬ (i + 1 ≤ n ∧ n - (i + 1) < 0))]
  split
  · rfl
  · rename_i hn
    exact (tAt_same (by omega)).symm
theorem tRow_all (a b : List Int) (q : Int) : tRow a b q a.length 0 = timesP a b q := by
  unfold tRow timesP
  apply List.map_congr_left
  intro n _
  rw [if_neg (by omega), tAt_both]
theorem tRow_at {a b : List Int} {q : Int} {i k : Nat} (h : i + k < a.length + b.length - 1) : (tRow a b q i k)[i + k]? = some (tAt a b q (i + k) i) := by
  unfold tRow
  rw [List.getElem?_map, List.getElem?_range h, Option.map_some, if_neg (by omega)]
theorem tRow_set {a b : List Int} {q : Int} {i k : Nat} {x y : Int} (h : i + k < a.length + b.length - 1) (h2 : a[i]? = some x) (h3 : b[k]? = some y) : (tRow a b q i k).set (i + k) (mAdd (tAt a b q (i + k) i) (mMul x y q) q) = tRow a b q i (k + 1) := by
  apply List.ext_getElem?
  intro j
  rw [List.getElem?_set]
  split
  · rename_i hj
    subst hj
    rw [if_pos (by simp [tRow]; omega)]
    unfold tRow
    rw [List.getElem?_map, List.getElem?_range h, Option.map_some, if_pos (by omega), tAt_step (by omega) h2 (by rw [Nat.add_sub_cancel_left]; exact h3)]
  · rename_i hj
    unfold tRow
    rw [List.getElem?_map, List.getElem?_map]
    rcases Nat.lt_or_ge j (a.length + b.length - 1) with h1 | h1
    · rw [List.getElem?_range h1, Option.map_some, Option.map_some]
      congr 1
      by_cases hc : i ≤ j ∧ j - i < k
      · rw [if_pos hc, if_pos (by omega)]
      · rw [if_neg hc, if_neg (by omega)]
    · rw [List.getElem?_eq_none (by simpa using h1)]; rfl

set_option maxRecDepth 100000 in
set_option maxHeartbeats 2000000 in
theorem ptimes_c (A B : Option Addr) (a b : List Int) (c d : Nat) (q : Int) (w : World) (hA : Cells w A (a.map (.int .u64))) (hB : Cells w B (b.map (.int .u64))) (hl : a.length ≤ 1000000) (hl' : b.length ≤ 1000000) (hu : U64s a) (hu' : U64s b) (hq : U64 q) :
    Calls Tryd.prog 24 #[.slice A a.length c, .slice B b.length d, .int .u64 q] w (NewNumsP (pTimes a b q) w) := by
  cases h : okm q with
  | false =>
    have hps : pTimes a b q = [] := by unfold pTimes; rw [if_neg (by simp [h])]
    go_enter Tryd.func24, Tryd.ntmps24
    go_wp2_with (go_at_call 64; refine (pmay_c _ hq _).mono ?_; rintro e w' ⟨rfl, rfl⟩; rw [h])
    go_ret
    rw [hps]
    exact ⟨_, rfl, Own.nil _ _ _, Below.refl _ _⟩
  | true =>
    by_cases ha : 0 < a.length
    · by_cases hb : 0 < b.length
      · have hps : Hid (pTimes a b q = timesP a b q) := hid (by unfold pTimes; rw [if_pos ⟨h, ha, hb⟩])
        have ha2 : ((a.length : Int) == 0) = false := beq_eq_false_iff_ne.2 (by omega)
        have hb2 : ((b.length : Int) == 0) = false := beq_eq_false_iff_ne.2 (by omega)
        have hla : (tRow a b q a.length 0).length = a.length + b.length - 1 := by simp [tRow]
        have HLA := hid (⟨hla, tRow_all a b q⟩ : _ ∧ _)
        clear hla
        go_enter Tryd.func24, Tryd.ntmps24
        go_wp2_with (first | (go_at_call 64; refine (pmay_c _ hq _).mono ?_; rintro e w' ⟨rfl, rfl⟩; rw [h]) | (at_make; refine wpList_make_row elt_u64 _ rfl _ _ rfl .i64 .i64 _ _ (a.length + b.length - 1) rfl rfl (by go_num) (by go_num) (by omega) (by omega) ?_; intro w1 hr1 hs1 hb1))
        go_loopw [8, 9, 10, 11, 34] (fun _ _ _ _ i wr => ∃ j : Nat, i = .int .i64 j ∧ j ≤ a.length ∧ Row1 wr w.heap.size 23 ((tRow a b q j 0).map (.int .u64)) ∧ Below w.heap.size w wr) (fun _ _ _ _ i _ => a.length - (intOf i).toNat)
        case atStart => exact ⟨0, rfl, by omega, by rw [tRow_zero, List.map_replicate]; exact hr1, hb1⟩
        case round =>
          obtain ⟨i, rfl, hi, hr, hbw⟩ := hrel
          by_cases hlt : i < a.length
          · obtain ⟨x, hx⟩ := get_of_lt hlt
            obtain ⟨o1, off1, rfl, hcx⟩ := (hA.keep fun p hp => hbw.cell hp).at_map hx
            have hux := hu.at_ hx
            have HX := hid hx
            clear hx
            go_wp2
            generalize wr = wo at *
            go_loopw [10, 11, 41] (fun _ _ k wr => ∃ j : Nat, k = .int .i64 j ∧ j ≤ b.length ∧ Row1 wr w.heap.size 23 ((tRow a b q i j).map (.int .u64)) ∧ Below w.heap.size w wr) (fun _ _ k _ => b.length - (intOf k).toNat)
            case atStart => exact ⟨0, rfl, by omega, hr, hbw⟩
            case round =>
              obtain ⟨k, rfl, hk, hr2, hbw2⟩ := hrel
              rename_i wr
              clear hr hbw
              by_cases hltk : k < b.length
              · obtain ⟨y, hy⟩ := get_of_lt hltk
                obtain ⟨o2, off2, rfl, hcy⟩ := (hB.keep fun p hp => hbw2.cell hp).at_map hy
                have huy := hu'.at_ hy
                have hin : i + k < a.length + b.length - 1 := by omega
                have hT := tRow_at (q := q) hin
                have hcT := hr2.cell (k := i + k) (u := .int .u64 (tAt a b q (i + k) i)) (by rw [List.getElem?_map, hT]; rfl)
                have huT := tAt_u64 a b q (i + k) i
                have hset := tRow_set (q := q) hin HX.out hy
                have HSET := hid hset
                have hlen : (tRow a b q i k).length = a.length + b.length - 1 := by simp [tRow]
                clear hy hT hset hlen
                go_wp2
                refine Rgb.wp_region (l := [_, _, _, _, _, _, _, _, _, _, _, _, _, _, _, _]) (tail := [_, _]) (Rgb.grows _ 18) [some 46, some 47, some 48, some 49, some 50, some 51, some 52, some 53, some 54, some 55, some 56, some 57, some 58, some 59, some 60, some 61, some 62, none] 66 (by kernel_rfl) (by kernel_rfl) (by kernel_rfl) rfl (Rgb.grows_fair _ _) (Rgb.keep_drew _) (trivial) ?_
                refine' Rgb.op_is _ [] rfl rfl (by kernel_rfl) ?_ ?_
                rotate_left
                · intro wx hb
                  refine Rgb.from_nil fun T hT => ?_
                  go_wp2
                  refine hT _ _ rfl (by first | exact Rgb.Keep.refl _ | exact below_of_dr hw2 | exact hw2 | exact (Below.refl _ _).alloc (Nat.le_refl _) _) ?_
                  simp only [Rgb.last, List.getElem?_toArray, List.getElem?_cons_succ, List.getElem?_cons_zero, Option.getD_some]
                  rfl
                refine' Rgb.op_is _ [] rfl rfl (by kernel_rfl) ?_ ?_
                rotate_left
                · intro wx hb
                  refine Rgb.from_nil fun T hT => ?_
                  go_wp2
                  refine hT _ _ rfl (by first | exact Rgb.Keep.refl _ | exact below_of_dr hw2 | exact hw2 | exact (Below.refl _ _).alloc (Nat.le_refl _) _) ?_
                  simp only [Rgb.last, List.getElem?_toArray, List.getElem?_cons_succ, List.getElem?_cons_zero, Option.getD_some]
                  rfl
                refine' Rgb.op_is _ [] rfl rfl (by kernel_rfl) ?_ ?_
                rotate_left
                · intro wx hb
                  refine Rgb.from_nil fun T hT => ?_
                  go_wp2
                  refine hT _ _ rfl (by first | exact Rgb.Keep.refl _ | exact below_of_dr hw2 | exact hw2 | exact (Below.refl _ _).alloc (Nat.le_refl _) _) ?_
                  simp only [Rgb.last, List.getElem?_toArray, List.getElem?_cons_succ, List.getElem?_cons_zero, Option.getD_some]
                  rfl
                refine Rgb.op_is (.int .i64 ((i + k : Nat) : Int)) [1, 2] rfl rfl (by kernel_rfl) ?_ ?_
                · intro wx hb
                  refine Rgb.from_is (some 47) rfl rfl ?_
                  refine Rgb.from_is (some 48) rfl rfl ?_
                  refine Rgb.from_nil fun T hT => ?_
                  go_wp2
                  exact hT _ _ rfl (by first | exact Rgb.Keep.refl _ | exact below_of_dr hw2 | exact hw2 | exact (Below.refl _ _).alloc (Nat.le_refl _) _) (by first | rfl | exact congrArg _ (by decide))
                refine' Rgb.op_is _ [] rfl rfl (by kernel_rfl) ?_ ?_
                rotate_left
                · intro wx hb
                  refine Rgb.from_nil fun T hT => ?_
                  go_wp2
                  refine hT _ _ rfl (by first | exact Rgb.Keep.refl _ | exact below_of_dr hw2 | exact hw2 | exact (Below.refl _ _).alloc (Nat.le_refl _) _) ?_
                  simp only [Rgb.last, List.getElem?_toArray, List.getElem?_cons_succ, List.getElem?_cons_zero, Option.getD_some]
                  rfl
                refine' Rgb.op_is _ [] rfl rfl (by kernel_rfl) ?_ ?_
                rotate_left
                · intro wx hb
                  refine Rgb.from_nil fun T hT => ?_
                  go_wp2
                  refine hT _ _ rfl (by first | exact Rgb.Keep.refl _ | exact below_of_dr hw2 | exact hw2 | exact (Below.refl _ _).alloc (Nat.le_refl _) _) ?_
                  simp only [Rgb.last, List.getElem?_toArray, List.getElem?_cons_succ, List.getElem?_cons_zero, Option.getD_some]
                  rfl
                refine' Rgb.op_is _ [] rfl rfl (by kernel_rfl) ?_ ?_
                rotate_left
                · intro wx hb
                  refine Rgb.from_nil fun T hT => ?_
                  go_wp2
                  refine hT _ _ rfl (by first | exact Rgb.Keep.refl _ | exact below_of_dr hw2 | exact hw2 | exact (Below.refl _ _).alloc (Nat.le_refl _) _) ?_
                  simp only [Rgb.last, List.getElem?_toArray, List.getElem?_cons_succ, List.getElem?_cons_zero, Option.getD_some]
                  rfl
                refine Rgb.op_is (.int .i64 ((i + k : Nat) : Int)) [5, 6] rfl rfl (by kernel_rfl) ?_ ?_
                · intro wx hb
                  refine Rgb.from_is (some 51) rfl rfl ?_
                  refine Rgb.from_is (some 52) rfl rfl ?_
                  refine Rgb.from_nil fun T hT => ?_
                  go_wp2
                  exact hT _ _ rfl (by first | exact Rgb.Keep.refl _ | exact below_of_dr hw2 | exact hw2 | exact (Below.refl _ _).alloc (Nat.le_refl _) _) (by first | rfl | exact congrArg _ (by decide))
                refine' Rgb.op_is _ [4, 7] rfl rfl (by kernel_rfl) ?_ ?_
                rotate_left
                · intro wx hb
                  refine Rgb.from_is (some 50) rfl rfl ?_
                  refine Rgb.from_is (some 53) rfl rfl ?_
                  refine Rgb.from_nil fun T hT => ?_
                  go_wp2
                  refine hT _ _ rfl (by first | exact Rgb.Keep.refl _ | exact below_of_dr hw2 | exact hw2 | exact (Below.refl _ _).alloc (Nat.le_refl _) _) ?_
                  simp only [Rgb.last, List.getElem?_toArray, List.getElem?_cons_succ, List.getElem?_cons_zero, Option.getD_some]
                  rfl
                refine Rgb.op_is (.int .u64 (tAt a b q (i + k) i)) [8] rfl rfl (by kernel_rfl) ?_ ?_
                · intro wx hb
                  refine Rgb.from_is (some 54) rfl rfl ?_
                  refine Rgb.from_nil fun T hT => ?_
                  have hc9 := (hb.cell (lt_of_cell hcT)).trans hcT
                  go_wp2
                  exact hT _ _ rfl (by first | exact Rgb.Keep.refl _ | exact below_of_dr hw2 | exact hw2 | exact (Below.refl _ _).alloc (Nat.le_refl _) _) (by first | rfl | exact congrArg _ (by decide))
                refine' Rgb.op_is _ [] rfl rfl (by kernel_rfl) ?_ ?_
                rotate_left
                · intro wx hb
                  refine Rgb.from_nil fun T hT => ?_
                  go_wp2
                  refine hT _ _ rfl (by first | exact Rgb.Keep.refl _ | exact below_of_dr hw2 | exact hw2 | exact (Below.refl _ _).alloc (Nat.le_refl _) _) ?_
                  simp only [Rgb.last, List.getElem?_toArray, List.getElem?_cons_succ, List.getElem?_cons_zero, Option.getD_some]
                  rfl
                refine' Rgb.op_is _ [] rfl rfl (by kernel_rfl) ?_ ?_
                rotate_left
                · intro wx hb
                  refine Rgb.from_nil fun T hT => ?_
                  go_wp2
                  refine hT _ _ rfl (by first | exact Rgb.Keep.refl _ | exact below_of_dr hw2 | exact hw2 | exact (Below.refl _ _).alloc (Nat.le_refl _) _) ?_
                  simp only [Rgb.last, List.getElem?_toArray, List.getElem?_cons_succ, List.getElem?_cons_zero, Option.getD_some]
                  rfl
                refine' Rgb.op_is _ [] rfl rfl (by kernel_rfl) ?_ ?_
                rotate_left
                · intro wx hb
                  refine Rgb.from_nil fun T hT => ?_
                  go_wp2
                  refine hT _ _ rfl (by first | exact Rgb.Keep.refl _ | exact below_of_dr hw2 | exact hw2 | exact (Below.refl _ _).alloc (Nat.le_refl _) _) ?_
                  simp only [Rgb.last, List.getElem?_toArray, List.getElem?_cons_succ, List.getElem?_cons_zero, Option.getD_some]
                  rfl
                refine Rgb.op_is (.int .u64 (mMul x y q)) [10, 11, 12] rfl rfl (by kernel_rfl) ?_ ?_
                · intro wx hb
                  refine Rgb.from_is (some 56) rfl rfl ?_
                  refine Rgb.from_is (some 57) rfl rfl ?_
                  refine Rgb.from_is (some 58) rfl rfl ?_
                  refine Rgb.from_nil fun T hT => ?_
                  go_wp2_with (go_at_call 22; refine (mul_c _ _ _ hux huy hq _).mono ?_; rintro e w5 ⟨rfl, hw5⟩)
                  exact hT _ _ rfl (below_of_dr hw5) rfl
                refine' Rgb.op_is _ [] rfl rfl (by kernel_rfl) ?_ ?_
                rotate_left
                · intro wx hb
                  refine Rgb.from_nil fun T hT => ?_
                  go_wp2
                  refine hT _ _ rfl (by first | exact Rgb.Keep.refl _ | exact below_of_dr hw2 | exact hw2 | exact (Below.refl _ _).alloc (Nat.le_refl _) _) ?_
                  simp only [Rgb.last, List.getElem?_toArray, List.getElem?_cons_succ, List.getElem?_cons_zero, Option.getD_some]
                  rfl
                refine Rgb.op_is (.int .u64 (mAdd (tAt a b q (i + k) i) (mMul x y q) q)) [9, 13, 14] rfl rfl (by kernel_rfl) ?_ ?_
                · intro wx hb
                  refine Rgb.from_is (some 55) rfl rfl ?_
                  refine Rgb.from_is (some 59) rfl rfl ?_
                  refine Rgb.from_is (some 60) rfl rfl ?_
                  refine Rgb.from_nil fun T hT => ?_
                  go_wp2_with (go_at_call 21; refine (add_c _ _ _ huT (mMul_u64 _ _ _) hq _).mono ?_; rintro e w5 ⟨rfl, hw5⟩)
                  exact hT _ _ rfl (below_of_dr hw5) rfl
                refine Rgb.walk_nil [0, 1, 2, 3, 4, 5, 6, 7, 8, 9, 10, 11, 12, 13, 14, 15] (by kernel_rfl) ?_
                intro wx hb
                refine Rgb.from_is (some 46) rfl rfl ?_
                refine Rgb.from_is (some 47) rfl rfl ?_
                refine Rgb.from_is (some 48) rfl rfl ?_
                refine Rgb.from_is (some 49) rfl rfl ?_
                refine Rgb.from_is (some 50) rfl rfl ?_
                refine Rgb.from_is (some 51) rfl rfl ?_
                refine Rgb.from_is (some 52) rfl rfl ?_
                refine Rgb.from_is (some 53) rfl rfl ?_
                refine Rgb.from_is (some 54) rfl rfl ?_
                refine Rgb.from_is (some 55) rfl rfl ?_
                refine Rgb.from_is (some 56) rfl rfl ?_
                refine Rgb.from_is (some 57) rfl rfl ?_
                refine Rgb.from_is (some 58) rfl rfl ?_
                refine Rgb.from_is (some 59) rfl rfl ?_
                refine Rgb.from_is (some 60) rfl rfl ?_
                refine Rgb.from_is (some 61) rfl rfl ?_
                refine Rgb.from_nil ?_
                simp only [List.map, Act.put, List.setIfInBounds_toArray, List.set_cons_zero, List.set_cons_succ]
                have hr5 := hr2.below hb
                have hc5 := (hb.cell (lt_of_cell hcT)).trans hcT
                have hf5 := hr5.frozen (i + k)
                have hr6 := hr5.set (i + k) (.int .u64 (mAdd (tAt a b q (i + k) i) (mMul x y q) q))
                rw [← List.map_set, HSET.out] at hr6
                have hb6 := (below_next hbw2 hbw2.size hb).setCell (p := ⟨w.heap.size, i + k, none⟩) (Nat.le_refl _) (.int .u64 (mAdd (tAt a b q (i + k) i) (mMul x y q) q))
                clear hb hr5 hr2 hbw2 hcT hcy
                go_wp2
                go_roundw
                case rel => exact ⟨k + 1, by go_num, by omega, hr6, hb6⟩
                case measure => simp [intOf]; omega
              · obtain rfl : k = b.length := by omega
                rw [tRow_next hlt] at hr2
                go_wp2
                go_roundw
                case rel => exact ⟨i + 1, by go_num, by omega, hr2, hbw2⟩
                case measure => simp [intOf]; omega
          · obtain rfl : i = a.length := by omega
            go_wp2
            go_ret
            have h9 := hr.own (Nat.le_refl _) (by rw [List.length_map, HLA.out.1]; omega)
            rw [List.length_map, HLA.out.1, HLA.out.2] at h9
            rw [hps.out]
            exact ⟨_, rfl, h9, hbw⟩
      · have hb0 : ((b.length : Int) == 0) = true := beq_iff_eq.2 (by omega)
        have hps : pTimes a b q = [] := by unfold pTimes; rw [if_neg (by omega)]
        have ha2 : ((a.length : Int) == 0) = false := beq_eq_false_iff_ne.2 (by omega)
        rw [hps]
        go_enter Tryd.func24, Tryd.ntmps24
        go_wp2_with (go_at_call 64; refine (pmay_c _ hq _).mono ?_; rintro e w' ⟨rfl, rfl⟩; rw [h])
        go_ret
        exact ⟨_, rfl, Own.nil _ _ _, Below.refl _ _⟩
    · have ha0 : ((a.length : Int) == 0) = true := beq_iff_eq.2 (by omega)
      have hps : pTimes a b q = [] := by unfold pTimes; rw [if_neg (by omega)]
      rw [hps]
      go_enter Tryd.func24, Tryd.ntmps24
      go_wp2_with (go_at_call 64; refine (pmay_c _ hq _).mono ?_; rintro e w' ⟨rfl, rfl⟩; rw [h])
      go_ret
      exact ⟨_, rfl, Own.nil _ _ _, Below.refl _ _⟩

/-! From XPolD. -/
open Go.RowKit

attribute [local go_sem] Oper.semAt_some

theorem timesP_at (a b : List Int) (q : Int) {n : Nat} (h : n < a.length + b.length - 1) : (timesP a b q)[n]? = some (tAt a b q n (n + 1)) := by
  unfold timesP; rw [List.getElem?_map, List.getElem?_range h]; rfl

/-! From XPolF. -/
open Go.RowKit

attribute [local go_sem] Oper.semAt_some

/-- c divided by the polynomial of the power 1 that is 0 at x. -/
def withoutL (c : List Int) (x q : Int) : List Int := (List.range (c.length - 1)).map fun j => mEval (c.drop (j + 1)) x q
def woRow (c : List Int) (x q : Int) (k : Nat) : List Int := (List.range (c.length - 1)).map fun j => if k ≤ j then mEval (c.drop (j + 1)) x q else 0
theorem woRow_len (c : List Int) (x q : Int) (k : Nat) : (woRow c x q k).length = c.length - 1 := by simp [woRow]
theorem woRow_start (c : List Int) (x q : Int) : woRow c x q (c.length - 1) = List.replicate (c.length - 1) 0 := by
  unfold woRow
  rw [List.eq_replicate_iff]
  refine ⟨by simp, fun z hz => ?_⟩
  obtain ⟨j, hj, rfl⟩ := List.mem_map.1 hz
  rw [if_neg (by have := List.mem_range.1 hj; omega)]
theorem woRow_all (c : List Int) (x q : Int) : woRow c x q 0 = withoutL c x q := by
  unfold woRow withoutL
  apply List.map_congr_left
  intro j _
  rw [if_pos (by omega)]
theorem woRow_at {c : List Int} {x q : Int} {k : Nat} (h : k < c.length - 1) : (woRow c x q (k + 1))[k]? = some 0 := by
  unfold woRow
  rw [List.getElem?_map, List.getElem?_range h, Option.map_some, if_neg (by omega)]
theorem woRow_set {c : List Int} {x q : Int} {k : Nat} (h : k < c.length - 1) : (woRow c x q (k + 1)).set k (mEval (c.drop (k + 1)) x q) = woRow c x q k := by
  apply List.ext_getElem?
  intro j
  rw [List.getElem?_set]
  split
  · rename_i hj
    subst hj
    rw [if_pos (by rw [woRow_len]; exact h)]
    unfold woRow
    rw [List.getElem?_map, List.getElem?_range h, Option.map_some, if_pos (Nat.le_refl _)]
  · rename_i hj
    unfold woRow
    rw [List.getElem?_map, List.getElem?_map]
    rcases Nat.lt_or_ge j (c.length - 1) with h1 | h1
    · rw [List.getElem?_range h1, Option.map_some, Option.map_some]
      congr 1
      by_cases hc : k ≤ j
      · rw [if_pos (by omega), if_pos hc]
      · rw [if_neg (by omega), if_neg hc]
    · rw [List.getElem?_eq_none (by simpa using h1)]; rfl

set_option maxRecDepth 100000 in
set_option maxHeartbeats 2000000 in
theorem without_c (A : Option Addr) (l : List Int) (c : Nat) (x q : Int) (w : World) (hA : Cells w A (l.map (.int .u64))) (h1 : 1 ≤ l.length) (hl : l.length ≤ 1000000) (hu : U64s l) (hx : U64 x) (hq : U64 q) :
    Calls Tryd.prog 66 #[.slice A l.length c, .int .u64 x, .int .u64 q] w (NewNumsP (withoutL l x q) w) := by
  have hi0 : (l.length : Int) - 1 = ((l.length - 1 : Nat) : Int) := by omega
  have HI := hid hi0
  clear hi0
  go_enter Tryd.func66, Tryd.ntmps66
  go_wp2_with (at_make; refine wpList_make_row elt_u64 _ rfl _ _ rfl .i64 .i64 _ _ (l.length - 1) rfl rfl (by first | rfl | exact HI.out) (by first | rfl | exact HI.out) (by omega) (by omega) ?_; intro w1 hr1 hs1 hb1)
  go_loopw [8, 9] (fun o i wr => ∃ k : Nat, i = .int .i64 k ∧ k ≤ l.length - 1 ∧ o = .int .u64 (mEval (l.drop (k + 1)) x q) ∧ Row1 wr w.heap.size 23 ((woRow l x q k).map (.int .u64)) ∧ Below w.heap.size w wr) (fun _ i _ => (intOf i).toNat)
  case atStart => exact ⟨l.length - 1, by rw [← HI.out], Nat.le_refl _, by rw [show l.length - 1 + 1 = l.length by omega, List.drop_length, mEval_nil], by rw [woRow_start, List.map_replicate]; exact hr1, hb1⟩
  case round =>
    obtain ⟨k, rfl, hk, rfl, hr, hb⟩ := hrel
    cases k with
    | zero =>
      go_wp2
      go_ret
      rw [woRow_all] at hr
      have h9 := hr.own (Nat.le_refl _) (by rw [List.length_map]; simp [withoutL]; omega)
      have hlen : (withoutL l x q).length = l.length - 1 := by simp [withoutL]
      rw [List.length_map, hlen] at h9
      exact ⟨_, rfl, h9, hb⟩
    | succ k =>
      obtain ⟨z, hz⟩ := get_of_lt (l := l) (show k + 1 < l.length by omega)
      obtain ⟨o2, off2, rfl, hcz⟩ := (hA.keep fun p hp => hb.cell hp).at_map hz
      have huz := hu.at_ hz
      have hstep := mEval_drop hz x q
      have hm := mEval_u64 (l.drop (k + 1 + 1)) x q
      have hset := woRow_set (c := l) (x := x) (q := q) (k := k) (by omega)
      have hat := woRow_at (c := l) (x := x) (q := q) (k := k) (by omega)
      rw [hstep] at hset
      obtain ⟨v, hv⟩ : ∃ v, mEval (l.drop (k + 1 + 1)) x q = v := ⟨_, rfl⟩
      rw [hv] at hset hm hstep ⊢
      have hcO := hr.cell (k := k) (u := .int .u64 0) (by rw [List.getElem?_map, hat]; rfl)
      have HS := hid (⟨hset, hstep⟩ : _ ∧ _)
      have hi : ((k + 1 : Nat) : Int) - 1 = (k : Int) := by omega
      clear hset hstep hv hat hz
      go_wp2
      go_quiet (first | (go_at_call 22; exact quiet_dr (mul_c _ _ _ hm hx hq _)) | (go_at_call 21; exact quiet_dr (add_c _ _ _ (mMul_u64 _ _ _) huz hq _)))
      have hfO := hr.frozen k
      go_wp2
      go_roundw
      case rel =>
        refine ⟨k, by go_num, by omega, by rw [HS.out.2], ?_, ?_⟩
        · have h9 := hr.set k (.int .u64 (mAdd (mMul v x q) z q))
          rw [← List.map_set, HS.out.1] at h9
          exact h9
        · exact (below_dr hb ⟨_, rfl⟩).setCell (p := ⟨w.heap.size, k, none⟩) (Nat.le_refl _) _
      case measure => simp [intOf]

end Go.Proofs.YtgdfphcggjclkaaDoor
