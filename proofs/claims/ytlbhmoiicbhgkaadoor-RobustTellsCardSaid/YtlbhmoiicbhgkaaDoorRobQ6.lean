/-
  Parts of these texts that the statement needs: PlyA, PlyB, RoundT.
-/
import Derived.Test.YtlbhmoiicbhgkaaDoorRobQ3
import Derived.Test.YtlbhmoiicbhgkaaDoorRobQ4
import Derived.Test.YtlbhmoiicbhgkaaDoorRobQ5
import Derived.StillTailTactics
import Derived.OrdersIn

section
namespace Go.Proofs.YtlbhmoiicbhgkaaDoor
open Go.RowKit
set_option maxHeartbeats 400000 in
theorem eval_c (A : Option Addr) (l : List Int) (c : Nat) (x q : Int) (w : World) (hA : Cells w A (l.map (.int .u64))) (hl : l.length ≤ 9223372036854775807) (hu : ∀ z ∈ l, U64 z) (hx : U64 x) (hq : U64 q) :
    Calls Tryd.prog 94 #[.slice A l.length c, .int .u64 x, .int .u64 q] w fun e w' => e = .returned (.int .u64 (mEval l x q)) ∧ Dr w w' := by
  go_enter Tryd.func94, Tryd.ntmps94
  go_wp2
  go_loopw [7, 8, 11] (fun o _ i wr => ∃ k : Nat, i = .int .i64 k ∧ k ≤ l.length ∧ o = .int .u64 (mEval (l.drop (l.length - k)) x q) ∧ Dr w wr) (fun _ _ i _ => l.length - (intOf i).toNat)
  case atStart => exact ⟨0, rfl, by omega, by rw [Nat.sub_zero, List.drop_length, mEval_nil], Dr.refl w⟩
  case round =>
    obtain ⟨k, rfl, hk, rfl, hw⟩ := hrel
    by_cases hlt : k < l.length
    · obtain ⟨j, hj⟩ : ∃ j, l.length = k + 1 + j := ⟨l.length - k - 1, by omega⟩
      have hj' : ((l.length : Nat) : Int) - 1 - k = (j : Int) := by omega
      obtain ⟨z, hz⟩ := get_of_lt (l := l) (show j < l.length by omega)
      obtain ⟨b, off, rfl, hc⟩ := (hA.dr hw).at_map hz
      have huz := hu z (List.mem_of_getElem? hz)
      have hstep := mEval_drop hz x q
      rw [show l.length - k = j + 1 by omega]
      have hm := mEval_u64 (l.drop (j + 1)) x q
      obtain ⟨v, hv⟩ : ∃ v, mEval (l.drop (j + 1)) x q = v := ⟨_, rfl⟩
      rw [hv] at hstep hm ⊢
      have hjl : j < l.length := by omega
      have HS := hid hstep
      have HJ := hid hj
      clear hstep hv hj
      go_wp2
      go_quiet (first | (go_at_call 89; exact quiet_dr (mul_c _ _ _ hm hx hq _)) | (go_at_call 115; exact quiet_dr (add_c _ _ _ (mMul_u64 _ _ _) huz hq _)))
      go_wp2
      go_roundw
      case rel => exact ⟨k + 1, by go_num, by omega, by rw [show l.length - (k + 1) = j by have := HJ.out; omega, HS.out], hw.more _⟩
      case measure => simp [intOf]; omega
    · obtain rfl : k = l.length := by omega
      go_wp2
      go_ret
      exact ⟨ret_int (by rw [Nat.sub_self]; rfl), hw⟩
open Go.RowKit
theorem U64s.at_ {l : List Int} (h : U64s l) {k : Nat} {z : Int} (hk : l[k]? = some z) : U64 z := h z (List.mem_of_getElem? hk)
/-- of a row the first k are known; behind them are 0s. -/
def filled (xs : List Int) (n k : Nat) : List Value := (xs.take k).map (.int .u64) ++ List.replicate (n - k) (.int .u64 0)
theorem filled_zero (xs : List Int) (n : Nat) : filled xs n 0 = List.replicate n (.int .u64 0) := by simp [filled]
theorem filled_at (xs : List Int) (n k : Nat) (h : k < n) (hx : xs.length = n) : (filled xs n k)[k]? = some (.int .u64 0) := by
  unfold filled
  rw [List.getElem?_append_right (by simp; omega)]
  simp only [List.length_map, List.length_take]
  rw [List.getElem?_replicate, if_pos (by omega)]
theorem filled_set (xs : List Int) (n k : Nat) (x : Int) (h : k < n) (hx : xs.length = n) (hk : xs[k]? = some x) : (filled xs n k).set k (.int .u64 x) = filled xs n (k + 1) := by
  apply List.ext_getElem?
  intro i
  unfold filled
  rcases Nat.lt_trichotomy i k with hi | hi | hi
  · rw [List.getElem?_set_ne (by omega), List.getElem?_append_left (by simp; omega), List.getElem?_append_left (by simp; omega)]
    simp only [List.getElem?_map, List.getElem?_take]
    rw [if_pos hi, if_pos (by omega)]
  · subst hi
    rw [List.getElem?_set_self (by simp; omega), List.getElem?_append_left (by simp; omega)]
    simp [hk]
  · rw [List.getElem?_set_ne (by omega), List.getElem?_append_right (by simp; omega), List.getElem?_append_right (by simp; omega)]
    simp only [List.length_map, List.length_take, List.getElem?_replicate]
    have e1 : min k xs.length = k := by omega
    have e2 : min (k + 1) xs.length = k + 1 := by omega
    rw [e1, e2]
    by_cases hin : i < n
    · rw [if_pos (by omega), if_pos (by omega)]
    · rw [if_neg (by omega), if_neg (by omega)]
theorem filled_all (xs : List Int) (n : Nat) (hx : xs.length = n) : filled xs n n = xs.map (.int .u64) := by
  unfold filled; rw [← hx]; simp
/-- the result of a call: a new list of uint64s. -/
def NewNumsP (xs : List Int) (w : World) (e : Ending) (w' : World) : Prop := ∃ v, e = .returned v ∧ Own w' w.heap.size 24 v (xs.map (.int .u64)) ∧ Below w.heap.size w w'
open Go.RowKit
attribute [local go_sem] Oper.semAt_some
set_option maxHeartbeats 400000 in
theorem pmay_c (m : Int) (hm : U64 m) (w : World) :
    Calls Tryd.prog 109 #[.int .u64 m] w fun e w' => e = .returned (.bool (okm m)) ∧ w = w' := by
  obtain ⟨h0, h1⟩ := hm
  by_cases h : 0 < m
  · go_enter Tryd.func109, Tryd.ntmps109
    go_wp2
    go_ret
    exact ⟨by simp [okm, h], rfl⟩
  · have hd : decide (0 < m) = false := by simpa using h
    go_enter Tryd.func109, Tryd.ntmps109
    go_wp2
    go_ret
    exact ⟨by simp [okm, hd], rfl⟩
/-- a coefficient modulo q, 0 behind the end. -/
def cAt (l : List Int) (i : Nat) (q : Int) : Int := l.getD i 0 % q
theorem cAt_in {l : List Int} {i : Nat} {z : Int} (h : l[i]? = some z) (q : Int) : cAt l i q = z % q := by unfold cAt; rw [List.getD_eq_getElem?_getD, h]; rfl
theorem cAt_out {l : List Int} {i : Nat} (h : l.length ≤ i) (q : Int) : cAt l i q = 0 := by unfold cAt; rw [List.getD_eq_getElem?_getD, List.getElem?_eq_none h]; simp
theorem cAt_u64 (l : List Int) (i : Nat) {q : Int} (h : okm q = true) : U64 (cAt l i q) := mod_u64 h
theorem over1_c (A : Option Addr) (l : List Int) (c i g1 g2 : Nat) (q : Int) (w : World) (hr1 : Row1 w g1 23 [.slice A l.length c]) (hr2 : Row1 w g2 24 [.int .u64 q]) (hA : Cells w A (l.map (.int .u64))) (_ : l.length ≤ 9223372036854775807) (_ : i ≤ 9223372036854775807) (hu : U64s l) (hq : okm q = true) :
    Calls Tryd.prog 130 #[.int .i64 i, .pointer (some ⟨g1, 0, none⟩), .pointer (some ⟨g2, 0, none⟩)] w fun e w' => e = .returned (.int .u64 (cAt l i q)) ∧ Dr w w' := by
  have h0 := okm_pos hq
  have h1 := okm_le hq
  have c1 := hr1.cell (k := 0) rfl
  have c2 := hr2.cell (k := 0) rfl
  by_cases hin : i < l.length
  · obtain ⟨z, hz⟩ := get_of_lt hin
    obtain ⟨o2, off2, rfl, hcz⟩ := hA.at_map hz
    obtain ⟨z0, z1⟩ := hu.at_ hz
    have he := hid (cAt_in hz q)
    have hm0 := Int.emod_nonneg z (b := q) (by omega)
    have hm1 := Int.emod_lt_of_pos z h0
    clear hz
    go_enter Tryd.func130, Tryd.ntmps130
    go_wp2
    go_quiet (fail)
    go_wp2
    go_ret
    exact ⟨ret_int he.out.symm, _, rfl⟩
  · have he := hid (cAt_out (l := l) (i := i) (by omega) q)
    go_enter Tryd.func130, Tryd.ntmps130
    go_wp2
    go_ret
    exact ⟨ret_int he.out.symm, Dr.refl _⟩
theorem over_c (A : Option Addr) (n c : Nat) (q : Int) (w : World) :
    Calls Tryd.prog 122 #[.slice A n c, .int .u64 q] w fun e w' => ∃ g1 g2, e = .returned (.func (.func 130) #[] #[.pointer (some ⟨g1, 0, none⟩), .pointer (some ⟨g2, 0, none⟩)]) ∧ Row1 w' g1 23 [.slice A n c] ∧ Row1 w' g2 24 [.int .u64 q] ∧ Below w.heap.size w w' ∧ w.heap.size ≤ g1 ∧ w.heap.size ≤ g2 := by
  go_enter Tryd.func122, Tryd.ntmps122
  go_wp2
  go_ret
  refine ⟨_, _, rfl, (row1_new w [.slice A n c] 23).alloc _, ?_, (below_alloc w _).alloc (by simp) _, Nat.le_refl _, by simp⟩
  have := row1_new (w.alloc (.cells #[.slice A n c] 23)) [.int .u64 q] 24
  simpa using this
/-- a multiple. -/
def pScale (a : List Int) (k q : Int) : List Int := if okm q then a.map fun c => mMul c k q else []
set_option maxHeartbeats 1000000 in
theorem pscale_c (A : Option Addr) (a : List Int) (c : Nat) (k q : Int) (w : World) (hA : Cells w A (a.map (.int .u64))) (hl : a.length ≤ 17592186044416) (hu : U64s a) (hk : U64 k) (hq : U64 q) :
    Calls Tryd.prog 113 #[.slice A a.length c, .int .u64 k, .int .u64 q] w (NewNumsP (pScale a k q) w) := by
  by_cases h : okm q = true
  · have hlen : (a.map fun c => mMul c k q).length = a.length := by simp
    have hps : Hid (pScale a k q = a.map fun c => mMul c k q) := hid (by unfold pScale; rw [if_pos h])
    go_enter Tryd.func113, Tryd.ntmps113
    go_wp2_with (first | (go_at_call 109; refine (pmay_c _ hq _).mono ?_; rintro e w' ⟨rfl, rfl⟩; rw [h]) | (at_make; refine wpList_make_row elt_u64 _ rfl _ _ rfl .i64 .i64 _ _ a.length rfl rfl rfl rfl (by omega) (by omega) ?_; intro w1 hr1 hs1 hb1))
    go_loopw [8, 9, 18] (fun _ _ i wr => ∃ j : Nat, i = .int .i64 j ∧ j ≤ a.length ∧ Row1 wr w.heap.size 24 (filled (a.map fun c => mMul c k q) a.length j) ∧ Below w.heap.size w wr) (fun _ _ i _ => a.length - (intOf i).toNat)
    case atStart => exact ⟨0, rfl, by omega, by rw [filled_zero]; exact hr1, hb1⟩
    case round =>
      obtain ⟨j, rfl, hj, hr, hb⟩ := hrel
      by_cases hlt : j < a.length
      · obtain ⟨z, hz⟩ := get_of_lt hlt
        obtain ⟨o2, off2, rfl, hcz⟩ := (hA.keep fun p hp => hb.cell hp).at_map hz
        have huz := hu.at_ hz
        have hz2 : (a.map fun c => mMul c k q)[j]? = some (mMul z k q) := by rw [List.getElem?_map, hz]; rfl
        clear hz
        go_wp2_with (go_at_call 89; refine (mul_c _ _ _ huz hk hq _).mono ?_; rintro e w2 ⟨rfl, hw2⟩; have hc2 := (hr.dr hw2).cell (filled_at _ _ _ hlt hlen); have hf2 := (hr.dr hw2).frozen j)
        go_roundw
        case rel => exact ⟨j + 1, by go_num, by omega, by rw [← filled_set _ _ _ _ hlt hlen hz2]; exact (hr.dr hw2).set j _, (below_dr hb hw2).setCell (by simp) _⟩
        case measure => simp [intOf]; omega
      · obtain rfl : j = a.length := by omega
        go_wp2
        go_ret
        refine ⟨_, rfl, ?_, hb⟩
        rw [filled_all _ _ hlen] at hr
        have := hr.own (Nat.le_refl _) (by simp; omega)
        rw [hps.out]
        simpa [hlen] using this
  · have h' : okm q = false := by simpa using h
    go_enter Tryd.func113, Tryd.ntmps113
    go_wp2_with (go_at_call 109; refine (pmay_c _ hq _).mono ?_; rintro e w' ⟨rfl, rfl⟩; rw [h'])
    go_ret
    have : pScale a k q = [] := by unfold pScale; rw [if_neg h]
    rw [this]
    exact ⟨_, rfl, Own.nil _ _ _, Below.refl _ _⟩
open Go.RowKit
attribute [local go_sem] Oper.semAt_some
/-- a sum. -/
def sumL (a b : List Int) (q : Int) : List Int := (List.range (max a.length b.length)).map fun i => mAdd (cAt a i q) (cAt b i q) q
def pSum (a b : List Int) (q : Int) : List Int := if okm q then sumL a b q else []
theorem sumL_len (a b : List Int) (q : Int) : (sumL a b q).length = max a.length b.length := by simp [sumL]
theorem sumL_at (a b : List Int) (q : Int) {i : Nat} (h : i < max a.length b.length) : (sumL a b q)[i]? = some (mAdd (cAt a i q) (cAt b i q) q) := by
  unfold sumL; rw [List.getElem?_map, List.getElem?_range h]; rfl
set_option maxHeartbeats 1000000 in
theorem psum_c (A B : Option Addr) (a b : List Int) (c d : Nat) (q : Int) (w : World) (hA : Cells w A (a.map (.int .u64))) (hB : Cells w B (b.map (.int .u64))) (hl : a.length ≤ 1000000) (hl' : b.length ≤ 1000000) (hu : U64s a) (hu' : U64s b) (hq : U64 q) :
    Calls Tryd.prog 112 #[.slice A a.length c, .slice B b.length d, .int .u64 q] w (NewNumsP (pSum a b q) w) := by
  by_cases h : okm q = true
  · have hps : Hid (pSum a b q = sumL a b q) := hid (by unfold pSum; rw [if_pos h])
    have hlen := sumL_len a b q
    obtain ⟨n, hn⟩ : ∃ n, max a.length b.length = n := ⟨_, rfl⟩
    have hat : ∀ i, i < n → (sumL a b q)[i]? = some (mAdd (cAt a i q) (cAt b i q) q) := fun i hi => sumL_at a b q (by omega)
    have hni : max (a.length : Int) (b.length : Int) = (n : Int) := by omega
    have hnl : n ≤ 1000000 := by omega
    rw [hn] at hlen
    have HS := hid (⟨hlen, hat, hni⟩ : _ ∧ _ ∧ _)
    generalize sumL a b q = s at *
    clear hat hn hni
    go_enter Tryd.func112, Tryd.ntmps112
    go_wp2_with (go_at_call 109; refine (pmay_c _ hq _).mono ?_; rintro e w' ⟨rfl, rfl⟩; rw [h])
    refine (over_c A a.length c q w).mono ?_
    rintro e w1 ⟨g1, g2, rfl, r1, r2, hb1, _, _⟩
    go_wp2_with (fail)
    refine (over_c B b.length d q w1).mono ?_
    rintro e w2 ⟨g3, g4, rfl, r3, r4, hb2, _, _⟩
    have R1 := r1.below hb2
    have R2 := r2.below hb2
    have hb3 := below_next hb1 hb1.size hb2
    have hA2 := hA.keep fun p hp => hb3.cell hp
    have hB2 := hB.keep fun p hp => hb3.cell hp
    clear r1 r2 hb1 hb2
    go_wp2_with (at_make; refine wpList_make_row elt_u64 _ rfl _ _ rfl .i64 .i64 _ _ n rfl rfl HS.out.2.2 HS.out.2.2 (by omega) (by omega) ?_; intro w3 hr3 hs3 hb4)
    go_loopw [10, 28] (fun _ i wr => ∃ j : Nat, i = .int .i64 j ∧ j ≤ n ∧ Row1 wr w2.heap.size 24 (filled s n j) ∧ Below w2.heap.size w2 wr) (fun _ i _ => n - (intOf i).toNat)
    case atStart => exact ⟨0, rfl, by omega, by rw [filled_zero]; exact hr3, hb4⟩
    case round =>
      obtain ⟨j, rfl, hj, hr, hb⟩ := hrel
      by_cases hlt : j < n
      · have hz2 := HS.out.2.1 j hlt
        have R1' := R1.below hb
        have R2' := R2.below hb
        have R3' := r3.below hb
        have R4' := r4.below hb
        have hA3 := hA2.keep fun p hp => hb.cell hp
        have hB3 := hB2.keep fun p hp => hb.cell hp
        go_wp2_with (fail)
        refine (over1_c A a c j g1 g2 q wr R1' R2' hA3 (by omega) (by omega) hu h).mono ?_
        rintro e w5 ⟨rfl, hw5⟩
        go_wp2_with (fail)
        refine (over1_c B b d j g3 g4 q w5 (R3'.dr hw5) (R4'.dr hw5) (hB3.dr hw5) (by omega) (by omega) hu' h).mono ?_
        rintro e w6 ⟨rfl, hw6⟩
        go_wp2_with (go_at_call 115; refine (add_c _ _ _ (cAt_u64 a j h) (cAt_u64 b j h) hq _).mono ?_; rintro e w7 ⟨rfl, hw7⟩; have hr7 := ((hr.dr hw5).dr hw6).dr hw7; have hc7 := hr7.cell (filled_at _ _ _ hlt HS.out.1); have hf7 := hr7.frozen j)
        go_roundw
        case rel => exact ⟨j + 1, by go_num, by omega, by rw [← filled_set _ _ _ _ hlt HS.out.1 hz2]; exact hr7.set j _, (below_dr (below_dr (below_dr hb hw5) hw6) hw7).setCell (by simp) _⟩
        case measure => simp [intOf]; omega
      · obtain rfl : j = n := by omega
        go_wp2
        go_ret
        refine ⟨_, rfl, ?_, below_next hb3 hb3.size hb⟩
        rw [filled_all _ _ HS.out.1] at hr
        have h9 := (hr.own (Nat.le_refl _) (by rw [List.length_map, HS.out.1]; omega)).from_ hb3.size
        rw [List.length_map, HS.out.1] at h9
        rw [hps.out]
        exact h9
  · have h' : okm q = false := by simpa using h
    go_enter Tryd.func112, Tryd.ntmps112
    go_wp2_with (go_at_call 109; refine (pmay_c _ hq _).mono ?_; rintro e w' ⟨rfl, rfl⟩; rw [h'])
    go_ret
    have : pSum a b q = [] := by unfold pSum; rw [if_neg h]
    rw [this]
    exact ⟨_, rfl, Own.nil _ _ _, Below.refl _ _⟩
open Go.RowKit
attribute [local go_sem] Oper.semAt_some
/-- number n of a product, of the first i numbers of the first. -/
def tAt (a b : List Int) (q : Int) (n : Nat) : Nat → Int
  | 0 => 0
  | i + 1 => if i < a.length ∧ i ≤ n ∧ n - i < b.length then mAdd (tAt a b q n i) (mMul (a.getD i 0) (b.getD (n - i) 0) q) q else tAt a b q n i
theorem tAt_u64 (a b : List Int) (q : Int) (n : Nat) : ∀ i, U64 (tAt a b q n i)
  | 0 => ⟨by unfold tAt; omega, by unfold tAt; omega⟩
  | i + 1 => by
    unfold tAt; split
    · exact mAdd_u64 _ _ _
    · exact tAt_u64 a b q n i
theorem tAt_step {a b : List Int} {q : Int} {n i : Nat} {x y : Int} (h1 : i ≤ n) (h2 : a[i]? = some x) (h3 : b[n - i]? = some y) : tAt a b q n (i + 1) = mAdd (tAt a b q n i) (mMul x y q) q := by
  have e1 := (List.getElem?_eq_some_iff.1 h2).1
  have e2 := (List.getElem?_eq_some_iff.1 h3).1
  rw [tAt, if_pos ⟨e1, h1, e2⟩, List.getD_eq_getElem?_getD, List.getD_eq_getElem?_getD, h2, h3]; rfl
theorem tAt_same {a b : List Int} {q : Int} {n i : Nat} (h : ¬ (i < a.length ∧ i ≤ n ∧ n - i < b.length)) : tAt a b q n (i + 1) = tAt a b q n i := by rw [tAt, if_neg h]
theorem tAt_end {a b : List Int} {q : Int} {n i : Nat} (h : a.length ≤ i ∨ n < i) : ∀ d, tAt a b q n (i + d) = tAt a b q n i
  | 0 => rfl
  | d + 1 => by
    rw [← Nat.add_assoc, tAt_same (by omega), tAt_end h d]
theorem tAt_both (a b : List Int) (q : Int) (n : Nat) : tAt a b q n a.length = tAt a b q n (n + 1) := by
  rcases Nat.le_total a.length (n + 1) with h | h
  · obtain ⟨d, hd⟩ := Nat.exists_eq_add_of_le h
    rw [hd, tAt_end (.inl (Nat.le_refl _))]
  · obtain ⟨d, hd⟩ := Nat.exists_eq_add_of_le h
    rw [hd, tAt_end (.inr (by omega))]
def timesP (a b : List Int) (q : Int) : List Int := (List.range (a.length + b.length - 1)).map fun n => tAt a b q n (n + 1)
def pTimes (a b : List Int) (q : Int) : List Int := if okm q = true ∧ 0 < a.length ∧ 0 < b.length then timesP a b q else []
/-- the product while it is made. -/
def tRow (a b : List Int) (q : Int) (i k : Nat) : List Int := (List.range (a.length + b.length - 1)).map fun n => if i ≤ n ∧ n - i < k then tAt a b q n (i + 1) else tAt a b q n i
theorem tRow_zero (a b : List Int) (q : Int) : tRow a b q 0 0 = List.replicate (a.length + b.length - 1) 0 := by
  unfold tRow
  rw [List.eq_replicate_iff]
  refine ⟨by simp, fun x hx => ?_⟩
  obtain ⟨n, _, rfl⟩ := List.mem_map.1 hx
  rw [if_neg (by omega)]; rfl
theorem tRow_next {a b : List Int} {q : Int} {i : Nat} (_ : i < a.length) : tRow a b q i b.length = tRow a b q (i + 1) 0 := by
  unfold tRow
  apply List.map_congr_left
  intro n _
  rw [if_neg (by omega : ¬ (i + 1 ≤ n ∧ n - (i + 1) < 0))]
  split
  · rfl
  · rename_i hn
    exact (tAt_same (by omega)).symm
theorem tRow_all (a b : List Int) (q : Int) : tRow a b q a.length 0 = timesP a b q := by
  unfold tRow timesP
  apply List.map_congr_left
  intro n _
  rw [if_neg (by omega), tAt_both]
theorem tRow_at {a b : List Int} {q : Int} {i k : Nat} (h : i + k < a.length + b.length - 1) : (tRow a b q i k)[i + k]? = some (tAt a b q (i + k) i) := by
  unfold tRow
  rw [List.getElem?_map, List.getElem?_range h, Option.map_some, if_neg (by omega)]
theorem tRow_set {a b : List Int} {q : Int} {i k : Nat} {x y : Int} (h : i + k < a.length + b.length - 1) (h2 : a[i]? = some x) (h3 : b[k]? = some y) : (tRow a b q i k).set (i + k) (mAdd (tAt a b q (i + k) i) (mMul x y q) q) = tRow a b q i (k + 1) := by
  apply List.ext_getElem?
  intro j
  rw [List.getElem?_set]
  split
  · rename_i hj
    subst hj
    rw [if_pos (by simp [tRow]; omega)]
    unfold tRow
    rw [List.getElem?_map, List.getElem?_range h, Option.map_some, if_pos (by omega), tAt_step (by omega) h2 (by rw [Nat.add_sub_cancel_left]; exact h3)]
  · rename_i hj
    unfold tRow
    rw [List.getElem?_map, List.getElem?_map]
    rcases Nat.lt_or_ge j (a.length + b.length - 1) with h1 | h1
    · rw [List.getElem?_range h1, Option.map_some, Option.map_some]
      congr 1
      by_cases hc : i ≤ j ∧ j - i < k
      · rw [if_pos hc, if_pos (by omega)]
      · rw [if_neg hc, if_neg (by omega)]
    · rw [List.getElem?_eq_none (by simpa using h1)]; rfl
set_option maxRecDepth 100000 in
set_option maxHeartbeats 2000000 in
theorem ptimes_c (A B : Option Addr) (a b : List Int) (c d : Nat) (q : Int) (w : World) (hA : Cells w A (a.map (.int .u64))) (hB : Cells w B (b.map (.int .u64))) (hl : a.length ≤ 1000000) (hl' : b.length ≤ 1000000) (hu : U64s a) (hu' : U64s b) (hq : U64 q) :
    Calls Tryd.prog 111 #[.slice A a.length c, .slice B b.length d, .int .u64 q] w (NewNumsP (pTimes a b q) w) := by
  cases h : okm q with
  | false =>
    have hps : pTimes a b q = [] := by unfold pTimes; rw [if_neg (by simp [h])]
    go_enter Tryd.func111, Tryd.ntmps111
    go_wp2_with (go_at_call 109; refine (pmay_c _ hq _).mono ?_; rintro e w' ⟨rfl, rfl⟩; rw [h])
    go_ret
    rw [hps]
    exact ⟨_, rfl, Own.nil _ _ _, Below.refl _ _⟩
  | true =>
    by_cases ha : 0 < a.length
    · by_cases hb : 0 < b.length
      · have hps : Hid (pTimes a b q = timesP a b q) := hid (by unfold pTimes; rw [if_pos ⟨h, ha, hb⟩])
        have ha2 : ((a.length : Int) == 0) = false := beq_eq_false_iff_ne.2 (by omega)
        have hb2 : ((b.length : Int) == 0) = false := beq_eq_false_iff_ne.2 (by omega)
        have hla : (tRow a b q a.length 0).length = a.length + b.length - 1 := by simp [tRow]
        have HLA := hid (⟨hla, tRow_all a b q⟩ : _ ∧ _)
        clear hla
        go_enter Tryd.func111, Tryd.ntmps111
        go_wp2_with (first | (go_at_call 109; refine (pmay_c _ hq _).mono ?_; rintro e w' ⟨rfl, rfl⟩; rw [h]) | (at_make; refine wpList_make_row elt_u64 _ rfl _ _ rfl .i64 .i64 _ _ (a.length + b.length - 1) rfl rfl (by go_num) (by go_num) (by omega) (by omega) ?_; intro w1 hr1 hs1 hb1))
        go_loopw [8, 9, 10, 11, 34] (fun _ _ _ _ i wr => ∃ j : Nat, i = .int .i64 j ∧ j ≤ a.length ∧ Row1 wr w.heap.size 24 ((tRow a b q j 0).map (.int .u64)) ∧ Below w.heap.size w wr) (fun _ _ _ _ i _ => a.length - (intOf i).toNat)
        case atStart => exact ⟨0, rfl, by omega, by rw [tRow_zero, List.map_replicate]; exact hr1, hb1⟩
        case round =>
          obtain ⟨i, rfl, hi, hr, hbw⟩ := hrel
          by_cases hlt : i < a.length
          · obtain ⟨x, hx⟩ := get_of_lt hlt
            obtain ⟨o1, off1, rfl, hcx⟩ := (hA.keep fun p hp => hbw.cell hp).at_map hx
            have hux := hu.at_ hx
            have HX := hid hx
            clear hx
            go_wp2
            generalize wr = wo at *
            go_loopw [10, 11, 41] (fun _ _ k wr => ∃ j : Nat, k = .int .i64 j ∧ j ≤ b.length ∧ Row1 wr w.heap.size 24 ((tRow a b q i j).map (.int .u64)) ∧ Below w.heap.size w wr) (fun _ _ k _ => b.length - (intOf k).toNat)
            case atStart => exact ⟨0, rfl, by omega, hr, hbw⟩
            case round =>
              obtain ⟨k, rfl, hk, hr2, hbw2⟩ := hrel
              rename_i wr
              clear hr hbw
              by_cases hltk : k < b.length
              · obtain ⟨y, hy⟩ := get_of_lt hltk
                obtain ⟨o2, off2, rfl, hcy⟩ := (hB.keep fun p hp => hbw2.cell hp).at_map hy
                have huy := hu'.at_ hy
                have hin : i + k < a.length + b.length - 1 := by omega
                have hT := tRow_at (q := q) hin
                have hcT := hr2.cell (k := i + k) (u := .int .u64 (tAt a b q (i + k) i)) (by rw [List.getElem?_map, hT]; rfl)
                have huT := tAt_u64 a b q (i + k) i
                have hset := tRow_set (q := q) hin HX.out hy
                have HSET := hid hset
                have hlen : (tRow a b q i k).length = a.length + b.length - 1 := by simp [tRow]
                clear hy hT hset hlen
                go_wp2
                refine Rgb.wp_region (l := [_, _, _, _, _, _, _, _, _, _, _, _, _, _, _, _]) (tail := [_, _]) (Rgb.grows _ 18) [some 46, some 47, some 48, some 49, some 50, some 51, some 52, some 53, some 54, some 55, some 56, some 57, some 58, some 59, some 60, some 61, some 62, none] 66 (by kernel_rfl) (by kernel_rfl) (by kernel_rfl) rfl (Rgb.grows_fair _ _) (Rgb.keep_drew _) (trivial) ?_
                refine' Rgb.op_is _ [] rfl rfl (by kernel_rfl) ?_ ?_
                rotate_left
                · intro wx hb
                  refine Rgb.from_nil fun T hT => ?_
                  go_wp2
                  refine hT _ _ rfl (by first | exact Rgb.Keep.refl _ | exact below_of_dr hw2 | exact hw2 | exact (Below.refl _ _).alloc (Nat.le_refl _) _) ?_
                  simp only [Rgb.last, List.getElem?_toArray, List.getElem?_cons_succ, List.getElem?_cons_zero, Option.getD_some]
                  rfl
                refine' Rgb.op_is _ [] rfl rfl (by kernel_rfl) ?_ ?_
                rotate_left
                · intro wx hb
                  refine Rgb.from_nil fun T hT => ?_
                  go_wp2
                  refine hT _ _ rfl (by first | exact Rgb.Keep.refl _ | exact below_of_dr hw2 | exact hw2 | exact (Below.refl _ _).alloc (Nat.le_refl _) _) ?_
                  simp only [Rgb.last, List.getElem?_toArray, List.getElem?_cons_succ, List.getElem?_cons_zero, Option.getD_some]
                  rfl
                refine' Rgb.op_is _ [] rfl rfl (by kernel_rfl) ?_ ?_
                rotate_left
                · intro wx hb
                  refine Rgb.from_nil fun T hT => ?_
                  go_wp2
                  refine hT _ _ rfl (by first | exact Rgb.Keep.refl _ | exact below_of_dr hw2 | exact hw2 | exact (Below.refl _ _).alloc (Nat.le_refl _) _) ?_
                  simp only [Rgb.last, List.getElem?_toArray, List.getElem?_cons_succ, List.getElem?_cons_zero, Option.getD_some]
                  rfl
                refine Rgb.op_is (.int .i64 ((i + k : Nat) : Int)) [1, 2] rfl rfl (by kernel_rfl) ?_ ?_
                · intro wx hb
                  refine Rgb.from_is (some 47) rfl rfl ?_
                  refine Rgb.from_is (some 48) rfl rfl ?_
                  refine Rgb.from_nil fun T hT => ?_
                  go_wp2
                  exact hT _ _ rfl (by first | exact Rgb.Keep.refl _ | exact below_of_dr hw2 | exact hw2 | exact (Below.refl _ _).alloc (Nat.le_refl _) _) (by first | rfl | exact congrArg _ (by decide))
                refine' Rgb.op_is _ [] rfl rfl (by kernel_rfl) ?_ ?_
                rotate_left
                · intro wx hb
                  refine Rgb.from_nil fun T hT => ?_
                  go_wp2
                  refine hT _ _ rfl (by first | exact Rgb.Keep.refl _ | exact below_of_dr hw2 | exact hw2 | exact (Below.refl _ _).alloc (Nat.le_refl _) _) ?_
                  simp only [Rgb.last, List.getElem?_toArray, List.getElem?_cons_succ, List.getElem?_cons_zero, Option.getD_some]
                  rfl
                refine' Rgb.op_is _ [] rfl rfl (by kernel_rfl) ?_ ?_
                rotate_left
                · intro wx hb
                  refine Rgb.from_nil fun T hT => ?_
                  go_wp2
                  refine hT _ _ rfl (by first | exact Rgb.Keep.refl _ | exact below_of_dr hw2 | exact hw2 | exact (Below.refl _ _).alloc (Nat.le_refl _) _) ?_
                  simp only [Rgb.last, List.getElem?_toArray, List.getElem?_cons_succ, List.getElem?_cons_zero, Option.getD_some]
                  rfl
                refine' Rgb.op_is _ [] rfl rfl (by kernel_rfl) ?_ ?_
                rotate_left
                · intro wx hb
                  refine Rgb.from_nil fun T hT => ?_
                  go_wp2
                  refine hT _ _ rfl (by first | exact Rgb.Keep.refl _ | exact below_of_dr hw2 | exact hw2 | exact (Below.refl _ _).alloc (Nat.le_refl _) _) ?_
                  simp only [Rgb.last, List.getElem?_toArray, List.getElem?_cons_succ, List.getElem?_cons_zero, Option.getD_some]
                  rfl
                refine Rgb.op_is (.int .i64 ((i + k : Nat) : Int)) [5, 6] rfl rfl (by kernel_rfl) ?_ ?_
                · intro wx hb
                  refine Rgb.from_is (some 51) rfl rfl ?_
                  refine Rgb.from_is (some 52) rfl rfl ?_
                  refine Rgb.from_nil fun T hT => ?_
                  go_wp2
                  exact hT _ _ rfl (by first | exact Rgb.Keep.refl _ | exact below_of_dr hw2 | exact hw2 | exact (Below.refl _ _).alloc (Nat.le_refl _) _) (by first | rfl | exact congrArg _ (by decide))
                refine' Rgb.op_is _ [4, 7] rfl rfl (by kernel_rfl) ?_ ?_
                rotate_left
                · intro wx hb
                  refine Rgb.from_is (some 50) rfl rfl ?_
                  refine Rgb.from_is (some 53) rfl rfl ?_
                  refine Rgb.from_nil fun T hT => ?_
                  go_wp2
                  refine hT _ _ rfl (by first | exact Rgb.Keep.refl _ | exact below_of_dr hw2 | exact hw2 | exact (Below.refl _ _).alloc (Nat.le_refl _) _) ?_
                  simp only [Rgb.last, List.getElem?_toArray, List.getElem?_cons_succ, List.getElem?_cons_zero, Option.getD_some]
                  rfl
                refine Rgb.op_is (.int .u64 (tAt a b q (i + k) i)) [8] rfl rfl (by kernel_rfl) ?_ ?_
                · intro wx hb
                  refine Rgb.from_is (some 54) rfl rfl ?_
                  refine Rgb.from_nil fun T hT => ?_
                  have hc9 := (hb.cell (lt_of_cell hcT)).trans hcT
                  go_wp2
                  exact hT _ _ rfl (by first | exact Rgb.Keep.refl _ | exact below_of_dr hw2 | exact hw2 | exact (Below.refl _ _).alloc (Nat.le_refl _) _) (by first | rfl | exact congrArg _ (by decide))
                refine' Rgb.op_is _ [] rfl rfl (by kernel_rfl) ?_ ?_
                rotate_left
                · intro wx hb
                  refine Rgb.from_nil fun T hT => ?_
                  go_wp2
                  refine hT _ _ rfl (by first | exact Rgb.Keep.refl _ | exact below_of_dr hw2 | exact hw2 | exact (Below.refl _ _).alloc (Nat.le_refl _) _) ?_
                  simp only [Rgb.last, List.getElem?_toArray, List.getElem?_cons_succ, List.getElem?_cons_zero, Option.getD_some]
                  rfl
                refine' Rgb.op_is _ [] rfl rfl (by kernel_rfl) ?_ ?_
                rotate_left
                · intro wx hb
                  refine Rgb.from_nil fun T hT => ?_
                  go_wp2
                  refine hT _ _ rfl (by first | exact Rgb.Keep.refl _ | exact below_of_dr hw2 | exact hw2 | exact (Below.refl _ _).alloc (Nat.le_refl _) _) ?_
                  simp only [Rgb.last, List.getElem?_toArray, List.getElem?_cons_succ, List.getElem?_cons_zero, Option.getD_some]
                  rfl
                refine' Rgb.op_is _ [] rfl rfl (by kernel_rfl) ?_ ?_
                rotate_left
                · intro wx hb
                  refine Rgb.from_nil fun T hT => ?_
                  go_wp2
                  refine hT _ _ rfl (by first | exact Rgb.Keep.refl _ | exact below_of_dr hw2 | exact hw2 | exact (Below.refl _ _).alloc (Nat.le_refl _) _) ?_
                  simp only [Rgb.last, List.getElem?_toArray, List.getElem?_cons_succ, List.getElem?_cons_zero, Option.getD_some]
                  rfl
                refine Rgb.op_is (.int .u64 (mMul x y q)) [10, 11, 12] rfl rfl (by kernel_rfl) ?_ ?_
                · intro wx hb
                  refine Rgb.from_is (some 56) rfl rfl ?_
                  refine Rgb.from_is (some 57) rfl rfl ?_
                  refine Rgb.from_is (some 58) rfl rfl ?_
                  refine Rgb.from_nil fun T hT => ?_
                  go_wp2_with (go_at_call 89; refine (mul_c _ _ _ hux huy hq _).mono ?_; rintro e w5 ⟨rfl, hw5⟩)
                  exact hT _ _ rfl (below_of_dr hw5) rfl
                refine' Rgb.op_is _ [] rfl rfl (by kernel_rfl) ?_ ?_
                rotate_left
                · intro wx hb
                  refine Rgb.from_nil fun T hT => ?_
                  go_wp2
                  refine hT _ _ rfl (by first | exact Rgb.Keep.refl _ | exact below_of_dr hw2 | exact hw2 | exact (Below.refl _ _).alloc (Nat.le_refl _) _) ?_
                  simp only [Rgb.last, List.getElem?_toArray, List.getElem?_cons_succ, List.getElem?_cons_zero, Option.getD_some]
                  rfl
                refine Rgb.op_is (.int .u64 (mAdd (tAt a b q (i + k) i) (mMul x y q) q)) [9, 13, 14] rfl rfl (by kernel_rfl) ?_ ?_
                · intro wx hb
                  refine Rgb.from_is (some 55) rfl rfl ?_
                  refine Rgb.from_is (some 59) rfl rfl ?_
                  refine Rgb.from_is (some 60) rfl rfl ?_
                  refine Rgb.from_nil fun T hT => ?_
                  go_wp2_with (go_at_call 115; refine (add_c _ _ _ huT (mMul_u64 _ _ _) hq _).mono ?_; rintro e w5 ⟨rfl, hw5⟩)
                  exact hT _ _ rfl (below_of_dr hw5) rfl
                refine Rgb.walk_nil [0, 1, 2, 3, 4, 5, 6, 7, 8, 9, 10, 11, 12, 13, 14, 15] (by kernel_rfl) ?_
                intro wx hb
                refine Rgb.from_is (some 46) rfl rfl ?_
                refine Rgb.from_is (some 47) rfl rfl ?_
                refine Rgb.from_is (some 48) rfl rfl ?_
                refine Rgb.from_is (some 49) rfl rfl ?_
                refine Rgb.from_is (some 50) rfl rfl ?_
                refine Rgb.from_is (some 51) rfl rfl ?_
                refine Rgb.from_is (some 52) rfl rfl ?_
                refine Rgb.from_is (some 53) rfl rfl ?_
                refine Rgb.from_is (some 54) rfl rfl ?_
                refine Rgb.from_is (some 55) rfl rfl ?_
                refine Rgb.from_is (some 56) rfl rfl ?_
                refine Rgb.from_is (some 57) rfl rfl ?_
                refine Rgb.from_is (some 58) rfl rfl ?_
                refine Rgb.from_is (some 59) rfl rfl ?_
                refine Rgb.from_is (some 60) rfl rfl ?_
                refine Rgb.from_is (some 61) rfl rfl ?_
                refine Rgb.from_nil ?_
                simp only [List.map, Act.put, List.setIfInBounds_toArray, List.set_cons_zero, List.set_cons_succ]
                have hr5 := hr2.below hb
                have hc5 := (hb.cell (lt_of_cell hcT)).trans hcT
                have hf5 := hr5.frozen (i + k)
                have hr6 := hr5.set (i + k) (.int .u64 (mAdd (tAt a b q (i + k) i) (mMul x y q) q))
                rw [← List.map_set, HSET.out] at hr6
                have hb6 := (below_next hbw2 hbw2.size hb).setCell (p := ⟨w.heap.size, i + k, none⟩) (Nat.le_refl _) (.int .u64 (mAdd (tAt a b q (i + k) i) (mMul x y q) q))
                clear hb hr5 hr2 hbw2 hcT hcy
                go_wp2
                go_roundw
                case rel => exact ⟨k + 1, by go_num, by omega, hr6, hb6⟩
                case measure => simp [intOf]; omega
              · obtain rfl : k = b.length := by omega
                rw [tRow_next hlt] at hr2
                go_wp2
                go_roundw
                case rel => exact ⟨i + 1, by go_num, by omega, hr2, hbw2⟩
                case measure => simp [intOf]; omega
          · obtain rfl : i = a.length := by omega
            go_wp2
            go_ret
            have h9 := hr.own (Nat.le_refl _) (by rw [List.length_map, HLA.out.1]; omega)
            rw [List.length_map, HLA.out.1, HLA.out.2] at h9
            rw [hps.out]
            exact ⟨_, rfl, h9, hbw⟩
      · have hb0 : ((b.length : Int) == 0) = true := beq_iff_eq.2 (by omega)
        have hps : pTimes a b q = [] := by unfold pTimes; rw [if_neg (by omega)]
        have ha2 : ((a.length : Int) == 0) = false := beq_eq_false_iff_ne.2 (by omega)
        rw [hps]
        go_enter Tryd.func111, Tryd.ntmps111
        go_wp2_with (go_at_call 109; refine (pmay_c _ hq _).mono ?_; rintro e w' ⟨rfl, rfl⟩; rw [h])
        go_ret
        exact ⟨_, rfl, Own.nil _ _ _, Below.refl _ _⟩
    · have ha0 : ((a.length : Int) == 0) = true := beq_iff_eq.2 (by omega)
      have hps : pTimes a b q = [] := by unfold pTimes; rw [if_neg (by omega)]
      rw [hps]
      go_enter Tryd.func111, Tryd.ntmps111
      go_wp2_with (go_at_call 109; refine (pmay_c _ hq _).mono ?_; rintro e w' ⟨rfl, rfl⟩; rw [h])
      go_ret
      exact ⟨_, rfl, Own.nil _ _ _, Below.refl _ _⟩
open Go.RowKit
attribute [local go_sem] Oper.semAt_some
open Go.RowKit
attribute [local go_sem] Oper.semAt_some
/-- c divided by the polynomial of the power 1 that is 0 at x. -/
def withoutL (c : List Int) (x q : Int) : List Int := (List.range (c.length - 1)).map fun j => mEval (c.drop (j + 1)) x q
def woRow (c : List Int) (x q : Int) (k : Nat) : List Int := (List.range (c.length - 1)).map fun j => if k ≤ j then mEval (c.drop (j + 1)) x q else 0
theorem woRow_len (c : List Int) (x q : Int) (k : Nat) : (woRow c x q k).length = c.length - 1 := by simp [woRow]
theorem woRow_start (c : List Int) (x q : Int) : woRow c x q (c.length - 1) = List.replicate (c.length - 1) 0 := by
  unfold woRow
  rw [List.eq_replicate_iff]
  refine ⟨by simp, fun z hz => ?_⟩
  obtain ⟨j, hj, rfl⟩ := List.mem_map.1 hz
  rw [if_neg (by have := List.mem_range.1 hj; omega)]
theorem woRow_all (c : List Int) (x q : Int) : woRow c x q 0 = withoutL c x q := by
  unfold woRow withoutL
  apply List.map_congr_left
  intro j _
  rw [if_pos (by omega)]
theorem woRow_at {c : List Int} {x q : Int} {k : Nat} (h : k < c.length - 1) : (woRow c x q (k + 1))[k]? = some 0 := by
  unfold woRow
  rw [List.getElem?_map, List.getElem?_range h, Option.map_some, if_neg (by omega)]
theorem woRow_set {c : List Int} {x q : Int} {k : Nat} (h : k < c.length - 1) : (woRow c x q (k + 1)).set k (mEval (c.drop (k + 1)) x q) = woRow c x q k := by
  apply List.ext_getElem?
  intro j
  rw [List.getElem?_set]
  split
  · rename_i hj
    subst hj
    rw [if_pos (by rw [woRow_len]; exact h)]
    unfold woRow
    rw [List.getElem?_map, List.getElem?_range h, Option.map_some, if_pos (Nat.le_refl _)]
  · rename_i hj
    unfold woRow
    rw [List.getElem?_map, List.getElem?_map]
    rcases Nat.lt_or_ge j (c.length - 1) with h1 | h1
    · rw [List.getElem?_range h1, Option.map_some, Option.map_some]
      congr 1
      by_cases hc : k ≤ j
      · rw [if_pos (by omega), if_pos hc]
      · rw [if_neg (by omega), if_neg hc]
    · rw [List.getElem?_eq_none (by simpa using h1)]; rfl
set_option maxRecDepth 100000 in
set_option maxHeartbeats 2000000 in
theorem without_c (A : Option Addr) (l : List Int) (c : Nat) (x q : Int) (w : World) (hA : Cells w A (l.map (.int .u64))) (h1 : 1 ≤ l.length) (hl : l.length ≤ 1000000) (hu : U64s l) (hx : U64 x) (hq : U64 q) :
    Calls Tryd.prog 114 #[.slice A l.length c, .int .u64 x, .int .u64 q] w (NewNumsP (withoutL l x q) w) := by
  have hi0 : (l.length : Int) - 1 = ((l.length - 1 : Nat) : Int) := by omega
  have HI := hid hi0
  clear hi0
  go_enter Tryd.func114, Tryd.ntmps114
  go_wp2_with (at_make; refine wpList_make_row elt_u64 _ rfl _ _ rfl .i64 .i64 _ _ (l.length - 1) rfl rfl (by first | rfl | exact HI.out) (by first | rfl | exact HI.out) (by omega) (by omega) ?_; intro w1 hr1 hs1 hb1)
  go_loopw [8, 9] (fun o i wr => ∃ k : Nat, i = .int .i64 k ∧ k ≤ l.length - 1 ∧ o = .int .u64 (mEval (l.drop (k + 1)) x q) ∧ Row1 wr w.heap.size 24 ((woRow l x q k).map (.int .u64)) ∧ Below w.heap.size w wr) (fun _ i _ => (intOf i).toNat)
  case atStart => exact ⟨l.length - 1, by rw [← HI.out], Nat.le_refl _, by rw [show l.length - 1 + 1 = l.length by omega, List.drop_length, mEval_nil], by rw [woRow_start, List.map_replicate]; exact hr1, hb1⟩
  case round =>
    obtain ⟨k, rfl, hk, rfl, hr, hb⟩ := hrel
    cases k with
    | zero =>
      go_wp2
      go_ret
      rw [woRow_all] at hr
      have h9 := hr.own (Nat.le_refl _) (by rw [List.length_map]; simp [withoutL]; omega)
      have hlen : (withoutL l x q).length = l.length - 1 := by simp [withoutL]
      rw [List.length_map, hlen] at h9
      exact ⟨_, rfl, h9, hb⟩
    | succ k =>
      obtain ⟨z, hz⟩ := get_of_lt (l := l) (show k + 1 < l.length by omega)
      obtain ⟨o2, off2, rfl, hcz⟩ := (hA.keep fun p hp => hb.cell hp).at_map hz
      have huz := hu.at_ hz
      have hstep := mEval_drop hz x q
      have hm := mEval_u64 (l.drop (k + 1 + 1)) x q
      have hset := woRow_set (c := l) (x := x) (q := q) (k := k) (by omega)
      have hat := woRow_at (c := l) (x := x) (q := q) (k := k) (by omega)
      rw [hstep] at hset
      obtain ⟨v, hv⟩ : ∃ v, mEval (l.drop (k + 1 + 1)) x q = v := ⟨_, rfl⟩
      rw [hv] at hset hm hstep ⊢
      have hcO := hr.cell (k := k) (u := .int .u64 0) (by rw [List.getElem?_map, hat]; rfl)
      have HS := hid (⟨hset, hstep⟩ : _ ∧ _)
      have hi : ((k + 1 : Nat) : Int) - 1 = (k : Int) := by omega
      clear hset hstep hv hat hz
      go_wp2
      go_quiet (first | (go_at_call 89; exact quiet_dr (mul_c _ _ _ hm hx hq _)) | (go_at_call 115; exact quiet_dr (add_c _ _ _ (mMul_u64 _ _ _) huz hq _)))
      have hfO := hr.frozen k
      go_wp2
      go_roundw
      case rel =>
        refine ⟨k, by go_num, by omega, by rw [HS.out.2], ?_, ?_⟩
        · have h9 := hr.set k (.int .u64 (mAdd (mMul v x q) z q))
          rw [← List.map_set, HS.out.1] at h9
          exact h9
        · exact (below_dr hb ⟨_, rfl⟩).setCell (p := ⟨w.heap.size, k, none⟩) (Nat.le_refl _) _
      case measure => simp [intOf]
end Go.Proofs.YtlbhmoiicbhgkaaDoor
end

section
namespace Go.Proofs.YtlbhmoiicbhgkaaDoor
/-- a has an inverse modulo q. -/
def Un (a q : Int) : Prop := ∃ x, (x * a) % q = 1 % q
theorem Un.congr {a b q : Int} (h : Un a q) (he : a % q = b % q) : Un b q := by
  obtain ⟨x, hx⟩ := h
  exact ⟨x, (emod_mul_congr rfl he).symm.trans hx⟩
theorem Un.one (q : Int) : Un 1 q := ⟨1, by simp⟩
theorem Un.mul {a b q : Int} (h : Un a q) (k : Un b q) : Un (a * b) q := by
  obtain ⟨x, hx⟩ := h
  obtain ⟨y, hy⟩ := k
  refine ⟨x * y, ?_⟩
  have e : x * y * (a * b) = x * a * (y * b) := by grind
  rw [e, emod_mul_congr hx hy]
  simp
theorem Un.left {a b q : Int} (h : Un (a * b) q) : Un a q := by
  obtain ⟨x, hx⟩ := h
  exact ⟨x * b, by rw [← hx]; congr 1; grind⟩
theorem Un.right {a b q : Int} (h : Un (a * b) q) : Un b q := by
  obtain ⟨x, hx⟩ := h
  exact ⟨x * a, by rw [← hx]; congr 1; grind⟩
theorem Un.neg {a b q : Int} (h : Un (a - b) q) : Un (b - a) q := by
  obtain ⟨x, hx⟩ := h
  exact ⟨-x, by rw [← hx]; congr 1; grind⟩
theorem Un.cancel {a b q : Int} (h : Un a q) (he : (a * b) % q = 0) : b % q = 0 := by
  obtain ⟨x, hx⟩ := h
  have h1 : (x * a * b) % q = b % q := by
    rw [emod_mul_congr (b := 1) hx (rfl : b % q = b % q), Int.one_mul]
  rw [← h1]
  have h2 : x * a * b = x * (a * b) := by grind
  rw [h2, ← mr_mul, he]
  simp
theorem inv_of_un {a q : Int} (h0 : 0 < q) (h : Un a q) : ∃ x, InvIs a q x := by
  obtain ⟨x, hx⟩ := h
  refine ⟨x % q, Int.emod_nonneg _ (by omega), Int.emod_lt_of_pos _ h0, (x % q * a) / q - 1 / q, ?_⟩
  have h1 : (x % q * a) % q = 1 % q := by rw [ml_mul]; exact hx
  have h2 := Int.mul_ediv_add_emod (x % q * a) q
  have h3 := Int.mul_ediv_add_emod 1 q
  rw [h1] at h2
  rw [Int.mul_sub]
  omega
theorem un_of_inv {a q x : Int} (h : InvIs a q x) : Un a q := by
  obtain ⟨_, _, k, hk⟩ := h
  exact ⟨x, by rw [hk, Int.add_mul_emod_self_left]⟩
theorem iErr_zero {a q : Int} (h : okm q = true) : iErr a q = 0 ↔ Un a q := by
  constructor
  · intro he
    apply Classical.byContradiction
    intro hn
    have := iErr_none h (fun ⟨x, hx⟩ => hn (un_of_inv hx))
    omega
  · intro hu
    obtain ⟨x, hx⟩ := inv_of_un (okm_pos h) hu
    exact iErr_is h hx
theorem iErr_five {a q : Int} (h : okm q = true) (hn : ¬ Un a q) : iErr a q = 5 := iErr_none h fun ⟨_, hx⟩ => hn (un_of_inv hx)
theorem iVal_mul {a q : Int} (h : okm q = true) (hu : Un a q) : (iVal a q * a) % q = 1 % q := by
  obtain ⟨x, hx⟩ := inv_of_un (okm_pos h) hu
  rw [iVal_is h hx]
  obtain ⟨_, _, k, hk⟩ := hx
  rw [hk, Int.add_mul_emod_self_left]
theorem iVal_u64 (a q : Int) : U64 (iVal a q) := by
  by_cases hx : okm q = true ∧ ∃ x, InvIs a q x
  · obtain ⟨h, x, hx⟩ := hx
    rw [iVal_is h hx]
    have := okm_le h
    exact ⟨hx.1, by have := hx.2.1; omega⟩
  · by_cases h : okm q = true
    · rw [iVal_none fun hh => hx ⟨h, hh⟩]; exact ⟨by omega, by omega⟩
    · rw [iVal_no (by simpa using h)]; exact ⟨by omega, by omega⟩
/-- all of a row but number i. -/
def but (l : List Int) (i : Nat) : List Int := l.take i ++ l.drop (i + 1)
theorem but_ne {l : List Int} {x : Int} {i : Nat} (h : l.length ≠ i) : but (l ++ [x]) i = but l i ++ [x] := by
  unfold but
  rcases Nat.lt_or_ge l.length i with h1 | h1
  · rw [List.take_of_length_le (by simp; omega), List.drop_eq_nil_of_le (by simp; omega), List.take_of_length_le (by omega), List.drop_eq_nil_of_le (by omega)]
    simp
  · rw [List.take_append_of_le_length (by omega), List.drop_append_of_le_length (by omega), List.append_assoc]
theorem but_eq {l : List Int} {x : Int} {i : Nat} (h : l.length = i) : but (l ++ [x]) i = but l i := by
  unfold but
  rw [List.take_append_of_le_length (by omega), List.drop_eq_nil_of_le (by simp; omega), List.drop_eq_nil_of_le (by omega)]
/-- the product of what lies between y and each of a row. -/
def pd : List Int → Int → Int
  | [], _ => 1
  | x :: l, y => (y - x) * pd l y
theorem pd_append (a b : List Int) (y : Int) : pd (a ++ b) y = pd a y * pd b y := by
  induction a with
  | nil => simp [pd]
  | cons x a ih => simp only [List.cons_append, pd, ih]; grind
theorem pd_but {l : List Int} {i : Nat} {x : Int} (h : l[i]? = some x) (y : Int) : pd l y = (y - x) * pd (but l i) y := by
  obtain ⟨hi, rfl⟩ := List.getElem?_eq_some_iff.1 h
  have e : l = l.take i ++ l[i] :: l.drop (i + 1) := by
    rw [← List.drop_eq_getElem_cons hi, List.take_append_drop]
  have e2 : pd l y = pd (l.take i) y * ((y - l[i]) * pd (l.drop (i + 1)) y) := by
    conv => lhs; rw [e]
    rw [pd_append, pd]
  rw [e2, but, pd_append]
  grind
theorem pd_mem {l : List Int} {x : Int} (h : x ∈ l) : pd l x = 0 := by
  induction l with
  | nil => cases h
  | cons z l ih =>
    rw [pd]
    rcases List.mem_cons.1 h with rfl | h
    · rw [Int.sub_self, Int.zero_mul]
    · rw [ih h, Int.mul_zero]
theorem pd_congr (l : List Int) {y z q : Int} (h : y % q = z % q) : pd l y % q = pd l z % q := by
  induction l with
  | nil => rfl
  | cons x l ih => exact emod_mul_congr (emod_sub_congr h rfl) ih
theorem pd_un {l : List Int} {y q : Int} : Un (pd l y) q ↔ ∀ x ∈ l, Un (y - x) q := by
  induction l with
  | nil => simp [pd, Un.one]
  | cons x l ih =>
    rw [pd]
    constructor
    · intro h z hz
      rcases List.mem_cons.1 hz with rfl | hz
      · exact h.left
      · exact ih.1 h.right z hz
    · intro h
      exact (h x (List.mem_cons_self ..)).mul (ih.2 fun z hz => h z (List.mem_cons_of_mem _ hz))
/-- the same product, modulo q, as it is reckoned. -/
def mProd (l : List Int) (y q : Int) : Int := l.foldl (fun s x => mMul s (mSub y x q) q) (1 % q)
theorem mProd_emod {q : Int} (h : okm q = true) (l : List Int) (y : Int) : mProd l y q = pd l y % q := by
  unfold mProd
  have key : ∀ (l : List Int) (s t : Int), s % q = t % q → (∃ u, s = u % q) → l.foldl (fun s x => mMul s (mSub y x q) q) s = (t * pd l y) % q := by
    intro l
    induction l with
    | nil =>
      rintro s t hst ⟨u, rfl⟩
      rw [Int.emod_emod] at hst
      simp [pd, hst]
    | cons x l ih =>
      rintro s t hst _
      rw [List.foldl_cons, ih (mMul s (mSub y x q) q) (t * (y - x)) ?_ ⟨_, by rw [mMul_ok h]⟩]
      · rw [pd]; congr 1; grind
      · rw [mMul_ok h, Int.emod_emod, mSub_ok h, mr_mul]
        exact emod_mul_congr hst rfl
  rw [key l (1 % q) 1 (Int.emod_emod _ _) ⟨1, rfl⟩, Int.one_mul]
theorem mProd_u64 {q : Int} (h : okm q = true) (l : List Int) (y : Int) : U64 (mProd l y q) := by
  rw [mProd_emod h]; exact mod_u64 h
/-- the places are apart, and what lies between any two has an inverse. -/
def Apart (xs : List Int) (q : Int) : Prop := xs.Pairwise fun a b => Un (b - a) q
theorem apart_iff {xs : List Int} {q : Int} : Apart xs q ↔ ∀ i x, xs[i]? = some x → Un (pd (but xs i) x) q := by
  constructor
  · intro h i x hx
    obtain ⟨hi, rfl⟩ := List.getElem?_eq_some_iff.1 hx
    have h1 := List.pairwise_iff_getElem.1 h
    rw [pd_un]
    intro z hz
    rcases List.mem_append.1 hz with hz | hz
    · obtain ⟨k, hk, rfl⟩ := List.mem_iff_getElem.1 hz
      rw [List.length_take] at hk
      rw [List.getElem_take]
      exact h1 k i (by omega) hi (by omega)
    · obtain ⟨k, hk, rfl⟩ := List.mem_iff_getElem.1 hz
      rw [List.length_drop] at hk
      rw [List.getElem_drop]
      exact (h1 i (i + 1 + k) hi (by omega) (by omega)).neg
  · intro h
    refine List.pairwise_iff_getElem.2 fun i j hi hj hij => ?_
    have h1 := pd_un.1 (h j xs[j] (List.getElem?_eq_getElem hj))
    refine h1 _ (List.mem_append_left _ (List.mem_iff_getElem.2 ⟨i, by rw [List.length_take]; omega, ?_⟩))
    rw [List.getElem_take]
noncomputable def wOne (xs : List Int) (y q : Int) (i : Nat) : Int := mMul (iVal (mProd (but xs i) (xs.getD i 0) q) q) (mProd (but xs i) y q) q
/-- divided by X - x, over the whole numbers. -/
def divZ : List Int → Int → List Int
  | [], _ => []
  | _c :: l, x => if l.length = 0 then [] else ev l x :: divZ l x
theorem divZ_len (l : List Int) (x : Int) : (divZ l x).length = l.length - 1 := by
  induction l with
  | nil => rfl
  | cons c l ih =>
    unfold divZ
    split
    · rename_i h; simp [h]
    · simp [ih]; omega
theorem divZ_ev (l : List Int) (x X : Int) : ev l X = (X - x) * ev (divZ l x) X + ev l x := by
  induction l with
  | nil => simp [divZ, ev]
  | cons c l ih =>
    unfold divZ
    split
    · rename_i h
      obtain rfl := List.eq_nil_of_length_eq_zero h
      simp [ev]
    · rw [ev_cons, ev_cons, ev_cons, ih]
      generalize ev (divZ l x) X = d
      generalize ev l x = e
      grind
theorem divZ_zero {q : Int} (x : Int) : ∀ (l : List Int), (∀ e ∈ divZ l x, e % q = 0) → ev l x % q = 0 → ∀ c ∈ l, c % q = 0
  | [], _, _, c, hc => by cases hc
  | d :: l, h, he, c, hc => by
    unfold divZ at h
    split at h
    · rename_i hl
      obtain rfl := List.eq_nil_of_length_eq_zero hl
      rw [List.mem_singleton] at hc
      subst hc
      simpa [ev] using he
    · have h1 := h _ (List.mem_cons_self ..)
      have h2 := divZ_zero x l (fun e hm => h e (List.mem_cons_of_mem _ hm)) h1
      rcases List.mem_cons.1 hc with rfl | hc
      · rw [ev_cons, emod_add_congr (b := c) (d := 0) rfl (by rw [← mr_mul, h1]; simp), Int.add_zero] at he
        exact he
      · exact h2 c hc
/-- A POLYNOMIAL THAT IS 0 AT AS MANY PLACES AS IT HAS COEFFICIENTS. -/
theorem roots_zero {q : Int} : ∀ (xs l : List Int), Apart xs q → l.length ≤ xs.length → (∀ x ∈ xs, ev l x % q = 0) → ∀ c ∈ l, c % q = 0
  | [], l, _, hl, _, c, hc => by
    obtain rfl := List.eq_nil_of_length_eq_zero (Nat.le_zero.1 hl)
    cases hc
  | x :: xs, l, ha, hl, hz, c, hc => by
    have ha' := List.pairwise_cons.1 ha
    have hx := hz x (List.mem_cons_self ..)
    refine divZ_zero x l (roots_zero xs (divZ l x) ha'.2 (by rw [divZ_len]; simp at hl; omega) fun y hy => ?_) hx c hc
    have h1 := hz y (List.mem_cons_of_mem _ hy)
    rw [divZ_ev l x y, emod_add_congr (d := 0) rfl (by rw [hx]; simp), Int.add_zero] at h1
    exact (ha'.1 y hy).cancel h1
def subZ : List Int → List Int → List Int
  | a :: l, b :: m => (a - b) :: subZ l m
  | _, _ => []
theorem subZ_len {a b : List Int} (h : a.length = b.length) : (subZ a b).length = a.length := by
  induction a generalizing b with
  | nil => rfl
  | cons x a ih =>
    cases b with
    | nil => simp at h
    | cons y b => simp [subZ, ih (by simpa using h)]
theorem subZ_ev {a b : List Int} (h : a.length = b.length) (x : Int) : ev (subZ a b) x = ev a x - ev b x := by
  induction a generalizing b with
  | nil =>
    cases b with
    | nil => simp [subZ, ev]
    | cons y b => simp at h
  | cons c a ih =>
    cases b with
    | nil => simp at h
    | cons d b => simp only [subZ, ev_cons, ih (by simpa using h)]; grind
theorem subZ_zero {q : Int} {a b : List Int} (h : a.length = b.length) (hz : ∀ c ∈ subZ a b, c % q = 0) : a.map (· % q) = b.map (· % q) := by
  induction a generalizing b with
  | nil =>
    cases b with
    | nil => rfl
    | cons y b => simp at h
  | cons c a ih =>
    cases b with
    | nil => simp at h
    | cons d b =>
      simp only [subZ, List.mem_cons, forall_eq_or_imp] at hz
      simp only [List.map_cons]
      have h1 : c % q = d % q := by
        have : c = (c - d) + d := by omega
        rw [this, emod_add_congr (b := 0) (by rw [hz.1]; simp) rfl, Int.zero_add]
      rw [h1, ih (by simpa using h) hz.2]
/-- two with the same values at as many places as they have coefficients. -/
theorem only_one {q : Int} {xs a b : List Int} (ha : Apart xs q) (hl : a.length = xs.length) (hl' : b.length = xs.length) (hv : ∀ x ∈ xs, ev a x % q = ev b x % q) : a.map (· % q) = b.map (· % q) := by
  refine subZ_zero (by omega) (roots_zero xs _ ha (by rw [subZ_len (by omega)]; omega) fun x hx => ?_)
  rw [subZ_ev (by omega), emod_sub_congr (hv x hx) rfl, Int.sub_self, Int.zero_emod]
/-- times X - x, over the whole numbers. -/
def linR : Int → List Int → Int → List Int
  | p, [], _ => [p]
  | p, c :: l, x => (p - x * c) :: linR c l x
theorem linR_len (p : Int) (l : List Int) (x : Int) : (linR p l x).length = l.length + 1 := by
  induction l generalizing p with
  | nil => rfl
  | cons c l ih => simp [linR, ih]
theorem linR_ev (p : Int) (l : List Int) (x X : Int) : ev (linR p l x) X = p + (X - x) * ev l X := by
  induction l generalizing p with
  | nil => simp [linR, ev]
  | cons c l ih => simp only [linR, ev_cons, ih]; grind
theorem linR_at (p : Int) (l : List Int) (x : Int) (n : Nat) (h : n ≤ l.length) : (linR p l x)[n]? = some ((if n = 0 then p else l.getD (n - 1) 0) - x * l.getD n 0) := by
  induction l generalizing p n with
  | nil =>
    obtain rfl : n = 0 := by simpa using h
    simp [linR]
  | cons c l ih =>
    cases n with
    | zero => simp [linR]
    | succ n =>
      rw [linR, List.getElem?_cons_succ, ih c n (by simpa using h)]
      cases n with
      | zero => simp
      | succ n => simp
theorem tAt_low {a : List Int} {s t q : Int} {n : Nat} : ∀ k, k + 1 ≤ n → tAt a [s, t] q n k = 0
  | 0, _ => rfl
  | k + 1, h => by rw [tAt_same (by simp; omega), tAt_low k (by omega)]
theorem tAt_lin {a : List Int} {s q : Int} (hq : okm q = true) {n : Nat} (h : n ≤ a.length) (_h1 : 1 ≤ a.length) : tAt a [s, 1] q n (n + 1) = ((if n = 0 then 0 else a.getD (n - 1) 0) + s * a.getD n 0) % q := by
  have top : ∀ z, tAt a [s, 1] q n n % q = z % q → (∃ u, tAt a [s, 1] q n n = u % q) → tAt a [s, 1] q n (n + 1) = (z + s * a.getD n 0) % q := by
    rintro z hz ⟨u, hu⟩
    rcases Nat.lt_or_ge n a.length with h2 | h2
    · obtain ⟨x, hx⟩ : ∃ x, a[n]? = some x := ⟨_, List.getElem?_eq_getElem h2⟩
      rw [tAt_step (Nat.le_refl n) hx (y := s) (by simp), mAdd_ok hq, mMul_ok hq, mr_add, List.getD_eq_getElem?_getD, hx, Option.getD_some, Int.mul_comm s]
      exact emod_add_congr hz rfl
    · rw [tAt_same (by omega), List.getD_eq_getElem?_getD, List.getElem?_eq_none h2, Option.getD_none, Int.mul_zero, Int.add_zero, ← hz, hu, Int.emod_emod]
  cases n with
  | zero => exact top 0 rfl ⟨0, by simp [tAt]⟩
  | succ k =>
    obtain ⟨x, hx⟩ : ∃ x, a[k]? = some x := ⟨_, List.getElem?_eq_getElem (by omega)⟩
    have e : tAt a [s, 1] q (k + 1) (k + 1) = x % q := by
      rw [tAt_step (Nat.le_succ k) hx (y := 1) (by rw [show k + 1 - k = 1 by omega]; rfl), tAt_low k (Nat.le_refl _), mAdd_ok hq, mMul_ok hq, mr_add, Int.zero_add, Int.mul_one]
    have := top x (by rw [e, Int.emod_emod]) ⟨_, e⟩
    rw [this, if_neg (by omega), Nat.add_sub_cancel, List.getD_eq_getElem?_getD (l := a) (i := k), hx, Option.getD_some]
theorem getD_map_mod (l : List Int) (q : Int) (n : Nat) : (l.map (· % q)).getD n 0 = l.getD n 0 % q := by
  rw [List.getD_eq_getElem?_getD, List.getD_eq_getElem?_getD, List.getElem?_map]
  cases l[n]? <;> simp
theorem getD_congr {a z : List Int} {q : Int} (h : a.map (· % q) = z.map (· % q)) (n : Nat) : a.getD n 0 % q = z.getD n 0 % q := by
  rw [← getD_map_mod, ← getD_map_mod, h]
/-- one factor more. -/
theorem times_lin {a z : List Int} {x q : Int} (hq : okm q = true) (h1 : 1 ≤ a.length) (h : a.map (· % q) = z.map (· % q)) : (pTimes a [mSub 0 x q, 1] q).map (· % q) = (linR 0 z x).map (· % q) ∧ (pTimes a [mSub 0 x q, 1] q).length = a.length + 1 := by
  have hl : a.length = z.length := by simpa using congrArg List.length h
  have hp : pTimes a [mSub 0 x q, 1] q = timesP a [mSub 0 x q, 1] q := by unfold pTimes; rw [if_pos ⟨hq, by omega, by simp⟩]
  have hlen : (timesP a [mSub 0 x q, 1] q).length = a.length + 1 := by simp [timesP]
  rw [hp]
  refine ⟨?_, hlen⟩
  apply List.ext_getElem?
  intro n
  rw [List.getElem?_map, List.getElem?_map]
  rcases Nat.lt_or_ge a.length n with h2 | h2
  · rw [List.getElem?_eq_none (by omega), List.getElem?_eq_none (by rw [linR_len]; omega)]
  · rw [linR_at 0 z x n (by omega)]
    unfold timesP
    rw [List.getElem?_map, List.getElem?_range (by simp; omega), Option.map_some, Option.map_some, Option.map_some, tAt_lin hq h2 h1, Int.emod_emod]
    congr 1
    rw [mSub_ok hq]
    have e2 := getD_congr h n
    have e3 : (0 - x) % q * a.getD n 0 % q = (0 - x) * z.getD n 0 % q := emod_mul_congr (Int.emod_emod _ _) e2
    have e4 : (if n = 0 then 0 else a.getD (n - 1) 0) % q = (if n = 0 then 0 else z.getD (n - 1) 0) % q := by
      split
      · rfl
      · exact getD_congr h _
    have e5 : (if n = 0 then (0 : Int) else z.getD (n - 1) 0) - x * z.getD n 0 = (if n = 0 then 0 else z.getD (n - 1) 0) + (0 - x) * z.getD n 0 := by grind
    rw [e5]
    exact emod_add_congr e4 e3
/-- the polynomial that is 0 at all places. -/
def pAll (xs : List Int) (q : Int) : List Int := xs.foldl (fun a x => pTimes a [mSub 0 x q, 1] q) [1 % q]
theorem pAll_snoc (xs : List Int) (x q : Int) : pAll (xs ++ [x]) q = pTimes (pAll xs q) [mSub 0 x q, 1] q := by simp [pAll]
theorem pAll_is {q : Int} (hq : okm q = true) (xs : List Int) : (pAll xs q).length = xs.length + 1 ∧ ∃ z, (pAll xs q).map (· % q) = z.map (· % q) ∧ ∀ X, ev z X = pd xs X := by
  have key : ∀ (xs a z : List Int), 1 ≤ a.length → a.map (· % q) = z.map (· % q) → (xs.foldl (fun a x => pTimes a [mSub 0 x q, 1] q) a).length = a.length + xs.length ∧ ∃ z', (xs.foldl (fun a x => pTimes a [mSub 0 x q, 1] q) a).map (· % q) = z'.map (· % q) ∧ ∀ X, ev z' X = ev z X * pd xs X := by
    intro xs
    induction xs with
    | nil => intro a z _ h; exact ⟨rfl, z, h, fun X => by simp [pd]⟩
    | cons x xs ih =>
      intro a z h1 h
      obtain ⟨h2, h3⟩ := times_lin (x := x) hq h1 h
      obtain ⟨h4, z', h5, h6⟩ := ih _ _ (by omega) h2
      rw [List.foldl_cons]
      refine ⟨by rw [h4, h3]; simp; omega, z', h5, fun X => ?_⟩
      rw [h6, linR_ev, pd]
      grind
  obtain ⟨h1, z, h2, h3⟩ := key xs [1 % q] [1] (by simp) (by simp)
  refine ⟨by rw [pAll, h1]; simp; omega, z, h2, fun X => ?_⟩
  rw [h3]; simp [ev]
theorem pAll_ev {q : Int} (hq : okm q = true) (xs : List Int) (X : Int) : ev (pAll xs q) X % q = pd xs X % q := by
  obtain ⟨_, z, h1, h2⟩ := pAll_is hq xs
  rw [ev_congr (y := X) rfl h1, h2]
theorem divZ_at (x : Int) : ∀ (l : List Int) (j : Nat), j < l.length - 1 → (divZ l x)[j]? = some (ev (l.drop (j + 1)) x)
  | [], j, h => by simp at h
  | c :: l, j, h => by
    simp only [List.length_cons, Nat.add_sub_cancel] at h
    unfold divZ
    rw [if_neg (by omega)]
    cases j with
    | zero => simp
    | succ j => rw [List.getElem?_cons_succ, divZ_at x l j (by omega), List.drop_succ_cons]
theorem without_is {q : Int} (hq : okm q = true) (l : List Int) (x : Int) : withoutL l x q = (divZ l x).map (· % q) := by
  apply List.ext_getElem?
  intro j
  unfold withoutL
  rw [List.getElem?_map, List.getElem?_map]
  rcases Nat.lt_or_ge j (l.length - 1) with h | h
  · rw [List.getElem?_range h, divZ_at x l j h, Option.map_some, Option.map_some, mEval_ok hq]
  · rw [List.getElem?_eq_none (by simpa using h), List.getElem?_eq_none (by rw [divZ_len]; exact h)]; rfl
theorem map_drop_congr {a z : List Int} {q : Int} (h : a.map (· % q) = z.map (· % q)) (j : Nat) : (a.drop j).map (· % q) = (z.drop j).map (· % q) := by
  rw [List.map_drop, List.map_drop, h]
theorem without_congr {a z : List Int} {q : Int} (h : a.map (· % q) = z.map (· % q)) (x : Int) : withoutL a x q = withoutL z x q := by
  unfold withoutL
  have hl : a.length = z.length := by simpa using congrArg List.length h
  rw [hl]
  apply List.map_congr_left
  intro j _
  exact mEval_congr rfl (map_drop_congr h _)
theorem map_mod_mod (l : List Int) (q : Int) : (l.map (· % q)).map (· % q) = l.map (· % q) := by
  rw [List.map_map]; apply List.map_congr_left; intro x _; simp
theorem part_len {q : Int} (hq : okm q = true) (xs : List Int) (x : Int) : (withoutL (pAll xs q) x q).length = xs.length := by
  simp [withoutL, (pAll_is hq xs).1]
/-- the one that is 0 at all places but number i. -/
theorem part_ev {q : Int} (hq : okm q = true) {xs : List Int} {i : Nat} {x : Int} (hx : xs[i]? = some x) (ha : Apart xs q) : ev (withoutL (pAll xs q) x q) x % q = pd (but xs i) x % q ∧ ∀ j y, xs[j]? = some y → j ≠ i → ev (withoutL (pAll xs q) x q) y % q = 0 := by
  obtain ⟨_, z, h1, h2⟩ := pAll_is hq xs
  have h0 := okm_pos hq
  have hm : x ∈ xs := List.mem_of_getElem? hx
  have key : ∀ X, (X - x) * ev (divZ z x) X = pd xs X := fun X => by
    have := divZ_ev z x X
    rw [h2, h2, pd_mem hm] at this
    omega
  have hw : ∀ X, ev (withoutL (pAll xs q) x q) X % q = ev (divZ z x) X % q := fun X => by
    rw [without_congr h1, without_is hq]
    exact ev_congr rfl (map_mod_mod _ _)
  constructor
  · have h3 := key (x + q)
    rw [pd_but hx (x + q), show x + q - x = q by omega] at h3
    have h4 := Int.eq_of_mul_eq_mul_left (by omega) h3
    have h5 : (x + q) % q = x % q := by simp
    rw [hw, ← ev_congr h5 rfl, h4, pd_congr _ h5]
  · intro j y hy hji
    rw [hw]
    have h3 := key y
    rw [pd_mem (List.mem_of_getElem? hy)] at h3
    have h4 := List.pairwise_iff_getElem.1 ha
    obtain ⟨hi, rfl⟩ := List.getElem?_eq_some_iff.1 hx
    obtain ⟨hj, rfl⟩ := List.getElem?_eq_some_iff.1 hy
    have hu : Un (xs[j] - xs[i]) q := by
      rcases Nat.lt_or_ge i j with h | h
      · exact h4 i j hi hj h
      · exact (h4 j i hj hi (by omega)).neg
    exact hu.cancel (by rw [h3]; simp)
theorem mAdd_mod {q : Int} (hq : okm q = true) (a b : Int) : mAdd a b q % q = (a + b) % q := by rw [mAdd_ok hq, Int.emod_emod]
theorem mMul_mod {q : Int} (hq : okm q = true) (a b : Int) : mMul a b q % q = (a * b) % q := by rw [mMul_ok hq, Int.emod_emod]
theorem cAt_ev {q : Int} (l : List Int) (n : Nat) (x : Int) (h : l.length ≤ n) : ev ((List.range n).map fun i => cAt l i q) x % q = ev l x % q := by
  have e : ((List.range n).map fun i => cAt l i q) = (l ++ List.replicate (n - l.length) 0).map (· % q) := by
    apply List.ext_getElem?
    intro i
    rw [List.getElem?_map, List.getElem?_map]
    rcases Nat.lt_or_ge i n with h1 | h1
    · rw [List.getElem?_range h1, Option.map_some]
      rcases Nat.lt_or_ge i l.length with h2 | h2
      · rw [List.getElem?_append_left h2, List.getElem?_eq_getElem h2, Option.map_some, cAt_in (List.getElem?_eq_getElem h2)]
      · rw [List.getElem?_append_right h2, List.getElem?_replicate, if_pos (by omega), Option.map_some, cAt_out h2]; simp
    · rw [List.getElem?_eq_none (by simpa using h1), List.getElem?_eq_none (by simp; omega)]; rfl
  have e0 : ∀ m, ev (List.replicate m 0) x = 0 := by
    intro m
    induction m with
    | zero => rfl
    | succ m ih => rw [List.replicate_succ, ev_cons, ih]; simp
  rw [e, ev_congr rfl (map_mod_mod _ _), ev_append, e0]
  simp
theorem sum_ev {q : Int} (hq : okm q = true) (a b : List Int) (x : Int) : ev (pSum a b q) x % q = (ev a x + ev b x) % q := by
  have hp : pSum a b q = sumL a b q := by unfold pSum; rw [if_pos hq]
  rw [hp, ← emod_add_congr (cAt_ev a (max a.length b.length) x (by omega)) (cAt_ev b (max a.length b.length) x (by omega))]
  unfold sumL
  have key : ∀ (l : List Nat), ev (l.map fun i => mAdd (cAt a i q) (cAt b i q) q) x % q = (ev (l.map fun i => cAt a i q) x + ev (l.map fun i => cAt b i q) x) % q := by
    intro l
    induction l with
    | nil => simp [ev]
    | cons i l ih =>
      simp only [List.map_cons, ev_cons]
      rw [emod_add_congr (mAdd_mod hq _ _) (emod_mul_congr (rfl : x % q = x % q) ih)]
      congr 1
      grind
  exact key _
theorem scale_ev {q : Int} (hq : okm q = true) (a : List Int) (k x : Int) : ev (pScale a k q) x % q = (k * ev a x) % q := by
  have hp : pScale a k q = a.map fun c => mMul c k q := by unfold pScale; rw [if_pos hq]
  rw [hp]
  induction a with
  | nil => simp [ev]
  | cons c a ih =>
    have ih := ih (by unfold pScale; rw [if_pos hq])
    simp only [List.map_cons, ev_cons]
    rw [emod_add_congr (mMul_mod hq _ _) (emod_mul_congr (rfl : x % q = x % q) ih)]
    congr 1
    grind
theorem scale_len {q : Int} (hq : okm q = true) (a : List Int) (k : Int) : (pScale a k q).length = a.length := by
  unfold pScale; rw [if_pos hq]; simp
theorem sum_len {q : Int} (hq : okm q = true) (a b : List Int) : (pSum a b q).length = max a.length b.length := by
  unfold pSum; rw [if_pos hq, sumL_len]
/-- all reduced. -/
theorem sum_red {q : Int} (hq : okm q = true) (a b : List Int) : (pSum a b q).map (· % q) = pSum a b q := by
  unfold pSum sumL
  rw [if_pos hq, List.map_map]
  apply List.map_congr_left
  intro i _
  simp [mAdd_ok hq]
/-- the program's, behind k points. -/
noncomputable def pOut (xs ys : List Int) (q : Int) : Nat → List Int
  | 0 => List.replicate xs.length 0
  | k + 1 => pSum (pOut xs ys q k) (pScale (withoutL (pAll xs q) (xs.getD k 0) q) (mMul (iVal (mProd (but xs k) (xs.getD k 0) q) q) (ys.getD k 0) q) q) q
/-- the reference's. -/
noncomputable def rOut (xs ys : List Int) (q : Int) : Nat → List Int
  | 0 => []
  | k + 1 => pSum (rOut xs ys q k) (pScale (pAll (xs.take k) q) (mMul (mSub (ys.getD k 0) (mEval (rOut xs ys q k) (xs.getD k 0) q) q) (iVal (mEval (pAll (xs.take k) q) (xs.getD k 0) q) q) q) q) q
theorem pOut_len {q : Int} (hq : okm q = true) (xs ys : List Int) : ∀ k, (pOut xs ys q k).length = xs.length
  | 0 => by simp [pOut]
  | k + 1 => by rw [pOut, sum_len hq, scale_len hq, part_len hq, pOut_len hq xs ys k]; omega
theorem rOut_len {q : Int} (hq : okm q = true) (xs ys : List Int) : ∀ k, k ≤ xs.length → (rOut xs ys q k).length = k
  | 0, _ => rfl
  | k + 1, h => by
    rw [rOut, sum_len hq, scale_len hq, (pAll_is hq _).1, rOut_len hq xs ys k (by omega), List.length_take]; omega
theorem pOut_red {q : Int} (hq : okm q = true) (xs ys : List Int) : ∀ k, (pOut xs ys q k).map (· % q) = pOut xs ys q k
  | 0 => by simp [pOut]
  | k + 1 => by rw [pOut, sum_red hq]
theorem rOut_red {q : Int} (hq : okm q = true) (xs ys : List Int) : ∀ k, (rOut xs ys q k).map (· % q) = rOut xs ys q k
  | 0 => rfl
  | k + 1 => by rw [rOut, sum_red hq]
theorem pOut_ev {q : Int} (hq : okm q = true) {xs : List Int} (ys : List Int) (ha : Apart xs q) : ∀ k, k ≤ xs.length → ∀ j x, xs[j]? = some x → ev (pOut xs ys q k) x % q = (if j < k then ys.getD j 0 else 0) % q
  | 0, _, j, x, _ => by
    have e0 : ∀ m, ev (List.replicate m 0) x = 0 := by
      intro m
      induction m with
      | zero => rfl
      | succ m ih => rw [List.replicate_succ, ev_cons, ih]; simp
    rw [pOut, e0, if_neg (by omega)]
  | k + 1, hk, j, x, hx => by
    obtain ⟨z, hz⟩ : ∃ z, xs[k]? = some z := ⟨_, List.getElem?_eq_getElem (by omega)⟩
    have hgz : xs.getD k 0 = z := by rw [List.getD_eq_getElem?_getD, hz]; rfl
    have ih := pOut_ev hq ys ha k (by omega) j x hx
    obtain ⟨h1, h2⟩ := part_ev hq hz ha
    rw [pOut, hgz, sum_ev hq, emod_add_congr ih (scale_ev hq _ _ _)]
    by_cases hjk : j = k
    · subst hjk
      rw [hx] at hz
      obtain rfl := Option.some.inj hz
      rw [if_neg (by omega), if_pos (by omega), Int.zero_add]
      have hu := apart_iff.1 ha j x hx
      have hu2 : Un (mProd (but xs j) x q) q := hu.congr (by rw [mProd_emod hq, Int.emod_emod])
      have h3 := iVal_mul hq hu2
      rw [mProd_emod hq, mr_mul] at h3
      rw [mProd_emod hq] at *
      rw [emod_mul_congr (mMul_mod hq _ _) h1]
      have e : iVal (pd (but xs j) x % q) q * ys.getD j 0 * pd (but xs j) x = iVal (pd (but xs j) x % q) q * pd (but xs j) x * ys.getD j 0 := by grind
      rw [e, emod_mul_congr h3 rfl, Int.one_mul]
    · have h4 := h2 j x hx hjk
      rw [emod_add_congr rfl (emod_mul_congr rfl (h4.trans (Int.zero_emod q).symm)), Int.mul_zero, Int.add_zero]
      by_cases hjl : j < k
      · rw [if_pos hjl, if_pos (by omega)]
      · rw [if_neg hjl, if_neg (by omega)]
theorem rOut_ev {q : Int} (hq : okm q = true) {xs : List Int} (ys : List Int) (ha : Apart xs q) : ∀ k, k ≤ xs.length → ∀ j x, xs[j]? = some x → j < k → ev (rOut xs ys q k) x % q = ys.getD j 0 % q
  | 0, _, j, x, _, h => by omega
  | k + 1, hk, j, x, hx, hj => by
    obtain ⟨z, hz⟩ : ∃ z, xs[k]? = some z := ⟨_, List.getElem?_eq_getElem (by omega)⟩
    have hgz : xs.getD k 0 = z := by rw [List.getD_eq_getElem?_getD, hz]; rfl
    rw [rOut, hgz, sum_ev hq, emod_add_congr rfl (scale_ev hq _ _ _)]
    have h5 := pAll_ev hq (xs.take k) x
    by_cases hjk : j = k
    · subst hjk
      rw [hx] at hz
      obtain rfl := Option.some.inj hz
      have hu : Un (pd (xs.take j) x) q := by
        have := apart_iff.1 ha j x hx
        rw [but, pd_append] at this
        exact this.left
      have hu2 : Un (mEval (pAll (xs.take j) q) x q) q := hu.congr (by rw [mEval_ok hq, Int.emod_emod, h5])
      have h3 := iVal_mul hq hu2
      rw [mEval_ok hq (l := pAll (xs.take j) q), mr_mul] at h3
      rw [mEval_ok hq (l := pAll (xs.take j) q)]
      generalize iVal (ev (pAll (xs.take j) q) x % q) q = v at *
      generalize ev (pAll (xs.take j) q) x = e at *
      rw [mMul_ok hq, mSub_ok hq, mEval_ok hq]
      generalize ev (rOut xs ys q j) x = o at *
      generalize ys.getD j 0 = y at *
      have e1 : ((y - o % q) % q * v % q * e) % q = ((y - o) * (v * e)) % q := by
        simp only [ml_mul]
        rw [emod_mul_congr (emod_mul_congr (mr_sub y o q) rfl) rfl, Int.mul_assoc]
      rw [emod_add_congr rfl e1, emod_add_congr rfl (emod_mul_congr rfl h3)]
      congr 1
      grind
    · have hjl : j < k := by omega
      have h6 : pd (xs.take k) x = 0 := pd_mem (by
        obtain ⟨hjx, rfl⟩ := List.getElem?_eq_some_iff.1 hx
        exact List.mem_iff_getElem.2 ⟨j, by rw [List.length_take]; omega, List.getElem_take⟩)
      rw [h6, Int.zero_emod] at h5
      rw [emod_add_congr rfl (emod_mul_congr rfl (h5.trans (Int.zero_emod q).symm)), Int.mul_zero, Int.add_zero]
      exact rOut_ev hq ys ha k (by omega) j x hx hjl
/-- **BOTH WAYS COME TO THE SAME.** -/
theorem through_same {q : Int} (hq : okm q = true) {xs : List Int} (ys : List Int) (ha : Apart xs q) : pOut xs ys q xs.length = rOut xs ys q xs.length := by
  rw [← pOut_red hq, ← rOut_red hq]
  refine only_one ha (pOut_len hq xs ys _) (rOut_len hq xs ys _ (Nat.le_refl _)) fun x hx => ?_
  obtain ⟨j, hj⟩ := List.getElem?_of_mem hx
  have hjl := (List.getElem?_eq_some_iff.1 hj).1
  rw [pOut_ev hq ys ha _ (Nat.le_refl _) j x hj, if_pos hjl, rOut_ev hq ys ha _ (Nat.le_refl _) j x hj hjl]
end Go.Proofs.YtlbhmoiicbhgkaaDoor
end

section
namespace Go.Rgb
open Go.RowKit
section
variable {P : Program} {l m : Nat} {ops : Array Oper} {Q : Exit → Act → World → Prop}
theorem calls_in_round {f : FuncId} {args : Array Value} {w : World} {R : Ending → World → Prop} (h : Calls P f args w R) : CallsIn (Fence.wide.inRound l) m P f args w R := CallsIn.inRound l (callsIn_wide.2 h)
theorem oper_in_round {o : Oper} {a : Act} {w : World} {K : Act → World → Prop} (hd : ∀ c, o.op ≠ .defer c) (h : o.wp P a w K Q) : o.wpIn (Fence.wide.inRound l) m P a w K Q := by
  refine ⟨fun _ _ => trivial, ?_⟩
  unfold Oper.wp at h
  rw [show (Fence.wide.inRound l).round = some l from rfl, Oper.semAt_some l a.eval o hd]
  generalize (execOp a.eval o).run P w = r at h ⊢
  cases r with
  | halt x w' => cases x <;> first | exact h | exact h.elim
  | ok n w' =>
    cases n
    case value v => exact h
    case skip => exact h
    case defer d => exact h
    case row row args =>
      refine ⟨(fun hh => by cases hh), fun c cs _ => ?_⟩
      obtain ⟨v, w'', hR, hs⟩ := h c cs
      exact ⟨v, w'', hR, stepsIn_wide.2 hs⟩
    case enter fn args => exact ⟨(fun hh => by cases hh), calls_in_round h⟩
    all_goals exact h.elim
/-- no deferred call among them. -/
def calm (l : List Oper) : Bool := l.all fun o => match o.op with | .defer _ => false | _ => true
theorem calm_spec {l : List Oper} (h : calm l = true) {o : Oper} (ho : o ∈ l) : ∀ c, o.op ≠ .defer c := by
  intro c hc
  have := List.all_eq_true.1 h o ho
  rw [hc] at this
  cases this
theorem any_in_round (hQ : ¬ LetsOut Q) {md : Region.Mode} (hc : calm ops.toList = true) : ∀ (fuel : Nat) (listed : Array Bool) (a : Act) (w : World), wpAny P md ops Q fuel listed a w → wpAnyIn (Fence.wide.inRound l) m P md ops Q fuel listed a w
  | 0, _, _, _, h => h
  | fuel + 1, listed, a, w, h => by
    refine ⟨h.1, fun i hi => ?_⟩
    have h1 := h.2 i hi
    unfold wpOp at h1
    unfold wpOpIn
    cases ho : ops[i]? with
    | none =>
      rw [ho] at h1
      exact any_in_round hQ hc fuel _ a w h1
    | some o =>
      rw [ho] at h1
      simp only at h1 ⊢
      have hd := calm_spec hc (Array.mem_toList_iff.2 (Array.mem_of_getElem? ho))
      by_cases hw : Region.wanted o (yielded ops a.tmps) = true
      · rw [if_pos hw] at h1 ⊢
        rcases h1 with h1 | ⟨_, h1⟩
        · exact Oper.wpIn_mono (fun a w h => any_in_round hQ hc fuel _ a w h) (oper_in_round hd h1)
        · exact absurd h1 hQ
      · rw [if_neg hw] at h1 ⊢
        exact ⟨fun _ _ => trivial, any_in_round hQ hc fuel _ _ w h1⟩
/-- **THE LAW OF DRAWN REGIONS**, in a round. -/
theorem round_region {id : Nat} {Q' : Exit → Act → World → Prop} (hQ : ¬ LetsOut Q') {L tail : List Oper} {a : Act} {w : World} (Y : Way) (ds : List (Option Tmp)) (size : Nat) (hm : P.follows .mixedOrders = true) (hcalm : calm (L ++ tail) = true) (hs : sane (L ++ tail).toArray ds size L.length = true) (hc : closes (L ++ tail).toArray L.length = true) (hz : a.tmps.size = size)
    (HY : Y.Fair) (hB : Y.B w.drew) (hB1 : Y.B1 w.drew) (h : walk P Y ds a (fun a w => wpList P #[] Q' (tail.map fun o => { o with guard := none }) a w) L []) : (Code.region id (L ++ tail).toArray true).wpIn (Fence.wide.inRound l) m P Q' a w :=
  wpIn_region_any hm (any_in_round hQ hcalm _ _ _ _ (any_region Y ds size hs hc hz HY hB hB1 h))
end
end Go.Rgb
end
