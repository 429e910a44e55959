/-
  The walks of lists of lists: compared, a column, a value.
-/
import Derived.Test.YtnmadmcegdpecaaOwn
import Derived.StillTailTactics
namespace Go.Proofs.Ytnmadmcegdpecaa
open Go.RowKit

/-- all numbers of lists are uint64s. -/
def U64s (l : List Int) : Prop := ∀ z ∈ l, U64 z
def Words (f : List (List Int)) : Prop := ∀ l ∈ f, U64s l
theorem Words.at_ {f : List (List Int)} (h : Words f) {k : Nat} {l : List Int} (hk : f[k]? = some l) : U64s l := h l (List.mem_of_getElem? hk)
theorem U64s.at_ {l : List Int} (h : U64s l) {k : Nat} {z : Int} (hk : l[k]? = some z) : U64 z := h z (List.mem_of_getElem? hk)

/-- the column at y. -/
def mCol (f : List (List Int)) (y q : Int) : List Int := f.map fun l => mEval l y q
theorem mCol_u64 (f : List (List Int)) (y q : Int) : U64s (mCol f y q) := by
  intro z hz
  obtain ⟨l, _, rfl⟩ := List.mem_map.1 hz
  exact mEval_u64 _ _ _

/-- of a row the first k are known; behind them are 0s. -/
def filled (xs : List Int) (n k : Nat) : List Value := (xs.take k).map (.int .u64) ++ List.replicate (n - k) (.int .u64 0)
theorem filled_zero (xs : List Int) (n : Nat) : filled xs n 0 = List.replicate n (.int .u64 0) := by simp [filled]
theorem filled_len (xs : List Int) (n k : Nat) (h : k ≤ n) (hx : xs.length = n) : (filled xs n k).length = n := by
  simp [filled]; omega
theorem filled_at (xs : List Int) (n k : Nat) (h : k < n) (hx : xs.length = n) : (filled xs n k)[k]? = some (.int .u64 0) := by
  unfold filled
  rw [List.getElem?_append_right (by simp; omega)]
  simp only [List.length_map, List.length_take]
  rw [List.getElem?_replicate, if_pos (by omega)]
theorem filled_set (xs : List Int) (n k : Nat) (x : Int) (h : k < n) (hx : xs.length = n) (hk : xs[k]? = some x) : (filled xs n k).set k (.int .u64 x) = filled xs n (k + 1) := by
  apply List.ext_getElem?
  intro i
  unfold filled
  rcases Nat.lt_trichotomy i k with hi | hi | hi
  · rw [List.getElem?_set_ne (by omega), List.getElem?_append_left (by simp; omega), List.getElem?_append_left (by simp; omega)]
    simp only [List.getElem?_map, List.getElem?_take]
    rw [if_pos hi, if_pos (by omega)]
  · subst hi
    rw [List.getElem?_set_self (by simp; omega), List.getElem?_append_left (by simp; omega)]
    simp [List.getElem?_take, hk]
  · rw [List.getElem?_set_ne (by omega), List.getElem?_append_right (by simp; omega), List.getElem?_append_right (by simp; omega)]
    simp only [List.length_map, List.length_take, List.getElem?_replicate]
    have e1 : min k xs.length = k := by omega
    have e2 : min (k + 1) xs.length = k + 1 := by omega
    rw [e1, e2]
    by_cases hin : i < n
    · rw [if_pos (by omega), if_pos (by omega)]
    · rw [if_neg (by omega), if_neg (by omega)]
theorem filled_all (xs : List Int) (n : Nat) (hx : xs.length = n) : filled xs n n = xs.map (.int .u64) := by
  unfold filled; rw [← hx]; simp

/-- the result of a call: a new list of uint64s. -/
def NewNums (xs : List Int) (w : World) (e : Ending) (w' : World) : Prop := ∃ v, e = .returned v ∧ Own w' w.heap.size 23 v (xs.map (.int .u64)) ∧ Below w.heap.size w w'

set_option maxHeartbeats 400000 in
theorem col_c (A : Option Addr) (f : List (List Int)) (c : Nat) (y q : Int) (w : World) (hA : Grid w A f) (hl : f.length ≤ 17592186044416) (hu : Words f) (hy : U64 y) (hq : U64 q) :
    Calls Try.prog 20 #[.slice A f.length c, .int .u64 y, .int .u64 q] w (NewNums (mCol f y q) w) := by
  have hlen : (mCol f y q).length = f.length := by simp [mCol]
  go_enter Try.func20, Try.ntmps20
  go_wp2_with (at_make; refine wpList_make_row elt_u64 _ rfl _ _ rfl .i64 .i64 _ _ f.length rfl rfl rfl rfl (by omega) (by omega) ?_; intro w1 hr1 hs1 hb1)
  go_loopw [8, 9, 15] (fun _ _ i wr => ∃ k : Nat, i = .int .i64 k ∧ k ≤ f.length ∧ Row1 wr w.heap.size 23 (filled (mCol f y q) f.length k) ∧ Below w.heap.size w wr) (fun _ _ i _ => f.length - (intOf i).toNat)
  case atStart => exact ⟨0, rfl, by omega, by rw [filled_zero]; exact hr1, hb1⟩
  case round =>
    obtain ⟨k, rfl, hk, hr, hb⟩ := hrel
    by_cases hlt : k < f.length
    · obtain ⟨l, hx⟩ := get_of_lt hlt
      obtain ⟨b, off, A', c', rfl, hc, hcs, hln⟩ := (hA.below hb).at_ hx
      have hz : (mCol f y q)[k]? = some (mEval l y q) := by simp [mCol, hx]
      have hul := hu.at_ hx
      go_wp2_with (go_at_call 59; refine (eval_c _ _ _ _ _ _ hcs hln hul hy hq).mono ?_; rintro e w2 ⟨rfl, hw2⟩; have hc2 := (hr.dr hw2).cell (filled_at _ _ _ hlt hlen); have hf2 := (hr.dr hw2).frozen k)
      go_roundw
      case rel => exact ⟨k + 1, by go_num, by omega, by rw [← filled_set _ _ _ _ hlt hlen hz]; exact (hr.dr hw2).set k _, (below_dr hb hw2).setCell (by simp) _⟩
      case measure => simp [intOf]; omega
    · obtain rfl : k = f.length := by omega
      go_wp2
      go_ret
      refine ⟨_, rfl, ?_, hb⟩
      rw [filled_all _ _ hlen] at hr
      have := hr.own (Nat.le_refl _) (by simp [hlen]; omega)
      simpa [hlen] using this

/-- the value at two places. -/
def mAt (f : List (List Int)) (x y q : Int) : Int := mEval (mCol f y q) x q

set_option maxHeartbeats 400000 in
theorem at_c (A : Option Addr) (f : List (List Int)) (c : Nat) (x y q : Int) (w : World) (hA : Grid w A f) (hl : f.length ≤ 17592186044416) (hu : Words f) (hx : U64 x) (hy : U64 y) (hq : U64 q) :
    Calls Try.prog 21 #[.slice A f.length c, .int .u64 x, .int .u64 y, .int .u64 q] w fun e w' => e = .returned (.int .u64 (mAt f x y q)) ∧ Below w.heap.size w w' := by
  have hlen : (mCol f y q).length ≤ 9223372036854775807 := by simp [mCol]; omega
  go_enter Try.func21, Try.ntmps21
  go_wp2_with (fail)
  refine (col_c _ _ _ _ _ _ hA hl hu hy hq).mono ?_
  rintro e w1 ⟨v, rfl, hown, hb⟩
  obtain ⟨A', c', rfl, hcs⟩ := hown.form
  have hcs' := hcs
  rw [List.length_map]
  go_wp2_with (fail)
  refine (eval_c _ _ _ _ _ _ hcs' hlen (mCol_u64 f y q) hx hq).mono ?_
  rintro e w2 ⟨rfl, hw2⟩
  go_wp2
  go_ret
  exact ⟨rfl, below_dr hb hw2⟩

set_option maxHeartbeats 400000 in
theorem polys_c (A B : Option Addr) (f g : List (List Int)) (c d : Nat) (w : World) (hA : Grid w A f) (hB : Grid w B g) (hl : f.length ≤ 9223372036854775807) (hl' : g.length ≤ 9223372036854775807) :
    Calls Try.prog 26 #[.slice A f.length c, .slice B g.length d] w fun e w' => e = .returned (.bool (decide (f = g))) ∧ Dr w w' := by
  by_cases hlen : f.length = g.length
  · have hb : (((f.length : Nat) : Int) != ((g.length : Nat) : Int)) = false := by simp [hlen]
    have HL := hid hlen
    clear hlen
    go_enter Try.func26, Try.ntmps26
    go_wp2
    go_loopw [5] (fun i wr => ∃ k : Nat, i = .int .i64 k ∧ k ≤ f.length ∧ (∀ i, i < k → f[i]? = g[i]?) ∧ Dr w wr) (fun i _ => f.length - (intOf i).toNat)
    case atStart => exact ⟨0, rfl, by omega, fun i hi => absurd hi (by omega), Dr.refl w⟩
    case round =>
      obtain ⟨k, rfl, hk, hsame, hw⟩ := hrel
      have HSM := hid hsame
      clear hsame
      by_cases hlt : k < f.length
      · have hlt' : k < g.length := by have := HL.out; omega
        obtain ⟨l, hx⟩ := get_of_lt hlt
        obtain ⟨m, hy⟩ := get_of_lt hlt'
        obtain ⟨b, off, A', c', rfl, hc, hcs, hln⟩ := (hA.dr hw).at_ hx
        obtain ⟨b', off', B', d', rfl, hc', hcs', hln'⟩ := (hB.dr hw).at_ hy
        by_cases hxy : l = m
        · have hd : decide (l = m) = true := by simpa using hxy
          have hs : ∀ i, i < k + 1 → f[i]? = g[i]? := by
            intro i hi
            rcases Nat.lt_or_ge i k with h' | h'
            · exact HSM.out i h'
            · obtain rfl : i = k := by omega
              rw [hx, hy, hxy]
          have HS := hid hs
          clear hs hxy
          go_wp2
          go_quiet ((go_at_call 23; exact quiet_dr (nums_c _ _ _ _ _ _ _ (hcs.drewN _) (hcs'.drewN _) hln hln')))
          go_wp2
          go_roundw
          case rel => exact ⟨k + 1, by go_num, by omega, HS.out, hw.more _⟩
          case measure => simp [intOf]; omega
        · have hd : decide (l = m) = false := by simpa using hxy
          have hfin : decide (f = g) = false := by
            simp only [decide_eq_false_iff_not]
            rintro rfl
            rw [hx] at hy
            exact hxy (Option.some.inj hy)
          have HF := hid hfin
          clear hfin hxy
          go_wp2
          go_quiet ((go_at_call 23; exact quiet_dr (nums_c _ _ _ _ _ _ _ (hcs.drewN _) (hcs'.drewN _) hln hln')))
          go_wp2
          go_ret
          exact ⟨ret_bool HF.out.symm, hw.more _⟩
      · have hfin : decide (f = g) = true := by
          obtain rfl : k = f.length := by omega
          simp only [decide_eq_true_eq]
          apply List.ext_getElem?
          intro i
          rcases Nat.lt_or_ge i f.length with h' | h'
          · exact HSM.out i h'
          · rw [List.getElem?_eq_none h', List.getElem?_eq_none (by have := HL.out; omega)]
        have HF := hid hfin
        clear hfin
        go_wp2
        go_ret
        exact ⟨ret_bool HF.out.symm, hw⟩
  · have hb : (((f.length : Nat) : Int) != ((g.length : Nat) : Int)) = true := by simp; omega
    have hfin : decide (f = g) = false := by
      simp only [decide_eq_false_iff_not]
      rintro rfl
      exact hlen rfl
    have HF := hid hfin
    clear hfin hlen
    go_enter Try.func26, Try.ntmps26
    go_wp2
    go_ret
    exact ⟨ret_bool HF.out.symm, Dr.refl w⟩

end Go.Proofs.Ytnmadmcegdpecaa
