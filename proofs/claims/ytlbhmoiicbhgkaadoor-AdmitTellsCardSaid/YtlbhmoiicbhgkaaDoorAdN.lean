/-
  The document's layer 7, and equal rows, for the admit family: parts of Num, Cmp, FixM, FixR, FixT, FixW.
-/
import Derived.Test.YtlbhmoiicbhgkaaDoorAdmQ1
import Derived.Test.YtlbhmoiicbhgkaaDoorAdmQ2
import Derived.Test.YtlbhmoiicbhgkaaDoorAdmQ3
import Derived.Test.YtlbhmoiicbhgkaaDoorAdmQ4
import Derived.Test.YtlbhmoiicbhgkaaDoorAdmQ5
import Derived.Test.YtlbhmoiicbhgkaaDoorAdmQ6
import Derived.Test.YtlbhmoiicbhgkaaDoorAdmQ7
import Derived.Test.YtlbhmoiicbhgkaaDoorAdmQ8
import Derived.Test.YtlbhmoiicbhgkaaDoorRows
import Derived.Test.YtlbhmoiicbhgkaaDoorAdM
import Derived.WalkKit
import Derived.WalkSpells
import Derived.WalkLawsBesides
import Derived.Deep.QuietTactic
import Derived.BigQuiet
import Derived.Shelf.Small.Bits
import Derived.Shelf.Strconv.Itoa0
import Derived.Shelf.Bits.Mul64
import Derived.Test.YtlbhmoiicbhgkaaDoorProg
import Derived.Lib.BitFns
import Derived.Lib.ItoaNum
import Derived.Laws.BitsAllLaws
import Derived.OwnWalk
import Derived.Maps.AppendAt
import Derived.StillTailTactics
import Derived.Orders
import Derived.NoCompiler
import Derived.Deep.RegionWith
import Derived.Laws.CopyOwn
import Derived.Laws.AppendOwnNone
import Derived.Lib.SliceRun
section
namespace Go.Proofs.YtlbhmoiicbhgkaaDoor
open Go.RowKit
theorem num_tmod (n q : Int) (h : 0 < q) : (0 ≤ n ∧ n.tmod q = n % q) ∨ (n % q = 0 ∧ n.tmod q = 0) ∨ (n % q ≠ 0 ∧ n < 0 ∧ n.tmod q = n % q - q) := by
  rcases Int.lt_or_le n 0 with h0 | h0
  · right
    by_cases hz : n % q = 0
    · left
      have hd := Int.dvd_of_emod_eq_zero hz
      rw [Int.tmod_eq_emod, if_pos (.inr hd), hz]
      exact ⟨rfl, by simp⟩
    · right
      refine ⟨hz, h0, ?_⟩
      rw [Int.tmod_eq_emod, if_neg]
      · omega
      · rintro (hc | hc)
        · omega
        · exact hz (Int.emod_eq_zero_of_dvd hc)
  · exact .inl ⟨h0, Int.tmod_eq_emod_of_nonneg h0⟩
set_option maxHeartbeats 400000 in
theorem rnum_c (n q : Int) (hn : I64 n) (hq : U64 q) (w : World) :
    Calls Tryd.prog 101 #[.int .i64 n, .int .u64 q] w fun e w' => e = .returned (.int .u64 (mNum n q)) ∧ w = w' := by
  obtain ⟨n1, n2⟩ := hn
  obtain ⟨q1, q2⟩ := hq
  by_cases hm : okm q = true
  · have h0 := okm_pos hm
    have h1 := okm_le hm
    have x1 := Int.emod_nonneg n (b := q) (by omega)
    have x2 := Int.emod_lt_of_pos n h0
    have hd : (q == 0) = false := by simp; omega
    have hconv : IntKind.i64.wrap q = q := by rw [IntKind.wrap_i64]; omega
    obtain ⟨r, hr⟩ : ∃ r, n.tmod q = r := ⟨_, rfl⟩
    have hr' := hr
    have hways := num_tmod n q h0
    rw [hr] at hways
    clear hr'
    have hr1 : r < q ∧ -q < r := by omega
    obtain ⟨hr1, hr2⟩ := hr1
    have hf := mNum_ok (n := n) hm
    have hwr : IntKind.i64.wrap r = r := by rw [IntKind.wrap_i64]; omega
    by_cases hneg : r < 0
    · have hfin : mNum n q = r + q := by rw [hf]; omega
      have HF := hid hfin
      clear hfin hf hways
      go_enter Tryd.func101, Tryd.ntmps101
      go_wp2
      go_ret
      exact ⟨ret_int HF.out.symm, rfl⟩
    · have hfin : mNum n q = r := by rw [hf]; omega
      have HF := hid hfin
      clear hfin hf hways
      go_enter Tryd.func101, Tryd.ntmps101
      go_wp2
      go_ret
      exact ⟨ret_int HF.out.symm, rfl⟩
  · have hz := mNum_no (n := n) (q := q) (by simpa using hm)
    rcases okm_ways hm q1 with rfl | ⟨h1, h2⟩
    · go_enter Tryd.func101, Tryd.ntmps101
      go_wp2
      go_ret
      exact ⟨ret_int hz.symm, rfl⟩
    · go_enter Tryd.func101, Tryd.ntmps101
      go_wp2
      go_ret
      exact ⟨ret_int hz.symm, rfl⟩
set_option maxHeartbeats 400000 in
theorem within_c (n most : Int) (hn : I64 n) (h0 : 0 ≤ most) (h1 : most < 9223372036854775808) (w : World) :
    Calls Tryd.prog 57 #[.int .i64 n, .int .i64 most] w fun e w' => e = .returned (.bool (near n most)) ∧ w = w' := by
  obtain ⟨n1, n2⟩ := hn
  by_cases h : -most ≤ n
  · go_enter Tryd.func57, Tryd.ntmps57
    go_wp2
    go_ret
    exact ⟨ret_bool (by simp [near, h]), rfl⟩
  · have hd : decide (-most ≤ n) = false := by simpa using h
    go_enter Tryd.func57, Tryd.ntmps57
    go_wp2
    go_ret
    exact ⟨ret_bool (by simp [near, hd]), rfl⟩
end Go.Proofs.YtlbhmoiicbhgkaaDoor
end

section
namespace Go.Proofs.YtlbhmoiicbhgkaaDoor
open Go.RowKit
set_option maxHeartbeats 400000 in
theorem ints_c (A B : Option Addr) (la lb : List Int) (ca cb : Nat) (w : World) (hA : Cells w A (la.map (.int .i64))) (hB : Cells w B (lb.map (.int .i64))) (hl : la.length ≤ 9223372036854775807) (hl' : lb.length ≤ 9223372036854775807) :
    Calls Tryd.prog 39 #[.slice A la.length ca, .slice B lb.length cb] w fun e w' => e = .returned (.bool (decide (la = lb))) ∧ Dr w w' := by
  by_cases hlen : la.length = lb.length
  · have hb : (((la.length : Nat) : Int) != ((lb.length : Nat) : Int)) = false := by simp [hlen]
    have HL := hid hlen
    clear hlen
    go_enter Tryd.func39, Tryd.ntmps39
    go_wp2
    go_loopw [5] (fun i wr => ∃ k : Nat, i = .int .i64 k ∧ k ≤ la.length ∧ SameUpto la lb k ∧ Dr w wr) (fun i _ => la.length - (intOf i).toNat)
    case atStart => exact ⟨0, rfl, by omega, fun i hi => absurd hi (by omega), Dr.refl w⟩
    case round =>
      obtain ⟨k, rfl, hk, hsame, hw⟩ := hrel
      by_cases hlt : k < la.length
      · obtain ⟨x, hx⟩ := get_of_lt hlt
        obtain ⟨y, hy⟩ := get_of_lt (l := lb) (show k < lb.length by have := HL.out; omega)
        obtain ⟨b, off, rfl, hc⟩ := (hA.dr hw).at_map hx
        obtain ⟨b', off', rfl, hc'⟩ := (hB.dr hw).at_map hy
        have hlt' : k < lb.length := by have := HL.out; omega
        by_cases hxy : x = y
        · subst hxy
          have hn : (x != x) = false := by simp
          have hs := hsame.step hx hy
          go_wp2
          go_quiet (fail)
          go_wp2
          go_roundw
          case rel => exact ⟨k + 1, by go_num, by omega, hs, hw.more _⟩
          case measure => simp [intOf]; omega
        · have hn : (x != y) = true := by simpa using hxy
          have hfin : decide (la = lb) = false := by
            simp only [decide_eq_false_iff_not]
            rintro rfl
            rw [hx] at hy
            exact hxy (Option.some.inj hy)
          have HF := hid hfin
          clear hfin hxy
          go_wp2
          go_quiet (fail)
          go_wp2
          go_ret
          exact ⟨ret_bool HF.out.symm, hw.more _⟩
      · have hfin : decide (la = lb) = true := by
          obtain rfl : k = la.length := by omega
          simp only [decide_eq_true_eq]
          exact hsame.all HL.out
        have HF := hid hfin
        clear hfin
        go_wp2
        go_ret
        exact ⟨ret_bool HF.out.symm, hw⟩
  · have hb : (((la.length : Nat) : Int) != ((lb.length : Nat) : Int)) = true := by simp; omega
    have hfin : decide (la = lb) = false := by
      simp only [decide_eq_false_iff_not]
      rintro rfl
      exact hlen rfl
    have HF := hid hfin
    clear hfin hlen
    go_enter Tryd.func39, Tryd.ntmps39
    go_wp2
    go_ret
    exact ⟨ret_bool HF.out.symm, Dr.refl w⟩
end Go.Proofs.YtlbhmoiicbhgkaaDoor
end

section
namespace Go.Proofs.YtlbhmoiicbhgkaaDoor
open Go.RowKit
end Go.Proofs.YtlbhmoiicbhgkaaDoor
end

section
namespace Go.Proofs.YtlbhmoiicbhgkaaDoor
open Go.RowKit
theorem num_zero {q : Int} : mNum 0 q = 0 := by unfold mNum; split <;> simp
theorem nums_at' (q : Int) (l : List Int) {i : Nat} (hi : i < l.length) : (mNums q l)[i]? = some (mNum (l.getD i 0) q) := by
  simp [mNums, List.getD_eq_getElem?_getD, List.getElem?_eq_getElem hi]
end Go.Proofs.YtlbhmoiicbhgkaaDoor
end

section
namespace Go.Proofs.YtlbhmoiicbhgkaaDoor
open Go.RowKit
set_option maxRecDepth 100000 in
set_option maxHeartbeats 1000000 in
theorem rfit_c (p : Par) (w : World) : Calls Tryd.prog 56 #[pval p] w fun e w' => e = .returned (.bool (fits p)) ∧ Below w.heap.size w w' := by
  go_enter Tryd.func56, Tryd.ntmps56
  go_wp2
  all_goals
    go_ret
    refine ⟨ret_bool ?_, (Below.refl _ _).alloc (Nat.le_refl _) _⟩
    simp [fits, *]
    try omega
theorem within_b (n most : Int) (b : Bool) (hn : I64 n) (h0 : 0 ≤ most) (h1 : most < 9223372036854775808) (hb : near n most = b) (w : World) :
    Calls Tryd.prog 57 #[.int .i64 n, .int .i64 most] w fun e w' => e = .returned (.bool b) ∧ Dr w w' := by
  refine (within_c n most hn h0 h1 w).mono ?_
  rintro e w' ⟨rfl, rfl⟩
  exact ⟨by rw [hb], Dr.refl _⟩
set_option maxRecDepth 100000 in
set_option maxHeartbeats 1000000 in
theorem rquery_c (p : Par) (A : Option Addr) (x : List Int) (c : Nat) (w : World) (hA : Cells w A (x.map (.int .i64))) (hl : x.length ≤ 9223372036854775807) (hu : I64s x) :
    Calls Tryd.prog 20 #[pval p, .slice A x.length c] w fun e w' => e = .returned (.int .i64 (queryE p x)) ∧ Below w.heap.size w w' := by
  go_enter Tryd.func20, Tryd.ntmps20
  go_wp2_with (fail)
  refine (rfit_c p _).mono ?_
  rintro e w1 ⟨rfl, hb1⟩
  have hb2 := below_next (below_alloc w (.cells (pcells p).toArray 33)) (by simp) hb1
  have hP : Row1 w1 w.heap.size 33 (pcells p) := (row1_new w (pcells p) 33).below hb1
  have hA1 := hA.below hb2
  clear hb1 hA
  have cD := hP.cell (k := 8) rfl
  have cX := hP.cell (k := 11) rfl
  cases hf : fits p with
  | false =>
    have HF := hid (show queryE p x = 4 by simp [queryE, hf])
    clear hf
    go_wp2
    go_ret
    exact ⟨ret_int HF.out.symm, hb2⟩
  | true =>
  have hF := hid ((fits_iff p).1 hf)
  cases hD : ((x.length : Int) != p.D) with
  | true =>
    have HF := hid (show queryE p x = 4 by simp [queryE, hf, hD])
    clear hf
    go_wp2
    go_ret
    exact ⟨ret_int HF.out.symm, hb2⟩
  | false =>
  have HQ := hid (show queryE p x = if nears x p.X = true then 0 else 20 by simp [queryE, hf, hD])
  have m0 : 0 ≤ p.X := hF.out.X0
  have m1 : p.X < 9223372036854775808 := by have := hF.out.X; omega
  clear hf
  go_wp2
  go_loopw [5] (fun i wr => ∃ k : Nat, i = .int .i64 k ∧ k ≤ x.length ∧ nears (x.take k) p.X = true ∧ Dr w1 wr) (fun i _ => x.length - (intOf i).toNat)
  case atStart => exact ⟨0, rfl, by omega, by simp [nears], Dr.refl _⟩
  case round =>
    obtain ⟨k, rfl, hk, hall, hw⟩ := hrel
    rename_i wr
    have HA := hid hall
    clear hall
    have cX' := (hP.dr hw).cell (k := 11) rfl
    by_cases hlt : k < x.length
    · obtain ⟨n, hx⟩ := get_of_lt hlt
      obtain ⟨b, off, rfl, hc⟩ := (hA1.dr hw).at_map hx
      have hun := hu.at_ hx
      cases hn : near n p.X with
      | true =>
        have HT := hid (nears_take hx HA.out hn)
        go_wp2
        go_quiet ((go_at_call 57; exact quiet_dr (within_b n p.X _ hun m0 m1 hn _)))
        go_wp2
        go_roundw
        case rel => exact ⟨k + 1, by go_num, by omega, HT.out, hw.more _⟩
        case measure => simp [intOf]; omega
      | false =>
        have HF := hid (nears_false hx hn)
        go_wp2
        go_quiet ((go_at_call 57; exact quiet_dr (within_b n p.X _ hun m0 m1 hn _)))
        go_wp2
        go_ret
        exact ⟨ret_int (by rw [HQ.out, HF.out]; rfl), below_dr hb2 (hw.more _)⟩
    · obtain rfl : k = x.length := by omega
      go_wp2
      go_ret
      have := HA.out
      rw [List.take_length] at this
      exact ⟨ret_int (by rw [HQ.out, this]; rfl), below_dr hb2 hw⟩
end Go.Proofs.YtlbhmoiicbhgkaaDoor
end

section
namespace Go.Proofs.YtlbhmoiicbhgkaaDoor
open Go.RowKit
theorem padded_at (q : Int) (x : List Int) {d k : Nat} (h : k < d) : (padded (mNums q x) d)[k]? = some (mNum (x.getD k 0) q) := by
  unfold padded
  rcases Nat.lt_or_ge k x.length with h1 | h1
  · rw [List.getElem?_append_left (by simp [mNums]; omega), List.getElem?_take_of_lt h, nums_at' q x h1]
  · rw [List.getElem?_append_right (by simp [mNums]; omega), List.getElem?_replicate, if_pos (by simp [mNums]; omega), List.getD_eq_getElem?_getD, List.getElem?_eq_none h1]
    simp [num_zero]
set_option maxRecDepth 100000 in
set_option maxHeartbeats 2000000 in
theorem rrow_c (p : Par) (hp : p.ok) (A : Option Addr) (x : List Int) (c : Nat) (w : World) (hA : Cells w A (x.map (.int .i64))) (hl : x.length ≤ 9223372036854775807) (hu : I64s x) :
    Calls Tryd.prog 77 #[pval p, .slice A x.length c] w (NewNums (rowS p x) w) := by
  go_enter Tryd.func77, Tryd.ntmps77
  go_wp2_with (fail)
  refine (rfit_c p _).mono ?_
  rintro e w1 ⟨rfl, hb1⟩
  have hb2 := below_next (below_alloc w (.cells (pcells p).toArray 33)) (by simp) hb1
  have hP : Row1 w1 w.heap.size 33 (pcells p) := (row1_new w (pcells p) 33).below hb1
  have hA1 := hA.below hb2
  have hq := hp.Q
  clear hb1 hA
  cases hf : fits p with
  | false =>
    have HF := hid (show rowS p x = [] by simp [rowS, hf])
    clear hf
    go_wp2
    go_ret
    refine ⟨_, rfl, ?_, hb2⟩
    rw [HF.out]
    exact Own.nil _ _ _
  | true =>
  have hF := (fits_iff p).1 hf
  obtain ⟨d, hd⟩ : ∃ d : Nat, p.D = d := ⟨p.D.toNat, by have := hF.D0; omega⟩
  have hd4 : d ≤ 4 := by have := hF.D; omega
  have HR := hid (show rowS p x = padded (mNums p.Q x) d ++ [mNum 1 p.Q] by simp [rowS, hf, hd])
  have cD := hP.cell (k := 8) (u := .int .i64 (d : Int)) (by simp [pcells, hd])
  have cQ := hP.cell (k := 1) (u := .int .u64 p.Q) rfl
  clear hf hF hd
  go_wp2
  go_loopw [5, 6, 7] (fun o i _ wr => ∃ k : Nat, i = .int .i64 k ∧ k ≤ d ∧ Own wr w1.heap.size 24 o (((padded (mNums p.Q x) d).take k).map (.int .u64)) ∧ Below w1.heap.size w1 wr) (fun _ i _ _ => d - (intOf i).toNat)
  case atStart => exact ⟨0, rfl, by omega, by simpa using Own.nil w1 w1.heap.size 24, Below.refl _ _⟩
  case round =>
    obtain ⟨k, rfl, hk, hown, hb⟩ := hrel
    rename_i wr
    have cD1 := (hb.cell (lt_of_cell cD)).trans cD
    have cQ1 := (hb.cell (lt_of_cell cQ)).trans cQ
    by_cases hlt : k < d
    · have hz := padded_at p.Q x hlt
      have hs : ((padded (mNums p.Q x) d).take k).map (Value.int .u64) ++ [Value.int .u64 (mNum (x.getD k 0) p.Q)] = ((padded (mNums p.Q x) d).take (k + 1)).map (Value.int .u64) := by
        rw [take_snoc' hz]; simp
      have hlen : (((padded (mNums p.Q x) d).take k).map (Value.int .u64)).length = k := by simp [padded_len]; omega
      have HS := hid (⟨hs, hlen⟩ : _ ∧ _)
      clear hs hz hlen
      by_cases hx : k < x.length
      · obtain ⟨n, hn⟩ := get_of_lt hx
        obtain ⟨o1, f1, rfl, hc⟩ := (hA1.below hb).at_map hn
        have hgd : x.getD k 0 = n := by rw [List.getD_eq_getElem?_getD, hn]; rfl
        rw [hgd] at HS
        have hun := hu.at_ hn
        clear hgd hn
        go_wp2_with (first | (go_at_call 101; refine (rnum_c _ _ hun hq _).mono ?_; rintro e w2 ⟨rfl, rfl⟩) | (at_builtin; refine wpList_push elt_u64 wr rfl _ _ rfl w1.heap.size hown rfl (.int .u64 (mNum n p.Q)) rfl rfl (by rw [HS.out.2]; omega) (by rw [HS.out.2]; omega) hb.size ?_; intro v' w3 hown3 _ hb3))
        go_roundw
        case rel =>
          rw [HS.out.1] at hown3
          exact ⟨k + 1, by go_num, by omega, hown3, hb.trans hb3⟩
        case measure => simp [intOf]; omega
      · have hgd : x.getD k 0 = 0 := by rw [List.getD_eq_getElem?_getD, List.getElem?_eq_none (by omega)]; rfl
        rw [hgd] at HS
        clear hgd
        go_wp2_with (first | (go_at_call 101; refine (rnum_c _ _ ⟨by decide, by decide⟩ hq _).mono ?_; rintro e w2 ⟨rfl, rfl⟩) | (at_builtin; refine wpList_push elt_u64 wr rfl _ _ rfl w1.heap.size hown rfl (.int .u64 (mNum 0 p.Q)) rfl rfl (by rw [HS.out.2]; omega) (by rw [HS.out.2]; omega) hb.size ?_; intro v' w3 hown3 _ hb3))
        go_roundw
        case rel =>
          rw [HS.out.1] at hown3
          exact ⟨k + 1, by go_num, by omega, hown3, hb.trans hb3⟩
        case measure => simp [intOf]; omega
    · obtain rfl : k = d := by omega
      have hlen : (((padded (mNums p.Q x) k).take k).map (Value.int .u64)).length = k := by simp [padded_len]
      have HS := hid hlen
      clear hlen
      go_wp2_with (first | (go_at_call 101; refine (rnum_c _ _ ⟨by decide, by decide⟩ hq _).mono ?_; rintro e w2 ⟨rfl, rfl⟩) | (at_builtin; refine wpList_push elt_u64 wr rfl _ _ rfl w1.heap.size hown rfl (.int .u64 (mNum 1 p.Q)) rfl rfl (by rw [HS.out]; omega) (by rw [HS.out]; omega) hb.size ?_; intro v' w3 hown3 _ hb3))
      go_ret
      refine ⟨_, rfl, ?_, hb2.trans ((hb.trans hb3).mono hb2.size)⟩
      rw [HR.out, List.map_append, ← List.take_of_length_le (l := padded (mNums p.Q x) k) (i := k) (by rw [padded_len]; exact Nat.le_refl _)]
      exact hown3.from_ hb2.size
end Go.Proofs.YtlbhmoiicbhgkaaDoor
end

section
namespace Go.Proofs.YtlbhmoiicbhgkaaDoor
open Go.RowKit
/-- the first k rows are the same. -/
def SameRows (W V : List (List Int)) (k : Nat) : Prop := ∀ j, j < k → W[j]? = V[j]?
theorem SameRows.zero (W V : List (List Int)) : SameRows W V 0 := fun _ h => absurd h (by omega)
theorem SameRows.step {W V : List (List Int)} {k : Nat} {l m : List Int} (h : SameRows W V k) (h1 : W[k]? = some l) (h2 : V[k]? = some m) (he : l = m) : SameRows W V (k + 1) := by
  intro j hj
  rcases Nat.lt_or_ge j k with h3 | h3
  · exact h j h3
  · obtain rfl : j = k := by omega
    rw [h1, h2, he]
theorem SameRows.all {W V : List (List Int)} (h : SameRows W V W.length) (hl : W.length = V.length) : W = V := by
  apply List.ext_getElem?
  intro j
  rcases Nat.lt_or_ge j W.length with h1 | h1
  · exact h j h1
  · rw [List.getElem?_eq_none h1, List.getElem?_eq_none (by omega)]
set_option maxHeartbeats 400000 in
theorem eq_c (A B : Option Addr) (la lb : List Int) (ca cb : Nat) (w : World) (hA : Cells w A (la.map (.int .i64))) (hB : Cells w B (lb.map (.int .i64))) (hl : la.length ≤ 9223372036854775807) (hl' : lb.length ≤ 9223372036854775807) :
    Calls Tryd.prog 81 #[.slice A la.length ca, .slice B lb.length cb] w fun e w' => e = .returned (.bool (decide (la = lb))) ∧ Dr w w' := by
  by_cases hlen : la.length = lb.length
  · have hb : (((la.length : Nat) : Int) != ((lb.length : Nat) : Int)) = false := by simp [hlen]
    have HL := hid hlen
    clear hlen
    go_enter Tryd.func81, Tryd.ntmps81
    go_wp2
    go_loopw [5, 13] (fun _ i wr => ∃ k : Nat, i = .int .i64 k ∧ k ≤ la.length ∧ SameUpto la lb k ∧ Dr w wr) (fun _ i _ => la.length - (intOf i).toNat)
    case atStart => exact ⟨0, rfl, by omega, fun i hi => absurd hi (by omega), Dr.refl w⟩
    case round =>
      obtain ⟨k, rfl, hk, hsame, hw⟩ := hrel
      by_cases hlt : k < la.length
      · obtain ⟨x, hx⟩ := get_of_lt hlt
        obtain ⟨y, hy⟩ := get_of_lt (l := lb) (show k < lb.length by have := HL.out; omega)
        obtain ⟨b, off, rfl, hc⟩ := (hA.dr hw).at_map hx
        obtain ⟨b', off', rfl, hc'⟩ := (hB.dr hw).at_map hy
        have hlt' : k < lb.length := by have := HL.out; omega
        by_cases hxy : x = y
        · subst hxy
          have hn : (x != x) = false := by simp
          have hs := hsame.step hx hy
          go_wp2
          go_quiet (fail)
          go_wp2
          go_roundw
          case rel => exact ⟨k + 1, by go_num, by omega, hs, hw.more _⟩
          case measure => simp [intOf]; omega
        · have hn : (x != y) = true := by simpa using hxy
          have hfin : decide (la = lb) = false := by
            simp only [decide_eq_false_iff_not]
            rintro rfl
            rw [hx] at hy
            exact hxy (Option.some.inj hy)
          have HF := hid hfin
          clear hfin hxy
          go_wp2
          go_quiet (fail)
          go_wp2
          go_ret
          exact ⟨ret_bool HF.out.symm, hw.more _⟩
      · have hfin : decide (la = lb) = true := by
          obtain rfl : k = la.length := by omega
          simp only [decide_eq_true_eq]
          exact hsame.all HL.out
        have HF := hid hfin
        clear hfin
        go_wp2
        go_ret
        exact ⟨ret_bool HF.out.symm, hw⟩
  · have hb : (((la.length : Nat) : Int) != ((lb.length : Nat) : Int)) = true := by simp; omega
    have hfin : decide (la = lb) = false := by
      simp only [decide_eq_false_iff_not]
      rintro rfl
      exact hlen rfl
    have HF := hid hfin
    clear hfin hlen
    go_enter Tryd.func81, Tryd.ntmps81
    go_wp2
    go_ret
    exact ⟨ret_bool HF.out.symm, Dr.refl w⟩
end Go.Proofs.YtlbhmoiicbhgkaaDoor
end
