/-
  The reference's products.
-/
import Derived.Test.YtnmadmcegdpecaaFixT
namespace Go.Proofs.Ytnmadmcegdpecaa
open Go.RowKit

set_option maxRecDepth 100000 in
set_option maxHeartbeats 2000000 in
theorem rdot_c (p : Par) (hp : p.ok) (A B : Option Addr) (l x : List Int) (c d : Nat) (w : World) (hA : Cells w A (l.map (.int .u64))) (hB : Cells w B (x.map (.int .i64))) (hl : l.length ≤ 9223372036854775807) (hl' : x.length ≤ 9223372036854775807) (hu : U64s l) (hu' : I64s x) :
    Calls Try.prog 49 #[pval p, .slice A l.length c, .slice B x.length d] w (NewNums (dotS p l x) w) := by
  go_enter Try.func49, Try.ntmps49
  go_wp2_with (fail)
  have hb2 := below_alloc w (.cells (pcells p).toArray 40)
  have hP := row1_new w (pcells p) 40
  have hA1 := hA.below hb2
  have hB1 := hB.below hb2
  refine (rrow_c p hp _ _ _ _ hB1 hl' hu').mono ?_
  rintro e w1 ⟨v, rfl, hown, hb3⟩
  have hb4 := below_next hb2 hb2.size hb3
  have hP1 := hP.below hb3
  have hA2 := hA1.below hb3
  obtain ⟨R, c', rfl, hR⟩ := hown.form
  rw [List.length_map]
  clear hP hA1 hB1 hb3 hb2 hown hA hB
  have hq := hp.Q
  have hru := rowS_u64 p x
  cases hf : fits p with
  | false =>
    have HS := hid (show dotS p l x = [] by simp [dotS, hf])
    have hr0 : rowS p x = [] := by simp [rowS, hf]
    rw [hr0]
    clear hf hr0
    go_wp2
    go_loopw [7, 9] (fun o i wr => o = .slice none 0 0 ∧ Dr w1 wr) (fun _ _ _ => 0)
    case atStart => exact ⟨rfl, Dr.refl _⟩
    case round =>
      obtain ⟨rfl, hw⟩ := hrel
      go_wp2
      go_ret
      refine ⟨_, rfl, ?_, below_dr hb4 hw⟩
      rw [HS.out]
      exact Own.nil _ _ _
  | true =>
  have hF := (fits_iff p).1 hf
  obtain ⟨dd, hdd⟩ : ∃ d : Nat, p.D = d := ⟨p.D.toNat, by have := hF.D0; omega⟩
  obtain ⟨kk, hkk⟩ : ∃ k : Nat, p.K = k := ⟨p.K.toNat, by have := hF.K0; omega⟩
  have hdd4 : dd ≤ 4 := by have := hF.D; omega
  have hkk2 : kk ≤ 2 := by have := hF.K; omega
  have hrl : (rowS p x).length = dd + 1 := by simp [rowS, hf, hdd, padded_len]
  have HD := hid (show dotS p l x = (List.range kk).map fun k => dsum l (rowS p x) p.Q (k * (dd + 1)) (dd + 1) by simp [dotS, hf, hdd, hkk])
  have cK := hP1.cell (k := 7) (u := .int .i64 (kk : Int)) (by simp [pcells, hkk])
  have cD := hP1.cell (k := 8) (u := .int .i64 (dd : Int)) (by simp [pcells, hdd])
  have cQ := hP1.cell (k := 1) (u := .int .u64 p.Q) rfl
  rw [hrl]
  generalize rowS p x = row at *
  have HR := hid hrl
  clear hf hF hdd hkk hrl
  have hpos : decide (((dd + 1 : Nat) : Int) > 0) = true := by simp
  go_wp2
  go_loopw [7, 9, 10, 11, 12] (fun o i _ _ _ wr => ∃ k : Nat, i = .int .i64 k ∧ k ≤ kk ∧ Own wr w1.heap.size 23 o (((List.range k).map fun k => dsum l row p.Q (k * (dd + 1)) (dd + 1)).map (.int .u64)) ∧ Below w1.heap.size w1 wr) (fun _ i _ _ _ _ => kk - (intOf i).toNat)
  case atStart => exact ⟨0, rfl, by omega, by simpa using Own.nil w1 w1.heap.size 23, Below.refl _ _⟩
  case round =>
    obtain ⟨k, rfl, hk, hown, hb⟩ := hrel
    have cK1 := (hb.cell (lt_of_cell cK)).trans cK
    have cD1 := (hb.cell (lt_of_cell cD)).trans cD
    by_cases hlt : k < kk
    · have hlen : (((List.range k).map fun k => dsum l row p.Q (k * (dd + 1)) (dd + 1)).map (Value.int .u64)).length = k := by simp
      have hs : ((List.range k).map fun k => dsum l row p.Q (k * (dd + 1)) (dd + 1)).map (Value.int .u64) ++ [Value.int .u64 (dsum l row p.Q (k * (dd + 1)) (dd + 1))] = ((List.range (k + 1)).map fun k => dsum l row p.Q (k * (dd + 1)) (dd + 1)).map (Value.int .u64) := by
        rw [List.range_succ]; simp
      have hmul : (k : Int) * ((dd : Int) + 1) = ((k * (dd + 1) : Nat) : Int) := by simp
      have hat : k * (dd + 1) ≤ 10 := Nat.le_trans (Nat.mul_le_mul (show k ≤ 2 by omega) (show dd + 1 ≤ 5 by omega)) (by omega)
      generalize k * (dd + 1) = at_ at *
      generalize ((List.range k).map fun k => dsum l row p.Q (k * (dd + 1)) (dd + 1)).map (Value.int .u64) = pre at *
      have HS := hid (⟨hs, hlen, hmul⟩ : _ ∧ _ ∧ _)
      clear hs hlen hmul
      go_wp2
      generalize wr = wo at *
      clear cK1 cD1
      go_loopw [10, 11, 12] (fun s i _ w4 => ∃ i' : Nat, i = .int .i64 i' ∧ i' ≤ dd + 1 ∧ s = .int .u64 (dsum l row p.Q at_ i') ∧ Dr wo w4) (fun _ i _ _ => dd + 1 - (intOf i).toNat)
      case atStart => exact ⟨0, rfl, by omega, rfl, Dr.refl _⟩
      case round =>
        obtain ⟨i, rfl, hi, rfl, hw4⟩ := hrel
        rename_i w4
        have hb5 := below_dr hb hw4
        have cD4 := (hb5.cell (lt_of_cell cD)).trans cD
        have cQ4 := (hb5.cell (lt_of_cell cQ)).trans cQ
        have hSu : U64 (dsum l row p.Q at_ i) := dsum_u64 _ _ _ _ _
        by_cases hlt2 : i < dd + 1
        · have hle : (i : Int) ≤ (dd : Int) := by omega
          have hle2 : i ≤ dd := by omega
          have hltr : i < row.length := by rw [HR.out]; exact hlt2
          obtain ⟨r, hr⟩ := get_of_lt hltr
          obtain ⟨o1, f1, rfl, hc1⟩ := (hR.below hb5).at_map hr
          have hur := hru.at_ hr
          have hkd : (k : Int) * ((dd : Int) + 1) = (at_ : Int) := HS.out.2.2
          obtain ⟨j, hj⟩ : ∃ j, at_ + i = j := ⟨_, rfl⟩
          have hsum : (at_ : Int) + (i : Int) = (j : Int) := by omega
          have hj15 : j ≤ 15 := by omega
          by_cases hin : j < l.length
          · obtain ⟨a, ha⟩ := get_of_lt hin
            obtain ⟨o2, f2, rfl, hc2⟩ := (hA2.below hb5).at_map ha
            have hua := hu.at_ ha
            have HST := hid (dsum_in (q := p.Q) (at_ := at_) (k := i) (by rw [hj]; exact ha) hr)
            clear ha hr hle hj
            go_wp2
            go_quiet (first | (go_at_call 78; exact quiet_dr (rmul_c a r p.Q hua hur hq _)) | (go_at_call 80; exact quiet_dr (radd_c _ _ _ hSu (mMul_u64 _ _ _) hq _)))
            go_wp2
            go_roundw
            case rel => exact ⟨i + 1, by go_num, by omega, by rw [HST.out], hw4.more _⟩
            case measure => simp [intOf]; omega
          · have HST := hid (dsum_out (row := row) (q := p.Q) (k := i) (at_ := at_) (l := l) (by omega))
            clear hr hle hj
            go_wp2
            go_roundw
            case rel => exact ⟨i + 1, by go_num, by omega, by rw [HST.out], hw4⟩
            case measure => simp [intOf]; omega
        · obtain rfl : i = dd + 1 := by omega
          have hne : ¬ (dd + 1 ≤ dd) := by omega
          have hown4 := hown.dr hw4
          go_wp2_with (at_builtin; refine wpList_push elt_u64 wr rfl _ _ rfl w1.heap.size hown4 rfl (.int .u64 (dsum l row p.Q at_ (dd + 1))) rfl rfl (by rw [HS.out.2.1]; omega) (by rw [HS.out.2.1]; omega) hb5.size ?_; intro v' w3 hown3 _ hb3)
          go_roundw
          case rel =>
            rw [HS.out.1] at hown3
            exact ⟨k + 1, by go_num, by omega, hown3, hb5.trans hb3⟩
          case measure => simp [intOf]; omega
    · obtain rfl : k = kk := by omega
      go_wp2
      go_ret
      refine ⟨_, rfl, ?_, hb4.trans (hb.mono hb4.size)⟩
      rw [HD.out]
      exact hown.from_ hb4.size

end Go.Proofs.Ytnmadmcegdpecaa
