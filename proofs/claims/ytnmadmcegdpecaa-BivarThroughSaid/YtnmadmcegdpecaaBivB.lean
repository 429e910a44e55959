/-
  The walks of the reference's values, rows and columns of polynomials of two.
-/
import Derived.Test.YtnmadmcegdpecaaBivA
import Derived.Deep.RegionWith
namespace Go.Proofs.Ytnmadmcegdpecaa
open Go.RowKit

theorem mCol_take {f : List (List Int)} {k : Nat} {l : List Int} (h : f[k]? = some l) (x y q : Int) :
    mAt (f.take (k + 1)) x y q = mAdd (mAt (f.take k) x y q) (mMul (mEval l y q) (mPow x k q) q) q := by
  have hk := (List.getElem?_eq_some_iff.1 h).1
  unfold mAt mCol
  rw [take_snoc' h, List.map_append, List.map_cons, List.map_nil, mEval_snoc, List.length_map, List.length_take, Nat.min_eq_left (by omega)]

set_option maxHeartbeats 1000000 in
theorem rat_c (A : Option Addr) (f : List (List Int)) (c : Nat) (x y q : Int) (w : World) (hA : Grid w A f) (hl : f.length ≤ 9223372036854775807) (hu : Words f) (hx : U64 x) (hy : U64 y) (hq : U64 q) :
    Calls Try.prog 22 #[.slice A f.length c, .int .u64 x, .int .u64 y, .int .u64 q] w fun e w' => e = .returned (.int .u64 (mAt f x y q)) ∧ Dr w w' := by
  have h0 : mAt (f.take 0) x y q = 0 := by simp [mAt, mCol, mEval_nil]
  go_enter Try.func22, Try.ntmps22
  go_wp2
  go_loopw [9, 10, 11, 12] (fun s i _ _ wr => ∃ k : Nat, i = .int .i64 k ∧ k ≤ f.length ∧ s = .int .u64 (mAt (f.take k) x y q) ∧ Dr w wr) (fun _ i _ _ _ => f.length - (intOf i).toNat)
  case atStart => exact ⟨0, rfl, by omega, by rw [h0], Dr.refl w⟩
  case round =>
    obtain ⟨k, rfl, hk, rfl, hw⟩ := hrel
    rename_i wr
    by_cases hlt : k < f.length
    · obtain ⟨l, hxl⟩ := get_of_lt hlt
      have hul := hu.at_ hxl
      obtain ⟨b, off, A', c', rfl, hc, hcs, hln⟩ := (hA.dr hw).at_ hxl
      have hs := mCol_take hxl x y q
      have hSr : Red q (mAt (f.take k) x y q) := red_eval _ _ _
      have hSu : U64 (mAt (f.take k) x y q) := mEval_u64 _ _ _
      obtain ⟨S, hS⟩ : ∃ S, mAt (f.take k) x y q = S := ⟨_, rfl⟩
      rw [hS] at hs hSr hSu ⊢
      have HS := hid hs
      have HR := hid hSr
      clear hs hS hSr
      go_wp2
      go_loopw [9, 11, 12] (fun s j _ w2 => ∃ m : Nat, j = .int .i64 m ∧ m ≤ l.length ∧ s = .int .u64 (mAdd S (mMul (mEval (l.take m) y q) (mPow x k q) q) q) ∧ Dr wr w2) (fun _ j _ _ => l.length - (intOf j).toNat)
      case atStart => exact ⟨0, rfl, by omega, by rw [List.take_zero, mEval_nil, mMul_zero_l, HR.out.add_zero], Dr.refl wr⟩
      case round =>
        obtain ⟨m, rfl, hm, rfl, hw2⟩ := hrel
        rename_i w2
        have hc2 := (hw2.cell _).trans hc
        by_cases hlt2 : m < l.length
        · obtain ⟨z, hz⟩ := get_of_lt hlt2
          obtain ⟨b2, off2, rfl, hcz⟩ := (hcs.dr hw2).at_map hz
          have huz := hul.at_ hz
          have hstep := inner_step S (mEval (l.take m) y q) z (mPow x k q) (mPow y m q) q
          rw [← mEval_take hz y q] at hstep
          have hTu : U64 (mAdd S (mMul (mEval (l.take m) y q) (mPow x k q) q) q) := mAdd_u64 _ _ _
          obtain ⟨T, hT⟩ : ∃ T, mAdd S (mMul (mEval (l.take m) y q) (mPow x k q) q) q = T := ⟨_, rfl⟩
          rw [hT] at hstep hTu ⊢
          have HT := hid hstep
          clear hstep hT
          go_wp2
          go_quiet (first | (go_at_call 79; go_at_call_of 79 x; exact quiet_dr (power_c x q k (by omega) _ hx hq)) | (go_at_call 79; go_at_call_of 79 y; exact quiet_dr (power_c y q m (by omega) _ hy hq)) | (go_at_call 78; go_at_call_of 78 z; exact quiet_dr (rmul_c _ _ _ huz (mMul_u64 _ _ _) hq _)) | (go_at_call 78; exact quiet_dr (rmul_c _ _ _ (mPow_u64 _ _ _) (mPow_u64 _ _ _) hq _)))
          go_wp2_with (go_at_call 80; refine (radd_c _ _ _ hTu (mMul_u64 _ _ _) hq _).mono ?_; rintro e w3 ⟨rfl, hw3⟩)
          go_roundw
          case rel => exact ⟨m + 1, by go_num, by omega, by rw [HT.out], (hw2.more _).trans hw3⟩
          case measure => simp [intOf]; omega
        · obtain rfl : m = l.length := by omega
          go_wp2
          go_roundw
          case rel => exact ⟨k + 1, by go_num, by omega, by rw [HS.out, List.take_length], hw.trans hw2⟩
          case measure => simp [intOf]; omega
    · obtain rfl : k = f.length := by omega
      go_wp2
      go_ret
      exact ⟨ret_int (by first | rfl | rw [List.take_length]), hw⟩

end Go.Proofs.Ytnmadmcegdpecaa
