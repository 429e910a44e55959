/-
  The walks of values.
-/
import Derived.Test.YtnmadmcegdpecaaCmp
import Derived.Test.YtnmadmcegdpecaaPolyPlain
namespace Go.Proofs.Ytnmadmcegdpecaa
open Go.RowKit

theorem quiet_dr {P : Program} {f : FuncId} {args : Array Value} {w : World} {n : Nat} {v : Value}
    (h : Calls P f args (w.drewN n) fun e w' => e = .returned v ∧ Dr (w.drewN n) w') : Calls P f args (w.drewN n) fun e w'' => e = .returned v ∧ ∃ m, w'' = w.drewN m :=
  h.mono fun _ _ ⟨he, m, hm⟩ => ⟨he, n + m, by rw [hm, World.drewN_drewN]⟩
theorem quiet_add {P : Program} {f : FuncId} {args : Array Value} {w : World} {a n : Nat} {v : Value}
    (h : Calls P f args (w.drewN (a + n)) fun e w' => e = .returned v ∧ Dr (w.drewN (a + n)) w') : Calls P f args (w.drewN (a + n)) fun e w'' => e = .returned v ∧ ∃ m, w'' = w.drewN (a + m) :=
  h.mono fun _ _ ⟨he, m, hm⟩ => ⟨he, n + m, by rw [hm, World.drewN_drewN, Nat.add_assoc]⟩

set_option maxHeartbeats 400000 in
theorem eval_c (A : Option Addr) (l : List Int) (c : Nat) (x q : Int) (w : World) (hA : Cells w A (l.map (.int .u64))) (hl : l.length ≤ 9223372036854775807) (hu : ∀ z ∈ l, U64 z) (hx : U64 x) (hq : U64 q) :
    Calls Try.prog 59 #[.slice A l.length c, .int .u64 x, .int .u64 q] w fun e w' => e = .returned (.int .u64 (mEval l x q)) ∧ Dr w w' := by
  go_enter Try.func59, Try.ntmps59
  go_wp2
  go_loopw [7, 8, 11] (fun o _ i wr => ∃ k : Nat, i = .int .i64 k ∧ k ≤ l.length ∧ o = .int .u64 (mEval (l.drop (l.length - k)) x q) ∧ Dr w wr) (fun _ _ i _ => l.length - (intOf i).toNat)
  case atStart => exact ⟨0, rfl, by omega, by rw [Nat.sub_zero, List.drop_length, mEval_nil], Dr.refl w⟩
  case round =>
    obtain ⟨k, rfl, hk, rfl, hw⟩ := hrel
    by_cases hlt : k < l.length
    · obtain ⟨j, hj⟩ : ∃ j, l.length = k + 1 + j := ⟨l.length - k - 1, by omega⟩
      have hj' : ((l.length : Nat) : Int) - 1 - k = (j : Int) := by omega
      obtain ⟨z, hz⟩ := get_of_lt (l := l) (show j < l.length by omega)
      obtain ⟨b, off, rfl, hc⟩ := (hA.dr hw).at_map hz
      have huz := hu z (List.mem_of_getElem? hz)
      have hstep := mEval_drop hz x q
      rw [show l.length - k = j + 1 by omega]
      have hm := mEval_u64 (l.drop (j + 1)) x q
      obtain ⟨v, hv⟩ : ∃ v, mEval (l.drop (j + 1)) x q = v := ⟨_, rfl⟩
      rw [hv] at hstep hm ⊢
      have hjl : j < l.length := by omega
      have HS := hid hstep
      have HJ := hid hj
      clear hstep hv hj
      go_wp2
      go_quiet (first | (go_at_call 33; exact quiet_dr (mul_c _ _ _ hm hx hq _)) | (go_at_call 32; exact quiet_dr (add_c _ _ _ (mMul_u64 _ _ _) huz hq _)))
      go_wp2
      go_roundw
      case rel => exact ⟨k + 1, by go_num, by omega, by rw [show l.length - (k + 1) = j by have := HJ.out; omega, HS.out], hw.more _⟩
      case measure => simp [intOf]; omega
    · obtain rfl : k = l.length := by omega
      go_wp2
      go_ret
      exact ⟨ret_int (by rw [Nat.sub_self]; rfl), hw⟩

set_option maxHeartbeats 400000 in
theorem reval_c (A : Option Addr) (l : List Int) (c : Nat) (x q : Int) (w : World) (hA : Cells w A (l.map (.int .u64))) (hl : l.length ≤ 9223372036854775807) (hu : ∀ z ∈ l, U64 z) (hx : U64 x) (hq : U64 q) :
    Calls Try.prog 68 #[.slice A l.length c, .int .u64 x, .int .u64 q] w fun e w' => e = .returned (.int .u64 (mEval l x q)) ∧ Dr w w' := by
  go_enter Try.func68, Try.ntmps68
  go_wp2
  go_loopw [7, 8] (fun o i wr => ∃ k : Nat, i = .int .i64 k ∧ k ≤ l.length ∧ o = .int .u64 (mEval (l.take k) x q) ∧ Dr w wr) (fun _ i _ => l.length - (intOf i).toNat)
  case atStart => exact ⟨0, rfl, by omega, by rw [List.take_zero, mEval_nil], Dr.refl w⟩
  case round =>
    obtain ⟨k, rfl, hk, rfl, hw⟩ := hrel
    by_cases hlt : k < l.length
    · obtain ⟨z, hz⟩ := get_of_lt hlt
      obtain ⟨b, off, rfl, hc⟩ := (hA.dr hw).at_map hz
      have huz := hu z (List.mem_of_getElem? hz)
      have hstep := mEval_take hz x q
      have hm := mEval_u64 (l.take k) x q
      obtain ⟨v, hv⟩ : ∃ v, mEval (l.take k) x q = v := ⟨_, rfl⟩
      rw [hv] at hstep hm ⊢
      have hcv : IntKind.u64.wrap (k : Int) = (k : Int) := by rw [IntKind.wrap_u64]; omega
      have HS := hid hstep
      clear hstep hv
      go_wp2
      go_quiet (first | (go_at_call 106; exact quiet_dr (rpow_c _ _ hx hq k k (Nat.le_refl _) (by omega) _)) | (go_at_call 78; exact quiet_dr (rmul_c _ _ _ huz (mPow_u64 _ _ _) hq _)) | (go_at_call 80; exact quiet_dr (radd_c _ _ _ hm (mMul_u64 _ _ _) hq _)))
      go_wp2
      go_roundw
      case rel => exact ⟨k + 1, by go_num, by omega, by rw [HS.out], hw.more _⟩
      case measure => simp [intOf]; omega
    · obtain rfl : k = l.length := by omega
      go_wp2
      go_ret
      exact ⟨ret_int (by rw [List.take_length]), hw⟩

set_option maxHeartbeats 400000 in
theorem power_c (x q : Int) (n : Nat) (hn : n ≤ 9223372036854775807) (w : World) (hx : U64 x) (hq : U64 q) :
    Calls Try.prog 79 #[.int .u64 x, .int .i64 (n : Int), .int .u64 q] w fun e w' => e = .returned (.int .u64 (mPow x n q)) ∧ Dr w w' := by
  have h1 := mPow_mul_one x q
  have H1 := hid h1
  clear h1
  go_enter Try.func79, Try.ntmps79
  go_wp2_with (fail)
  refine (rmul_c _ _ _ ⟨by omega, by omega⟩ ⟨by omega, by omega⟩ hq _).mono ?_; rintro e w1 ⟨rfl, hw1⟩
  rw [H1.out]
  go_wp2
  go_loopw [7, 8] (fun o i wr => ∃ k : Nat, i = .int .i64 k ∧ k ≤ n ∧ o = .int .u64 (mPow x k q) ∧ Dr w wr) (fun _ i _ => n - (intOf i).toNat)
  case atStart => exact ⟨0, rfl, by omega, rfl, hw1⟩
  case round =>
    obtain ⟨k, rfl, hk, rfl, hw⟩ := hrel
    have hs := mPow_succ x q k
    have hu := mPow_u64 x k q
    obtain ⟨v, hv⟩ : ∃ v, mPow x k q = v := ⟨_, rfl⟩
    rw [hv] at hs hu ⊢
    have HS := hid hs
    have HV := hid hv
    clear hs hv
    by_cases hlt : k < n
    · go_wp2_with (fail)
      refine (rmul_c _ _ _ hu hx hq _).mono ?_; rintro e w2 ⟨rfl, hw2⟩
      go_wp2
      go_roundw
      case rel => exact ⟨k + 1, by go_num, by omega, by rw [HS.out], hw.trans hw2⟩
      case measure => simp [intOf]; omega
    · obtain rfl : k = n := by omega
      go_wp2
      go_ret
      exact ⟨ret_int (by rw [HV.out]), hw⟩

end Go.Proofs.Ytnmadmcegdpecaa
