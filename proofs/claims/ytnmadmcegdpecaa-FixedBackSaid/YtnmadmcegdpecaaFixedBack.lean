/-
  PROVED HERE: FixedBack: Int of Num is the whole number, if it is near to 0; Num of Int is the number; Num keeps sums and products.
-/
import Derived.Test.YtnmadmcegdpecaaAwake07
import Derived.Test.YtnmadmcegdpecaaJoin
namespace Go.Proofs.Ytnmadmcegdpecaa
open Go.ChangeShapes Go.WideShapes Go.ChangeAt Go.RowKit

theorem back_near {n q : Int} (hq : okm q = true) (h1 : -q < 2 * n) (h2 : 2 * n < q) : mInt (mNum n q) q = n := by
  have h0 := okm_pos hq
  rw [mNum_ok hq, mInt, if_pos hq, Int.emod_emod]
  by_cases hn : 0 ≤ n
  · rw [Int.emod_eq_of_lt hn (by omega), if_pos (by omega)]
  · have : n % q = n + q := by
      rw [← Int.add_emod_right, Int.emod_eq_of_lt (by omega) (by omega)]
    rw [this, if_neg (by omega)]; omega
theorem back_num {x q : Int} (hq : okm q = true) : mNum (mInt x q) q = x % q := by
  rw [mNum_ok hq, mInt, if_pos hq]
  split
  · rw [Int.emod_emod]
  · rw [Int.sub_emod, Int.emod_emod, Int.emod_self, Int.sub_zero, Int.emod_emod]
theorem back_lt {n q : Int} (hq : okm q = true) : mNum n q < q := by
  rw [mNum_ok hq]; exact Int.emod_lt_of_pos _ (okm_pos hq)
theorem back_add {a b q : Int} (hq : okm q = true) : mNum (a + b) q = mAdd (mNum a q) (mNum b q) q := by
  rw [mNum_ok hq, mNum_ok hq, mNum_ok hq, mAdd, if_pos hq, ← Int.add_emod]
theorem back_mul {a b q : Int} (hq : okm q = true) : mNum (a * b) q = mMul (mNum a q) (mNum b q) q := by
  rw [mNum_ok hq, mNum_ok hq, mNum_ok hq, mMul, if_pos hq, ← Int.mul_emod]
theorem back_neg {a q : Int} (hq : okm q = true) : mAdd (mNum a q) (mNum (-a) q) q = 0 := by
  rw [← back_add hq, mNum_ok hq]; simp [Int.add_right_neg]

set_option maxRecDepth 100000 in
set_option maxHeartbeats 1000000 in
theorem fixedBack_c (n m x k : Int) (hn : I64 n) (hm : I64 m) (hx : U64 x) (hk : U64 k) (w : World) :
    Calls Try.prog 5 #[.int .i64 n, .int .i64 m, .int .u64 x, .int .u64 k] w fun e w' => e = .returned (.bool true) ∧ Below w.heap.size w w' := by
  obtain ⟨q, hqe⟩ : ∃ q, 1 + k % 2305843009213693952 = q := ⟨_, rfl⟩
  obtain ⟨n1, n2⟩ := hn
  obtain ⟨m1, m2⟩ := hm
  obtain ⟨k1, k2⟩ := hk
  have q1 : 1 ≤ q := by omega
  have q2 : q ≤ 2305843009213693952 := by omega
  have hqu : U64 q := ⟨by omega, by omega⟩
  have hok := okm_of (m := q) (by omega) (by omega)
  go_enter Try.func5, Try.ntmps5
  go_wp2_with (go_at_call 31; refine (awake07_c _).mono ?_; rintro e w5 ⟨rfl, h5⟩)
  · have h1 := Int.tmod_lt_of_pos n (show 0 < (q - 1) / 2 + 1 by omega)
    have h2 := Int.lt_tmod_of_pos n (show 0 < (q - 1) / 2 + 1 by omega)
    obtain ⟨r, hr⟩ : ∃ r, n.tmod ((q - 1) / 2 + 1) = r := ⟨_, rfl⟩
    rw [hr] at h1 h2 ⊢
    clear hr
    have hr64 : I64 r := ⟨by omega, by omega⟩
    have e1 : (mInt (mNum r q) q != r) = false := by rw [back_near hok (by omega) (by omega)]; simp
    have e2 : (mNum (mInt x q) q != x % q) = false := by rw [back_num hok]; simp
    have e3 := back_lt (n := n) hok
    have hmx : I64 (mInt x q) := mInt_i64
    have u1 := mNum_u64 r q
    have hn' : I64 n := ⟨n1, n2⟩
    have hq0 : q ≠ 0 := by omega
    have x1 := hx.1
    have x2 := hx.2
    go_quiet (first | (go_at_call 27; refine quiet_dr (num_c _ _ ?_ hqu _); assumption) | (go_at_call 29; refine quiet_dr (int_c _ _ ?_ hqu _); assumption))
    have hD : Dr w5 (w5.drewN nq) := ⟨nq, rfl⟩
    clear hn' hmx u1 e1 e2 hr64
    have ha : I64 (n / 2) := ⟨by omega, by omega⟩
    have hb : I64 (m / 2) := ⟨by omega, by omega⟩
    have hab : I64 (n / 2 + m / 2) := ⟨by omega, by omega⟩
    have hc : I64 (n / 8589934592) := ⟨by omega, by omega⟩
    have hd : I64 (m / 8589934592) := ⟨by omega, by omega⟩
    have hneg : I64 (-(n / 8589934592)) := ⟨by omega, by omega⟩
    have hpb := prod_bound (n / 8589934592) (m / 8589934592) 1073741824 1073741824 ⟨by omega, by omega⟩ ⟨by omega, by omega⟩
    have f1 := back_add (a := n / 2) (b := m / 2) hok
    have f2 := back_mul (a := n / 8589934592) (b := m / 8589934592) hok
    have f3 := back_neg (a := n / 8589934592) hok
    obtain ⟨cd, hcd⟩ : ∃ cd, n / 8589934592 * (m / 8589934592) = cd := ⟨_, rfl⟩
    rw [hcd] at hpb f2
    have hcd64 : I64 cd := ⟨by omega, by omega⟩
    have g1 : (mNum (n / 2 + m / 2) q == mAdd (mNum (n / 2) q) (mNum (m / 2) q) q) = true := by rw [f1]; simp
    have g2 : (mNum cd q == mMul (mNum (n / 8589934592) q) (mNum (m / 8589934592) q) q) = true := by rw [f2]; simp
    have g3 : (mAdd (mNum (n / 8589934592) q) (mNum (-(n / 8589934592)) q) q == 0) = true := by rw [f3]; simp
    have p1 := hpb.1
    have p2 := hpb.2
    have HFF := hid (⟨f1, f2, f3⟩ : _ ∧ _ ∧ _)
    clear f1 f2 f3 hpb
    go_wp2_with (first
      | (go_at_call 27; refine (num_c _ _ ?_ hqu _).mono ?_; assumption; rintro e w6 ⟨rfl, h6⟩; have hD := hD.trans h6)
      | (go_at_call 32; refine (add_c _ _ _ (mNum_u64 _ _) (mNum_u64 _ _) hqu _).mono ?_; rintro e w6 ⟨rfl, h6⟩; have hD := hD.trans h6)
      | (go_at_call 33; refine (mul_c _ _ _ (mNum_u64 _ _) (mNum_u64 _ _) hqu _).mono ?_; rintro e w6 ⟨rfl, h6⟩; have hD := hD.trans h6))
    go_ret
    exact ⟨rfl, below_dr h5 hD⟩
  · skip
    have hr64 : I64 0 := ⟨by omega, by omega⟩
    have e1 : (mInt (mNum 0 q) q != 0) = false := by rw [back_near hok (by omega) (by omega)]; simp
    have e2 : (mNum (mInt x q) q != x % q) = false := by rw [back_num hok]; simp
    have e3 := back_lt (n := n) hok
    have hmx : I64 (mInt x q) := mInt_i64
    have u1 := mNum_u64 0 q
    have hn' : I64 n := ⟨n1, n2⟩
    have hq0 : q ≠ 0 := by omega
    have x1 := hx.1
    have x2 := hx.2
    go_quiet (first | (go_at_call 27; refine quiet_dr (num_c _ _ ?_ hqu _); assumption) | (go_at_call 29; refine quiet_dr (int_c _ _ ?_ hqu _); assumption))
    have hD : Dr w5 (w5.drewN nq) := ⟨nq, rfl⟩
    clear hn' hmx u1 e1 e2 hr64
    have ha : I64 (n / 2) := ⟨by omega, by omega⟩
    have hb : I64 (m / 2) := ⟨by omega, by omega⟩
    have hab : I64 (n / 2 + m / 2) := ⟨by omega, by omega⟩
    have hc : I64 (n / 8589934592) := ⟨by omega, by omega⟩
    have hd : I64 (m / 8589934592) := ⟨by omega, by omega⟩
    have hneg : I64 (-(n / 8589934592)) := ⟨by omega, by omega⟩
    have hpb := prod_bound (n / 8589934592) (m / 8589934592) 1073741824 1073741824 ⟨by omega, by omega⟩ ⟨by omega, by omega⟩
    have f1 := back_add (a := n / 2) (b := m / 2) hok
    have f2 := back_mul (a := n / 8589934592) (b := m / 8589934592) hok
    have f3 := back_neg (a := n / 8589934592) hok
    obtain ⟨cd, hcd⟩ : ∃ cd, n / 8589934592 * (m / 8589934592) = cd := ⟨_, rfl⟩
    rw [hcd] at hpb f2
    have hcd64 : I64 cd := ⟨by omega, by omega⟩
    have g1 : (mNum (n / 2 + m / 2) q == mAdd (mNum (n / 2) q) (mNum (m / 2) q) q) = true := by rw [f1]; simp
    have g2 : (mNum cd q == mMul (mNum (n / 8589934592) q) (mNum (m / 8589934592) q) q) = true := by rw [f2]; simp
    have g3 : (mAdd (mNum (n / 8589934592) q) (mNum (-(n / 8589934592)) q) q == 0) = true := by rw [f3]; simp
    have p1 := hpb.1
    have p2 := hpb.2
    have HFF := hid (⟨f1, f2, f3⟩ : _ ∧ _ ∧ _)
    clear f1 f2 f3 hpb
    go_wp2_with (first
      | (go_at_call 27; refine (num_c _ _ ?_ hqu _).mono ?_; assumption; rintro e w6 ⟨rfl, h6⟩; have hD := hD.trans h6)
      | (go_at_call 32; refine (add_c _ _ _ (mNum_u64 _ _) (mNum_u64 _ _) hqu _).mono ?_; rintro e w6 ⟨rfl, h6⟩; have hD := hD.trans h6)
      | (go_at_call 33; refine (mul_c _ _ _ (mNum_u64 _ _) (mNum_u64 _ _) hqu _).mono ?_; rintro e w6 ⟨rfl, h6⟩; have hD := hD.trans h6))
    go_ret
    exact ⟨rfl, below_dr h5 hD⟩

set_option maxRecDepth 100000 in
theorem fixedBack_lifted (os : Os) (started : os.Started) (H : Type) (enc : TypeId × Value → H) :
    ReturnsInHanded {} Try.checked os 5 .any (Rows.fixedBackSpec.pre6 enc Try.prog Try.f5 Rows.fixedBackRow.domain false) (Rows.fixedBackSpec.post enc Try.prog Try.f5 false true false false) := by
  refine returnsInHanded_of_change (C := Try.checked) Try.own started (by kernel_rfl) Try.func5
    (ChangeSpec.witness6 (enc := enc) (C := Try.checked) false ⟨#[], #[.int .i64 0, .int .i64 0, .int .u64 0, .int .u64 0], []⟩ 8 (by kernel_rfl) (by kernel_rfl) (by kernel_rfl) (by kernel_rfl)) ?_
  intro W base args ds gs before hval0 hW hcnd _
  have hval : ∀ (j : Nat) t v, Try.f5.params[j]? = some t → args[j]? = some v → Value.okWide Try.prog W .any base t v := hval0
  have hW' := hW
  obtain ⟨p, q, hA0, hV, rfl, hfz, hnd⟩ := hW
  have hA : DataW.TrodAll enc Try.prog W 0 (fun _ => true) true Try.f5.params.toList args.toList ds p := hA0
  rw [Try.params5] at hA hval
  obtain ⟨v0, v1, v2, v3, d0, d1, d2, d3, p0, p1, p2, p3, rfl, rfl, rfl, h0, h1, h2, h3⟩ := trodAll_four hA
  obtain ⟨rfl, rfl⟩ := trodVars_none hV
  obtain ⟨a, rfl, rfl, rfl, w0⟩ := open_int Try.underlying2 (hval 0 2 v0 rfl rfl) h0
  obtain ⟨b, rfl, rfl, rfl, w1⟩ := open_int Try.underlying2 (hval 1 2 v1 rfl rfl) h1
  obtain ⟨c, rfl, rfl, rfl, w2⟩ := open_int Try.underlying23 (hval 2 23 v2 rfl rfl) h2
  obtain ⟨d, rfl, rfl, rfl, w3⟩ := open_int Try.underlying23 (hval 3 23 v3 rfl rfl) h3
  clear hA0 hval0
  simp only [List.append_nil] at hW'
  refine (fixedBack_c a b c d (i64_of w0) (i64_of w1) (u64_of w2) (u64_of w3) W).mono fun e W' ⟨he, hb⟩ => ?_
  subst he
  exact ⟨_, rfl, post_below (pa := []) (pv := []) hW' hb rfl (fun _ _ _ => trodAll_mk1 (shut_bool Try.underlying4 _)) (fun sp _ => trodAll_mk4 (shut_int Try.underlying2 w0) (shut_int Try.underlying2 w1) (shut_int Try.underlying23 w2) (shut_int Try.underlying23 w3)) (fun _ _ => rfl)⟩

theorem fixedBack_holds : Rows.FixedBackSaid :=
  OpenClaim.holds_of_wide 5 Try.f5 rfl rfl rfl rfl rfl rfl rfl ⟨rfl, rfl, rfl, rfl, rfl⟩ rfl rfl rfl rfl rfl (by kernel_rfl) Try.func5 (by kernel_rfl)
    (of_decide_eq_true (by kernel_rfl)) (by unfold Func.isWrapper; first | (rw [if_pos (by decide +kernel)]; kernel_rfl) | (rw [if_neg (by decide +kernel)]; exact ⟨rfl, rfl⟩))
    (fun os started H enc _ => fixedBack_lifted os started H enc)
#print axioms fixedBack_holds

end Go.Proofs.Ytnmadmcegdpecaa
