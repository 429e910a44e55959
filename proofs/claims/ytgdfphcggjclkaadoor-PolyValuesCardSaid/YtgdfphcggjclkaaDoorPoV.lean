/-
  PolyValues: what the program does.
-/
import Derived.Test.YtgdfphcggjclkaaDoorPoC
namespace Go.Proofs.YtgdfphcggjclkaaDoor
open Go Go.RowKit Go.Maps Go.Shelf Go.Proofs

theorem pSum_len (a b : List Int) (q : Int) : (pSum a b q).length ≤ a.length + b.length := by
  unfold pSum
  split
  · rw [sumL_len]; omega
  · simp
theorem pScale_len (a : List Int) (k q : Int) : (pScale a k q).length ≤ a.length := by
  unfold pScale
  split
  · simp
  · simp
theorem mEval_lt {q : Int} (hq : okm q = true) (l : List Int) (x : Int) : ¬ q ≤ mEval l x q := by
  rw [mEval_ok hq]
  have := Int.emod_lt_of_pos (ev l x) (okm_pos hq)
  omega
set_option maxRecDepth 100000 in
set_option maxHeartbeats 8000000 in
theorem polyValues_c (A : Option Addr) (a : List Int) (ca : Nat) (B : Option Addr) (b : List Int) (cb : Nat) (x k n : Int) (w : World)
    (hA : Cells w A (u64v a)) (la : a.length ≤ 9223372036854775807) (ua : U64s a) (hB : Cells w B (u64v b)) (lb : b.length ≤ 9223372036854775807) (ub : U64s b)
    (hx : U64 x) (hk : U64 k) (hn : U64 n) (hT : Tabs w) (hp : ∀ {q : Int}, primeV q = true → Go.Psi.Pr q.toNat) :
    Calls Tryd.prog 5 #[.slice A a.length ca, .slice B b.length cb, .int .u64 x, .int .u64 k, .int .u64 n] w fun e w' => e = .returned (.bool true) ∧ Below w.heap.size w w' := by
  have HW := hid (fun w' => awake03_c w')
  obtain ⟨r, hr, hr0, hr1⟩ : ∃ r, n.tmod 2305843009213693952 = r ∧ 0 ≤ r ∧ r < 2305843009213693952 := ⟨_, rfl, by have := hn.lo; rw [Int.tmod_eq_emod_of_nonneg this]; omega, by have := hn.lo; rw [Int.tmod_eq_emod_of_nonneg this]; omega⟩
  go_enter Tryd.func5, Tryd.ntmps5
  by_cases h1 : a.length ≤ 40
  case neg =>
    go_wp2_with (fail)
    refine (HW.out w).mono ?_
    rintro e w2 ⟨rfl, hb⟩
    go_wp2
    go_ret
    exact ⟨rfl, hb⟩
  by_cases h2 : b.length ≤ 40
  case neg =>
    go_wp2_with (fail)
    refine (HW.out w).mono ?_
    rintro e w2 ⟨rfl, hb⟩
    go_wp2
    go_ret
    exact ⟨rfl, hb⟩
  go_wp2_with (fail)
  refine (HW.out w).mono ?_
  rintro e w2 ⟨rfl, hb2⟩
  clear HW
  have hok : okm (1 + r) = true := okm_of (by omega) (by omega)
  have hq : U64 (1 + r) := ⟨by omega, by omega⟩
  have HOK := hid hok
  have lu : ∀ (l : List Int), (u64v l).length = l.length := fun l => by simp [u64v]
  have HE := hid (fun (A : Option Addr) (l : List Int) (c : Nat) (q : Int) (w' : World) (hc : Cells w' A (u64v l)) (hl : l.length ≤ 1000000) (hu : U64s l) (hq : U64 q) => (eval_c A l c x q w' hc (by omega) hu hx hq).mono (fun e w'' h => (⟨h.1, below_of_dr h.2⟩ : _ ∧ Below w'.heap.size w' w'')))
  have hlt : mEval a x (1 + r) < 1 + r := Int.not_le.1 (mEval_lt hok a x)
  have hlt2 := decide_eq_false (mEval_lt hok a x)
  have hU := mEval_u64 a x (1 + r)
  have hV := mEval_u64 b x (1 + r)
  have hs1 := val_sum hok a b x
  have hs2 := val_times hok a b x
  have hs3 := val_scale hok a k x
  have HS := hid (⟨hs1, hs2, hs3⟩ : _ ∧ _ ∧ _)
  clear hs1 hs2 hs3 hok
  go_wp2_with (fail)
  generalize 1 + r = q at *
  refine (HE.out A a ca q w2 (hA.below hb2) (by omega) ua hq).mono ?_
  rintro e w3 ⟨rfl, hb⟩
  replace hb2 := below_next hb2 hb2.size hb
  clear hb
  go_wp2_with (fail)
  refine (HE.out B b cb q w3 (hB.below hb2) (by omega) ub hq).mono ?_
  rintro e w4 ⟨rfl, hb⟩
  replace hb2 := below_next hb2 hb2.size hb
  clear hb
  generalize mEval a x q = u at *
  generalize mEval b x q = v at *
  go_wp2_with (fail)
  refine (psum_c A B a b ca cb q w4 (hA.below hb2) (hB.below hb2) (by omega) (by omega) ua ub hq).mono ?_
  rintro e w5 ⟨v5, rfl, ho5, hb⟩
  replace hb2 := below_next hb2 hb2.size hb
  clear hb
  obtain ⟨A5, c5, rfl, hc5⟩ := ho5.form
  rw [lu]
  clear ho5
  go_wp2_with (fail)
  refine (HE.out A5 _ c5 q w5 hc5 (by have := pSum_len a b q; omega) (pSum_u64 a b q) hq).mono ?_
  rintro e w6 ⟨rfl, hb⟩
  replace hb2 := below_next hb2 hb2.size hb
  clear hb hc5
  rw [HS.out.1]
  go_wp2_with (fail)
  refine (add_c u v q hU hV hq w6).mono ?_
  rintro e w7 ⟨rfl, hd⟩
  replace hb2 := below_dr hb2 hd
  clear hd
  generalize mAdd u v q = s1 at *
  go_wp2_with (fail)
  refine (ptimes_c A B a b ca cb q w7 (hA.below hb2) (hB.below hb2) (by omega) (by omega) ua ub hq).mono ?_
  rintro e w8 ⟨v8, rfl, ho8, hb⟩
  replace hb2 := below_next hb2 hb2.size hb
  clear hb
  obtain ⟨A8, c8, rfl, hc8⟩ := ho8.form
  rw [lu]
  clear ho8
  go_wp2_with (fail)
  refine (HE.out A8 _ c8 q w8 hc8 (by have := times_len (a := a) (b := b) (q := q); omega) (pTimes_u64 a b q) hq).mono ?_
  rintro e w9 ⟨rfl, hb⟩
  replace hb2 := below_next hb2 hb2.size hb
  clear hb hc8
  rw [HS.out.2.1]
  go_wp2_with (fail)
  refine (mul_c u v q hU hV hq w9).mono ?_
  rintro e w10 ⟨rfl, hd⟩
  replace hb2 := below_dr hb2 hd
  clear hd
  generalize mMul u v q = s2 at *
  go_wp2_with (fail)
  refine (pscale_c A a ca k q w10 (hA.below hb2) (by omega) ua hk hq).mono ?_
  rintro e w11 ⟨v11, rfl, ho11, hb⟩
  replace hb2 := below_next hb2 hb2.size hb
  clear hb
  obtain ⟨A11, c11, rfl, hc11⟩ := ho11.form
  rw [lu]
  clear ho11
  go_wp2_with (fail)
  refine (HE.out A11 _ c11 q w11 hc11 (by have := pScale_len a k q; omega) (pScale_u64 a k q) hq).mono ?_
  rintro e w12 ⟨rfl, hb⟩
  replace hb2 := below_next hb2 hb2.size hb
  clear hb hc11
  rw [HS.out.2.2]
  go_wp2_with (fail)
  refine (mul_c u k q hU hk hq w12).mono ?_
  rintro e w13 ⟨rfl, hd⟩
  replace hb2 := below_dr hb2 hd
  clear hd
  generalize mMul u k q = s3 at *
  clear HS hU hV hlt hlt2 HE HOK hq
  go_wp2_with (fail)
  refine (prime03_c n hn w13 (hT.below hb2)).mono ?_
  rintro e w14 ⟨rfl, hb⟩
  replace hb2 := below_next hb2 hb2.size hb
  clear hb
  have hpv := primeP_ok hn
  have hq := primeP_u64 hn
  generalize primeP n = p at *
  obtain ⟨hok, hq2⟩ := okm_prime hpv
  have hdt := deg_times hok hq2 (hp hpv) a b
  have hsc := same_comm hok a b
  have hsd := same_dist hok a b
  have hd1 := fun (l : List Int) => deg_spec hok l
  have HD := hid (⟨hdt, hsc, hsd, hd1⟩ : _ ∧ _ ∧ _ ∧ _)
  clear hdt hsc hsd hd1 hpv hp
  go_wp2_with (fail)
  refine (pdeg_c A a ca p w14 (hA.below hb2) (by omega) ua hq).mono ?_
  rintro e w15 ⟨rfl, rfl⟩
  go_wp2_with (fail)
  refine (pdeg_c B b cb p _ (hB.below hb2) (by omega) ub hq).mono ?_
  rintro e w15 ⟨rfl, rfl⟩
  go_wp2_with (fail)
  refine (ptimes_c A B a b ca cb p _ (hA.below hb2) (hB.below hb2) (by omega) (by omega) ua ub hq).mono ?_
  rintro e w16 ⟨v16, rfl, ho16, hb⟩
  replace hb2 := below_next hb2 hb2.size hb
  clear hb
  obtain ⟨A16, c16, rfl, hc16⟩ := ho16.form
  rw [lu]
  clear ho16
  have htl := times_len (a := a) (b := b) (q := p)
  have htu := pTimes_u64 a b p
  have hdl : -1 ≤ pDeg a p ∧ pDeg a p < 40 := by
    rcases HD.out.2.2.2 a with ⟨h, _⟩ | ⟨d, h, h', _⟩ <;> omega
  have hel : -1 ≤ pDeg b p ∧ pDeg b p < 40 := by
    rcases HD.out.2.2.2 b with ⟨h, _⟩ | ⟨d, h, h', _⟩ <;> omega
  by_cases hneg : pDeg a p < 0 ∨ pDeg b p < 0
  · have hdg := HD.out.1
    rw [if_pos hneg] at hdg
    generalize pDeg a p = d at *
    generalize pDeg b p = e at *
    by_cases hd0 : d < 0
    · go_wp2_with (fail)
      refine (pdeg_c A16 _ c16 p w16 hc16 (by omega) htu hq).mono ?_
      rintro e w17 ⟨rfl, rfl⟩
      rw [hdg]
      go_wp2
      go_ret
      exact ⟨rfl, hb2⟩
    · have he0 : e < 0 := by omega
      go_wp2_with (fail)
      refine (pdeg_c A16 _ c16 p w16 hc16 (by omega) htu hq).mono ?_
      rintro e w17 ⟨rfl, rfl⟩
      rw [hdg]
      go_wp2
      go_ret
      exact ⟨rfl, hb2⟩
  · have hdg := HD.out.1
    rw [if_neg hneg] at hdg
    generalize pDeg a p = d at *
    generalize pDeg b p = e at *
    have hd0 : ¬ d < 0 := by omega
    have he0 : ¬ e < 0 := by omega
    go_wp2_with (fail)
    refine (pdeg_c A16 _ c16 p w16 hc16 (by omega) htu hq).mono ?_
    rintro ee w17 ⟨rfl, rfl⟩
    rw [hdg]
    go_wp2_with (fail)
    refine (ptimes_c B A b a cb ca p _ (hB.below hb2) (hA.below hb2) (by omega) (by omega) ub ua hq).mono ?_
    rintro ee w18 ⟨v18, rfl, ho18, hb⟩
    replace hb2 := below_next hb2 hb2.size hb
    replace hc16 := hc16.below hb
    clear hb
    obtain ⟨A18, c18, rfl, hc18⟩ := ho18.form
    rw [lu]
    clear ho18
    have htl2 := times_len (a := b) (b := a) (q := p)
    have hsm := psame_c A16 A18 _ _ c16 c18 p w18 hc16 hc18 (by omega) (by omega) htu (pTimes_u64 b a p) hq
    rw [HD.out.2.1] at hsm
    have HSM := hid hsm
    clear hsm
    go_wp2_with (fail)
    refine HSM.out.mono ?_
    rintro ee w19 ⟨rfl, hb⟩
    replace hb2 := below_next hb2 hb2.size hb
    replace hc16 := hc16.below hb
    clear hb HSM hc18
    have hsl := pSum_len a b p
    go_wp2_with (fail)
    refine (psum_c A B a b ca cb p w19 (hA.below hb2) (hB.below hb2) (by omega) (by omega) ua ub hq).mono ?_
    rintro ee w20 ⟨v20, rfl, ho20, hb⟩
    replace hb2 := below_next hb2 hb2.size hb
    replace hc16 := hc16.below hb
    clear hb
    obtain ⟨A20, c20, rfl, hc20⟩ := ho20.form
    rw [lu]
    clear ho20
    have htl3 := times_len (a := pSum a b p) (b := a) (q := p)
    go_wp2_with (fail)
    refine (ptimes_c A20 A _ a c20 ca p w20 hc20 (hA.below hb2) (by omega) (by omega) (pSum_u64 a b p) ua hq).mono ?_
    rintro ee w21 ⟨v21, rfl, ho21, hb⟩
    replace hb2 := below_next hb2 hb2.size hb
    replace hc16 := hc16.below hb
    clear hb
    obtain ⟨A21, c21, rfl, hc21⟩ := ho21.form
    rw [lu]
    clear ho21
    have htl4 := times_len (a := a) (b := a) (q := p)
    go_wp2_with (fail)
    refine (ptimes_c A A a a ca ca p w21 (hA.below hb2) (hA.below hb2) (by omega) (by omega) ua ua hq).mono ?_
    rintro ee w22 ⟨v22, rfl, ho22, hb⟩
    replace hb2 := below_next hb2 hb2.size hb
    replace hc16 := hc16.below hb
    replace hc21 := hc21.below hb
    clear hb
    obtain ⟨A22, c22, rfl, hc22⟩ := ho22.form
    rw [lu]
    clear ho22
    have hsl2 := pSum_len (pTimes a a p) (pTimes a b p) p
    go_wp2_with (fail)
    refine (psum_c A22 A16 _ _ c22 c16 p w22 hc22 hc16 (by omega) (by omega) (pTimes_u64 a a p) htu hq).mono ?_
    rintro ee w23 ⟨v23, rfl, ho23, hb⟩
    replace hb2 := below_next hb2 hb2.size hb
    replace hc21 := hc21.below hb
    clear hb
    obtain ⟨A23, c23, rfl, hc23⟩ := ho23.form
    rw [lu]
    clear ho23
    have hsm := psame_c A21 A23 _ _ c21 c23 p w23 hc21 hc23 (by omega) (by omega) (pTimes_u64 _ _ p) (pSum_u64 _ _ p) hq
    rw [HD.out.2.2.1] at hsm
    have HSM := hid hsm
    clear hsm
    go_wp2_with (fail)
    refine HSM.out.mono ?_
    rintro ee w24 ⟨rfl, hb⟩
    go_wp2
    go_ret
    exact ⟨rfl, below_next hb2 hb2.size hb⟩
end Go.Proofs.YtgdfphcggjclkaaDoor
