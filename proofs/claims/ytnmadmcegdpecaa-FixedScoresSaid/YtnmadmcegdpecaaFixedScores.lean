/-
  PROVED HERE: FixedScores: where params fit, and 2 (D M X + M) is below Q, scores are Int of the products of the secrets and the query.
-/
import Derived.Test.YtnmadmcegdpecaaFixM
import Derived.Test.YtnmadmcegdpecaaFixL
import Derived.Test.YtnmadmcegdpecaaArgs
namespace Go.Proofs.Ytnmadmcegdpecaa
open Go.ChangeShapes Go.WideShapes Go.ChangeAt Go.RowKit

/-- what lies in memory while the statement goes on. -/
structure St (p : Par) (A : Option Addr) (W : List (List Int)) (c : Nat) (B : Option Addr) (b : List Int) (d : Nat) (X : Option Addr) (x : List Int) (g : Nat) (w0 wr : World) : Prop where
  P : Row1 wr g 40 (pcells p)
  M : Row1 wr (g + 1) 44 [.slice A W.length c, .slice B b.length d]
  A : GridI wr A W
  B : Cells wr B (b.map (.int .i64))
  X : Cells wr X (x.map (.int .i64))
  b : Below w0.heap.size w0 wr
theorem St.below {p : Par} {A : Option Addr} {W : List (List Int)} {c : Nat} {B : Option Addr} {b : List Int} {d : Nat} {X : Option Addr} {x : List Int} {g : Nat} {w0 wr w' : World} (h : St p A W c B b d X x g w0 wr) (hb : Below wr.heap.size wr w') : St p A W c B b d X x g w0 w' :=
  ⟨h.P.below hb, h.M.below hb, h.A.below hb, h.B.below hb, h.X.below hb, below_next h.b h.b.size hb⟩
theorem secrets_u64 (p : Par) (W : List (List Int)) (b : List Int) : U64s (secretsS p W b) := by
  unfold secretsS
  split
  · intro z hz
    obtain ⟨l, hl, hz⟩ := List.mem_flatten.1 hz
    obtain ⟨i, hi⟩ := List.getElem?_of_mem hl
    rw [List.getElem?_zipWith] at hi
    cases g1 : W[i]? with
    | none => rw [g1] at hi; simp at hi
    | some r =>
      cases g2 : b[i]? with
      | none => rw [g1, g2] at hi; simp at hi
      | some s =>
        rw [g1, g2] at hi
        simp only [Option.some.injEq] at hi
        subst hi
        rw [sec1, nums_snoc] at hz
        exact mNums_u64 _ _ z hz
  · intro z hz; cases hz
theorem dot_u64 (p : Par) (l x : List Int) : U64s (dotS p l x) := by
  unfold dotS
  split
  · intro z hz
    obtain ⟨k, _, rfl⟩ := List.mem_map.1 hz
    exact dsum_u64 _ _ _ _ _
  · intro z hz; cases hz


set_option maxRecDepth 100000 in
set_option maxHeartbeats 4000000 in
theorem fixedScores_c (p : Par) (hp : p.ok) (A B X : Option Addr) (W : List (List Int)) (b x : List Int) (c d e : Nat) (w : World) (hA : GridI w A W) (hB : Cells w B (b.map (.int .i64))) (hX : Cells w X (x.map (.int .i64)))
    (hl : W.length ≤ 9223372036854775807) (hl' : b.length ≤ 9223372036854775807) (hl2 : x.length ≤ 9223372036854775807) (hu : Ints W) (hu' : I64s b) (hu2 : I64s x) :
    Calls Try.prog 6 #[pval p, mval A W.length c B b.length d, .slice X x.length e] w fun e w' => e = .returned (.bool true) ∧ Below w.heap.size w w' := by
  go_enter Try.func6, Try.ntmps6
  go_wp2_with (fail)
  have hb2 := (below_alloc w (.cells (pcells p).toArray 40)).alloc (by simp) (.cells #[.slice A W.length c, .slice B b.length d] 44)
  have S0 : St p A W c B b d X x w.heap.size w ((w.alloc (.cells (pcells p).toArray 40)).alloc (.cells #[.slice A W.length c, .slice B b.length d] 44)) := by
    refine ⟨(row1_new w (pcells p) 40).alloc _, ?_, hA.below hb2, hB.below hb2, hX.below hb2, hb2⟩
    have := row1_new (w.alloc (.cells (pcells p).toArray 40)) [.slice A W.length c, .slice B b.length d] 44
    simpa using this
  refine (large_c _ _ _ _ _ _ _ S0.A hl hl').mono ?_
  rintro e w1 ⟨rfl, hb3⟩
  have S1 := S0.below hb3
  clear S0 hb2 hA hB hX hb3
  obtain ⟨q0, q1, q2, q3, q4, q5, q6, q7, q8, q9, q10, q11⟩ := pars_at S1.P
  have m0 := S1.M.cell (k := 0) rfl
  have m1 := S1.M.cell (k := 1) rfl
  cases hL : largeB W b with
  | true =>
    go_wp2_with (fail)
    refine (awake07_c _).mono ?_
    rintro e w2 ⟨rfl, hb4⟩
    go_wp2
    go_ret
    exact ⟨rfl, (S1.below hb4).b⟩
  | false =>
  cases hX40 : decide ((x.length : Int) > 40) with
  | true =>
    go_wp2_with (fail)
    refine (awake07_c _).mono ?_
    rintro e w2 ⟨rfl, hb4⟩
    go_wp2
    go_ret
    exact ⟨rfl, (S1.below hb4).b⟩
  | false =>
  have hx40 : x.length ≤ 40 := by simp at hX40; omega
  have hb40 : b.length ≤ 40 := by simp [largeB] at hL; omega
  go_wp2_with (fail)
  refine (awake07_c _).mono ?_
  rintro e w2 ⟨rfl, hb4⟩
  have S2 := S1.below hb4
  clear q0 q1 q2 q3 q4 q5 q6 q7 q8 q9 q10 q11 m0 m1
  obtain ⟨q0, q1, q2, q3, q4, q5, q6, q7, q8, q9, q10, q11⟩ := pars_at S2.P
  have m0 := S2.M.cell (k := 0) rfl
  have m1 := S2.M.cell (k := 1) rfl
  clear hb4 S1 hL hX40
  go_wp2_with (fail)
  refine (fscores_c p _ _ _ _ _ _ _ _ _ _ S2.A S2.B S2.X hl (by omega) hl2 hu hu' hu2).mono ?_
  rintro e w3 ⟨v, rfl, hs, hb5⟩
  have S3 := S2.below hb5
  clear q0 q1 q2 q3 q4 q5 q6 q7 q8 q9 q10 q11 m0 m1
  obtain ⟨q0, q1, q2, q3, q4, q5, q6, q7, q8, q9, q10, q11⟩ := pars_at S3.P
  have m0 := S3.M.cell (k := 0) rfl
  have m1 := S3.M.cell (k := 1) rfl
  have hsI := rowI_own hs
  obtain ⟨As, cs, rfl, hsc, hsl⟩ := hsI
  clear hs hb5 S2
  go_wp2_with (fail)
  refine (fmay_c p _ _ _ _ _ _ _ S3.A S3.B hl hl' hu hu').mono ?_
  rintro e w4 ⟨rfl, hb6⟩
  have S4 := S3.below hb6
  clear q0 q1 q2 q3 q4 q5 q6 q7 q8 q9 q10 q11 m0 m1
  obtain ⟨q0, q1, q2, q3, q4, q5, q6, q7, q8, q9, q10, q11⟩ := pars_at S4.P
  have m0 := S4.M.cell (k := 0) rfl
  have m1 := S4.M.cell (k := 1) rfl
  have hsc4 := hsc.below hb6
  clear hb6 S3 hsc
  cases hm : mayB p W b with
  | false =>
    have h0 : scoresS p W b x = [] := by simp [scoresS, hm]
    rw [h0]
    clear hm h0
    go_wp2
    go_ret
    exact ⟨rfl, S4.b⟩
  | true =>
  go_wp2_with (fail)
  refine (query_c p _ _ _ _ S4.X hl2 hu2).mono ?_
  rintro e w5 ⟨rfl, hb7⟩
  have S5 := S4.below hb7
  clear q0 q1 q2 q3 q4 q5 q6 q7 q8 q9 q10 q11 m0 m1
  obtain ⟨q0, q1, q2, q3, q4, q5, q6, q7, q8, q9, q10, q11⟩ := pars_at S5.P
  have m0 := S5.M.cell (k := 0) rfl
  have m1 := S5.M.cell (k := 1) rfl
  have hsc5 := hsc4.below hb7
  clear hb7 S4 hsc4
  by_cases hq : queryE p x = 0
  case neg =>
    have h0 : scoresS p W b x = [] := by simp [scoresS, hm, hq]
    have hq' : (queryE p x != 0) = true := by simpa using hq
    rw [h0]
    clear hm h0 hq
    go_wp2
    go_ret
    exact ⟨rfl, S5.b⟩
  case pos =>
  have hq' : (queryE p x != 0) = false := by simpa using hq
  have HF := hid ((mayB_iff p W b).1 hm)
  have HQ := hid ((query_iff p x).1 hq)
  have hslen := scores_len HF.out HQ.out
  have HSL := hid hslen
  have hK : ((scoresS p W b x).length : Int) = p.K := by have := HF.out.fits.K0; omega
  have hKb : (((scoresS p W b x).length : Int) == p.K) = true := by simp [hK]
  obtain ⟨dm, hdm⟩ : ∃ z, p.D * p.M = z := ⟨_, rfl⟩
  obtain ⟨dmx, hdmx⟩ : ∃ z, dm * p.X = z := ⟨_, rfl⟩
  have b1 : 0 ≤ dm ∧ dm ≤ 4194304 := by
    have h1 := prod_bound p.D p.M 4 1048576 ⟨by have := HF.out.fits.D0; omega, HF.out.fits.D⟩ ⟨by have := HF.out.fits.M0; omega, HF.out.fits.M⟩
    have h2 : 0 ≤ p.D * p.M := Int.mul_nonneg HF.out.fits.D0 HF.out.fits.M0
    omega
  have b2 : 0 ≤ dmx ∧ dmx ≤ 4398046511104 := by
    have h1 := prod_bound dm p.X 4194304 1048576 ⟨by omega, b1.2⟩ ⟨by have := HF.out.fits.X0; omega, HF.out.fits.X⟩
    have h2 : 0 ≤ dm * p.X := Int.mul_nonneg b1.1 HF.out.fits.X0
    omega
  have b3 := b1.1
  have b4 := b1.2
  have b5 := b2.1
  have b6 := b2.2
  have b7 := HF.out.fits.M0
  have b8 := HF.out.fits.M
  have b9 := hp.Q.1
  have b10 := hp.Q.2
  have HSC5 := hid hsc5
  clear hm hq hslen b1 b2 hK hsc5
  by_cases hQ1 : p.Q > 2305843009213693952
  case pos =>
    have hd : decide (p.Q > 2305843009213693952) = true := by simpa using hQ1
    clear hQ1
    go_wp2
    go_ret
    exact ⟨rfl, S5.b⟩
  case neg =>
  by_cases hQ2 : 2 * (dmx + p.M) ≥ p.Q
  case pos =>
    have hd : decide (p.Q > 2305843009213693952) = false := by simpa using hQ1
    have hd2 : decide (2 * (dmx + p.M) ≥ p.Q) = true := by simpa using hQ2
    go_wp2
    go_ret
    exact ⟨rfl, S5.b⟩
  case neg =>
    have hd : decide (p.Q > 2305843009213693952) = false := by simpa using hQ1
    have hd2 : decide (2 * (dmx + p.M) ≥ p.Q) = false := by simpa using hQ2
    have hlim : 2 * (p.D * p.M * p.X + p.M) < p.Q := by rw [hdm, hdmx]; omega
    have HL := hid (⟨hlim, hQ1⟩ : _ ∧ _)
    clear hlim
    go_wp2
    clear hdm hdmx b3 b4 b5 b6 b7 b8 b9 b10 hQ1 hQ2 hd hd2 hq' q0 q1 q2 q3 q4 q5 q6 q7 q8 q9 q10 q11 m0 m1 hKb
    refine Rg.wp_region (l := [_, _, _, _, _, _]) (tail := [_]) (Rg.grows _ 7) [some 65, some 66, some 67, some 68, some 69, some 70, some 8] 101 (by kernel_rfl) (by kernel_rfl) (by kernel_rfl) rfl (Rg.grows_fair _ _) (Rg.keep_drew _) (trivial) ?_
    refine Rg.op_is (pval p) [] rfl rfl (by kernel_rfl) ?_ ?_
    · intro wx hb
      refine Rg.from_nil fun T hT => ?_
      obtain ⟨q0, q1, q2, q3, q4, q5, q6, q7, q8, q9, q10, q11⟩ := pars_at (S5.below hb).P
      go_wp2
      exact hT _ _ rfl (by first | exact Rg.Keep.refl _ | exact below_of_dr hw2 | exact hw2 | exact (Below.refl _ _).alloc (Nat.le_refl _) _) (by first | rfl | exact congrArg _ (by decide))
    refine Rg.op_is (pval p) [] rfl rfl (by kernel_rfl) ?_ ?_
    · intro wx hb
      refine Rg.from_nil fun T hT => ?_
      obtain ⟨q0, q1, q2, q3, q4, q5, q6, q7, q8, q9, q10, q11⟩ := pars_at (S5.below hb).P
      go_wp2
      exact hT _ _ rfl (by first | exact Rg.Keep.refl _ | exact below_of_dr hw2 | exact hw2 | exact (Below.refl _ _).alloc (Nat.le_refl _) _) (by first | rfl | exact congrArg _ (by decide))
    refine Rg.op_is (mval A W.length c B b.length d) [] rfl rfl (by kernel_rfl) ?_ ?_
    · intro wx hb
      refine Rg.from_nil fun T hT => ?_
      have m0 := (S5.below hb).M.cell (k := 0) rfl
      have m1 := (S5.below hb).M.cell (k := 1) rfl
      go_wp2
      exact hT _ _ rfl (by first | exact Rg.Keep.refl _ | exact below_of_dr hw2 | exact hw2 | exact (Below.refl _ _).alloc (Nat.le_refl _) _) (by first | rfl | exact congrArg _ (by decide))
    refine Rg.op_of (fun w' v => RowV w' v (secretsS p W b)) [1, 2] rfl ?_ ?_ rfl (by kernel_rfl) ?_ ?_
    · exact fun w1 w2 v hk h => h.below hk
    · exact fun w1 w2 v hk h => h.below hk
    · intro wx hb
      refine Rg.from_is (some 66) rfl rfl ?_
      refine Rg.from_is (some 67) rfl rfl ?_
      refine Rg.from_nil fun T hT => ?_
      go_wp2_with (fail)
      refine (fsecrets_c p hp _ _ _ _ _ _ _ (S5.below hb).A (S5.below hb).B hl hl' hu hu').mono ?_
      rintro e w6 ⟨v, rfl, hown, hb8⟩
      have hrv := rowV_own hown
      clear hown
      go_wp2
      exact hT _ _ rfl hb8 hrv
    refine' Rg.op_is _ [] rfl rfl (by kernel_rfl) ?_ ?_
    rotate_left
    · intro wx hb
      refine Rg.from_nil fun T hT => ?_
      go_wp2
      refine hT _ _ rfl (by first | exact Rg.Keep.refl _ | exact below_of_dr hw2 | exact hw2 | exact (Below.refl _ _).alloc (Nat.le_refl _) _) ?_
      simp only [Rg.last, List.getElem?_toArray, List.getElem?_cons_succ, List.getElem?_cons_zero, Option.getD_some]
      rfl
    refine Rg.op_of (fun w' v => RowV w' v (dotS p (secretsS p W b) x)) [0, 3, 4] rfl ?_ ?_ rfl (by kernel_rfl) ?_ ?_
    · exact fun w1 w2 v hk h => h.below hk
    · exact fun w1 w2 v hk h => h.below hk
    · intro wx hb
      refine Rg.from_is (some 65) rfl rfl ?_
      refine Rg.from_of (some 68) rfl rfl fun v68 h68 => ?_
      refine Rg.from_is (some 69) rfl rfl ?_
      refine Rg.from_nil fun T hT => ?_
      obtain ⟨A1, c1, rfl, g1, g2⟩ := h68
      go_wp2_with (fail)
      refine (fdot_c p hp A1 X _ x c1 _ _ g1 (S5.below hb).X g2 (by omega) (secrets_u64 p W b) hu2).mono ?_
      rintro e w6 ⟨v, rfl, hown, hb8⟩
      have hrv := rowV_own hown
      clear hown
      go_wp2
      exact hT _ _ rfl hb8 hrv
    refine Rg.walk_nil [0, 1, 2, 3, 4, 5] (by kernel_rfl) ?_
    intro wx hb
    refine Rg.from_is (some 65) rfl rfl ?_
    refine Rg.from_is (some 66) rfl rfl ?_
    refine Rg.from_is (some 67) rfl rfl ?_
    refine Rg.from_of (some 68) rfl rfl fun v68 h68 => ?_
    refine Rg.from_is (some 69) rfl rfl ?_
    refine Rg.from_of (some 70) rfl rfl fun v70 h70 => ?_
    refine Rg.from_nil ?_
    simp only [List.map, Act.put, List.setIfInBounds_toArray, List.set_cons_zero, List.set_cons_succ]
    have S6 := S5.below hb
    have hsc6 := HSC5.out.below hb
    obtain ⟨Al, cl, rfl, hlc, hll⟩ := h70
    have hdl : (dotS p (secretsS p W b) x).length = p.K.toNat := dot_len p _ _ ((fits_iff p).2 HF.out.fits)
    have hK : ((scoresS p W b x).length : Int) = p.K := by have := HSL.out; have := HF.out.fits.K0; omega
    have hdd : (dotS p (secretsS p W b) x).length = (scoresS p W b x).length := by have := HSL.out; omega
    have e1 : (((dotS p (secretsS p W b) x).length : Int) != ((scoresS p W b x).length : Int)) = false := by rw [hdd]; simp
    have e2 : (((scoresS p W b x).length : Int) != p.K) = false := by rw [hK]; simp
    have q7 := S6.P.cell (k := 7) rfl
    have HDL := hid (⟨hdl, hdd⟩ : _ ∧ _)
    have hlaw : ∀ k l s, (dotS p (secretsS p W b) x)[k]? = some l → (scoresS p W b x)[k]? = some s → mInt l p.Q = s := fun k l s h1 h2 => score_law HF.out HQ.out (by have := HL.out.2; omega) HL.out.1 h1 h2
    have HLAW := hid hlaw
    have hdu := dot_u64 p (secretsS p W b) x
    generalize dotS p (secretsS p W b) x = ds at *
    generalize scoresS p W b x = ss at *
    clear hlaw hdl hdd hK hb S5 HSC5 h68
    go_wp2
    clear e1 e2 q7
    go_loopw [9] (fun i wr => ∃ k : Nat, i = .int .i64 k ∧ k ≤ ss.length ∧ Dr wx wr) (fun i _ => ss.length - (intOf i).toNat)
    case atStart => exact ⟨0, rfl, by omega, Dr.refl _⟩
    case round =>
      obtain ⟨k, rfl, hk, hw⟩ := hrel
      rename_i wr
      by_cases hlt : k < ss.length
      · obtain ⟨s, hs⟩ := get_of_lt hlt
        obtain ⟨l, hld⟩ := get_of_lt (l := ds) (show k < ds.length by rw [HDL.out.2]; exact hlt)
        have heq := HLAW.out k l s hld hs
        have hul := hdu.at_ hld
        have hlt2 : k < ds.length := by rw [HDL.out.2]; exact hlt
        obtain ⟨o1, off1, rfl, c1⟩ := (hlc.dr hw).at_map hld
        obtain ⟨o2, off2, rfl, c2⟩ := (hsc6.dr hw).at_map hs
        have q1 := (S6.P.dr hw).cell (k := 1) rfl
        have hne : (mInt l p.Q != s) = false := by rw [heq]; simp
        have HE := hid heq
        clear heq hs hld
        go_wp2
        go_quiet ((go_at_call 29; exact quiet_dr (int_c _ _ hul hp.Q _)))
        go_wp2
        go_roundw
        case rel => exact ⟨k + 1, by go_num, by omega, hw.more _⟩
        case measure => simp [intOf]; omega
      · obtain rfl : k = ss.length := by omega
        go_wp2
        go_ret
        exact ⟨rfl, below_dr S6.b hw⟩

set_option maxRecDepth 100000 in
theorem fixedScores_lifted (os : Os) (started : os.Started) (H : Type) (enc : TypeId × Value → H) :
    ReturnsInHanded {} Try.checked os 6 .any (Rows.fixedScoresSpec.pre6 enc Try.prog Try.f6 Rows.fixedScoresRow.domain false) (Rows.fixedScoresSpec.post enc Try.prog Try.f6 false true false false) := by
  refine returnsInHanded_of_change (C := Try.checked) Try.own started (by kernel_rfl) Try.func6
    (ChangeSpec.witness6 (enc := enc) (C := Try.checked) false ⟨#[], #[pval parSome, .agg #[.slice none 0 0, .slice none 0 0], .slice none 0 0], []⟩ 8 (by kernel_rfl) (by kernel_rfl) (by kernel_rfl) (by kernel_rfl)) ?_
  intro W base args ds gs before hval0 hW hcnd _
  have hval : ∀ (j : Nat) t v, Try.f6.params[j]? = some t → args[j]? = some v → Value.okWide Try.prog W .any base t v := hval0
  have hW' := hW
  obtain ⟨p, q, hA0, hV, rfl, hfz, hnd⟩ := hW
  have hA : DataW.TrodAll enc Try.prog W 0 (fun _ => true) true Try.f6.params.toList args.toList ds p := hA0
  rw [Try.params6] at hA hval
  obtain ⟨v0, v1, v2, d0, d1, d2, p0, p1, p2, rfl, rfl, rfl, h0, h1, h2⟩ := trodAll_three hA
  obtain ⟨rfl, rfl⟩ := trodVars_none hV
  obtain ⟨pr, rfl, hp⟩ := par_at (hval 0 40 v0 rfl rfl) h0
  obtain ⟨A, Wm, c, B, b, e1, rfl, gA, gB, gl, gl', gu, gu'⟩ := model_at (hval 1 44 v1 rfl rfl) h1
  obtain ⟨_, k2⟩ := one_of Try.underlying42 (hval 2 42 v2 rfl rfl) h2
  obtain ⟨X, x, e2, rfl, gX, gl2, gu2⟩ := ints_at k2
  clear hA0 hval0
  refine (fixedScores_c pr hp A B X Wm b x c e1 e2 W gA gB gX gl gl' gl2 gu gu' gu2).mono fun e W' ⟨he, hb⟩ => ?_
  subst he
  exact ⟨_, rfl, post_true hW' hb Try.laidOut (by kernel_rfl) rfl rfl rfl rfl rfl Try.underlying4⟩

theorem fixedScores_holds : Rows.FixedScoresSaid :=
  OpenClaim.holds_of_wide 6 Try.f6 rfl rfl rfl rfl rfl rfl rfl ⟨rfl, rfl, rfl, rfl, rfl⟩ rfl rfl rfl rfl rfl (by kernel_rfl) Try.func6 (by kernel_rfl)
    (of_decide_eq_true (by kernel_rfl)) (by unfold Func.isWrapper; first | (rw [if_pos (by decide +kernel)]; kernel_rfl) | (rw [if_neg (by decide +kernel)]; exact ⟨rfl, rfl⟩))
    (fun os started H enc _ => fixedScores_lifted os started H enc)
#print axioms fixedScores_holds

end Go.Proofs.Ytnmadmcegdpecaa
