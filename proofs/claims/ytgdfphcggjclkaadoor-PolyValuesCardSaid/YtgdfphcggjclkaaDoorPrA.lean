/-
  Powers, and the primes' test: the program's.
-/
import Derived.Test.YtgdfphcggjclkaaDoorInvB
import Derived.Test.YtgdfphcggjclkaaDoorPrP
import Derived.Deep.LoopGhost
namespace Go.Proofs.YtgdfphcggjclkaaDoor
open Go Go.RowKit

theorem and_one (e : Nat) (h : e < 18446744073709551616) : bits BinOp.and IntKind.u64 (e : Int) 1 = ((e % 2 : Nat) : Int) := by
  have := bits_and_u64_nat e 1 h (by omega)
  rw [Nat.and_one_is_mod] at this
  exact this
set_option maxRecDepth 100000 in
set_option maxHeartbeats 1000000 in
theorem pow_c (a : Int) (e : Nat) (m : Int) (ha : U64 a) (he : e < 18446744073709551616) (hm : U64 m) (w : World) :
    Calls Tryd.prog 69 #[.int .u64 a, .int .u64 (e : Int), .int .u64 m] w fun r w' => r = .returned (.int .u64 (powV a e m)) ∧ Dr w w' := by
  have hm' := hm
  obtain ⟨m1, m2⟩ := hm
  by_cases h : okm m = true
  · have h0 := okm_pos h
    have h1 := okm_le h
    obtain ⟨a1, a2⟩ := ha
    have HR := hid (show powV a e m = powF m 64 (1 % m) a e by unfold powV; rw [if_pos h])
    have h1m := Int.emod_nonneg 1 (b := m) (by omega)
    have h1l := Int.emod_lt_of_pos 1 h0
    generalize powV a e m = R at *
    have HM := hid (fun (x y : Int) (hx : U64 x) (hy : U64 y) (w' : World) => mul_c x y m hx hy hm' w')
    go_enter Tryd.func69, Tryd.ntmps69
    go_wp2_with (go_at_call 61; refine (may_c _ hm' _).mono ?_; rintro e w' ⟨rfl, rfl⟩; rw [h])
    go_wp2_with (fail)
    go_loopw [0, 1, 7] (fun va ve vo wr => ∃ (a' o : Int) (e' f : Nat), va = .int .u64 a' ∧ ve = .int .u64 (e' : Int) ∧ vo = .int .u64 o ∧ 0 ≤ a' ∧ a' < 18446744073709551616 ∧ 0 ≤ o ∧ o < 18446744073709551616 ∧ e' < 18446744073709551616 ∧ Hid (e' < 2 ^ f ∧ powF m f o a' e' = R) ∧ Dr w wr) (fun _ e _ _ => (intOf e).toNat)
    case atStart => exact ⟨a, 1 % m, e, 64, rfl, rfl, rfl, a1, a2, h1m, by omega, he, hid ⟨he, HR.out.symm⟩, Dr.refl _⟩
    case round =>
      obtain ⟨a', o, e', f, rfl, rfl, rfl, x1, x2, y1, y2, he', HF, hd⟩ := hrel
      by_cases hz : e' = 0
      · subst hz
        have HZ := hid (show o = R by rw [← HF.out.2, powF_done])
        go_wp2
        go_ret
        exact ⟨by rw [HZ.out]; rfl, hd⟩
      · obtain ⟨f', rfl⟩ : ∃ f', f = f' + 1 := ⟨f - 1, by
          have := HF.out.1
          cases f with
          | zero => omega
          | succ f => omega⟩
        have hpos : (0 : Int) < (e' : Int) := by omega
        have HA := hid (HM.out a' a' ⟨x1, x2⟩ ⟨x1, x2⟩)
        have hq1 := (mMul_u64 a' a' m).1
        have hq2 := (mMul_u64 a' a' m).2
        by_cases ho : e' % 2 = 1
        · have HN := hid (show e' / 2 < 2 ^ f' ∧ powF m f' (mMul o a' m) (mMul a' a' m) (e' / 2) = R by
            refine ⟨?_, ?_⟩
            · have := HF.out.1
              rw [Nat.pow_succ] at this
              omega
            · rw [← HF.out.2, powF_odd ho])
          have HO := hid (HM.out o a' ⟨y1, y2⟩ ⟨x1, x2⟩)
          have hb : bits BinOp.and IntKind.u64 (e' : Int) 1 = 1 := by rw [and_one e' he', ho]; rfl
          have hr1 := (mMul_u64 o a' m).1
          have hr2 := (mMul_u64 o a' m).2
          generalize mMul o a' m = o2 at *
          generalize mMul a' a' m = a2' at *
          clear HF
          go_wp2_with (fail)
          refine (HO.out _).mono ?_
          rintro e w2 ⟨rfl, hd2⟩
          go_wp2_with (fail)
          refine (HA.out _).mono ?_
          rintro e w3 ⟨rfl, hd3⟩
          go_wp2
          go_roundw
          case rel => exact ⟨a2', o2, e' / 2, f', rfl, by congr 1, rfl, hq1, hq2, hr1, hr2, by omega, HN, (hd.trans hd2).trans hd3⟩
          case measure => simp [intOf]; omega
        · have HN := hid (show e' / 2 < 2 ^ f' ∧ powF m f' o (mMul a' a' m) (e' / 2) = R by
            refine ⟨?_, ?_⟩
            · have := HF.out.1
              rw [Nat.pow_succ] at this
              omega
            · rw [← HF.out.2, powF_even hz (by omega)])
          have hb : bits BinOp.and IntKind.u64 (e' : Int) 1 = 0 := by rw [and_one e' he', show e' % 2 = 0 by omega]; rfl
          generalize mMul a' a' m = a2' at *
          clear HF
          go_wp2_with (fail)
          refine (HA.out _).mono ?_
          rintro e w3 ⟨rfl, hd3⟩
          go_wp2
          go_roundw
          case rel => exact ⟨a2', o, e' / 2, f', rfl, by congr 1, rfl, hq1, hq2, y1, y2, by omega, HN, hd.trans hd3⟩
          case measure => simp [intOf]; omega
  · have h' : okm m = false := by simpa using h
    go_enter Tryd.func69, Tryd.ntmps69
    go_wp2_with (go_at_call 61; refine (may_c _ hm' _).mono ?_; rintro e w' ⟨rfl, rfl⟩; rw [h'])
    go_wp2
    go_ret
    exact ⟨by unfold powV; rw [h']; rfl, Dr.refl _⟩
/-- the tables that the test looks into. -/
structure Tabs (w : World) : Prop where
  tz : TabAt 1 Lib.deBruijn64tab w
  tr : ∀ k z, triedL[k]? = some z → w.cell? ⟨0, k, none⟩ = some (.int .u64 z)
theorem Tabs.keep {w w' : World} (h : Tabs w) (hk : ∀ p : Addr, p.block < w.heap.size → w'.cell? p = w.cell? p) : Tabs w' :=
  ⟨fun j hj => (hk _ (lt_of_cell (h.tz j hj))).trans (h.tz j hj), fun k z hz => (hk _ (lt_of_cell (h.tr k z hz))).trans (h.tr k z hz)⟩
theorem Tabs.below {w w' : World} (h : Tabs w) (hb : Below w.heap.size w w') : Tabs w' := h.keep fun _ hp => hb.cell hp
theorem Tabs.dr {w w' : World} (h : Tabs w) (hd : Dr w w') : Tabs w' := by
  obtain ⟨n, rfl⟩ := hd
  exact ⟨fun j hj => h.tz j hj, h.tr⟩
theorem ctz_lt {x : Nat} (h0 : x ≠ 0) (h : x < 18446744073709551616) : Lib.ctz 64 x < 64 := (Lib.lowest_bit 64 x h0 h).2
theorem run_tried (w : World) {k : Nat} {z : Int} (h : triedL[k]? = some z) : (Instr.index 76 (.agg #[.int .u64 2, .int .u64 3, .int .u64 5, .int .u64 7, .int .u64 11, .int .u64 13, .int .u64 17, .int .u64 19, .int .u64 23, .int .u64 29, .int .u64 31, .int .u64 37]) (.int .i64 (k : Int))).run Tryd.prog w = .ok (.int .u64 z) w := by
  have hk : k < 12 := (List.getElem?_eq_some_iff.1 h).1
  have e0 : (Instr.index 76 (.agg #[.int .u64 2, .int .u64 3, .int .u64 5, .int .u64 7, .int .u64 11, .int .u64 13, .int .u64 17, .int .u64 19, .int .u64 23, .int .u64 29, .int .u64 31, .int .u64 37]) (.int .i64 ((0 : Nat) : Int))).run Tryd.prog w = .ok (.int .u64 2) w := by kernel_rfl
  have e1 : (Instr.index 76 (.agg #[.int .u64 2, .int .u64 3, .int .u64 5, .int .u64 7, .int .u64 11, .int .u64 13, .int .u64 17, .int .u64 19, .int .u64 23, .int .u64 29, .int .u64 31, .int .u64 37]) (.int .i64 ((1 : Nat) : Int))).run Tryd.prog w = .ok (.int .u64 3) w := by kernel_rfl
  have e2 : (Instr.index 76 (.agg #[.int .u64 2, .int .u64 3, .int .u64 5, .int .u64 7, .int .u64 11, .int .u64 13, .int .u64 17, .int .u64 19, .int .u64 23, .int .u64 29, .int .u64 31, .int .u64 37]) (.int .i64 ((2 : Nat) : Int))).run Tryd.prog w = .ok (.int .u64 5) w := by kernel_rfl
  have e3 : (Instr.index 76 (.agg #[.int .u64 2, .int .u64 3, .int .u64 5, .int .u64 7, .int .u64 11, .int .u64 13, .int .u64 17, .int .u64 19, .int .u64 23, .int .u64 29, .int .u64 31, .int .u64 37]) (.int .i64 ((3 : Nat) : Int))).run Tryd.prog w = .ok (.int .u64 7) w := by kernel_rfl
  have e4 : (Instr.index 76 (.agg #[.int .u64 2, .int .u64 3, .int .u64 5, .int .u64 7, .int .u64 11, .int .u64 13, .int .u64 17, .int .u64 19, .int .u64 23, .int .u64 29, .int .u64 31, .int .u64 37]) (.int .i64 ((4 : Nat) : Int))).run Tryd.prog w = .ok (.int .u64 11) w := by kernel_rfl
  have e5 : (Instr.index 76 (.agg #[.int .u64 2, .int .u64 3, .int .u64 5, .int .u64 7, .int .u64 11, .int .u64 13, .int .u64 17, .int .u64 19, .int .u64 23, .int .u64 29, .int .u64 31, .int .u64 37]) (.int .i64 ((5 : Nat) : Int))).run Tryd.prog w = .ok (.int .u64 13) w := by kernel_rfl
  have e6 : (Instr.index 76 (.agg #[.int .u64 2, .int .u64 3, .int .u64 5, .int .u64 7, .int .u64 11, .int .u64 13, .int .u64 17, .int .u64 19, .int .u64 23, .int .u64 29, .int .u64 31, .int .u64 37]) (.int .i64 ((6 : Nat) : Int))).run Tryd.prog w = .ok (.int .u64 17) w := by kernel_rfl
  have e7 : (Instr.index 76 (.agg #[.int .u64 2, .int .u64 3, .int .u64 5, .int .u64 7, .int .u64 11, .int .u64 13, .int .u64 17, .int .u64 19, .int .u64 23, .int .u64 29, .int .u64 31, .int .u64 37]) (.int .i64 ((7 : Nat) : Int))).run Tryd.prog w = .ok (.int .u64 19) w := by kernel_rfl
  have e8 : (Instr.index 76 (.agg #[.int .u64 2, .int .u64 3, .int .u64 5, .int .u64 7, .int .u64 11, .int .u64 13, .int .u64 17, .int .u64 19, .int .u64 23, .int .u64 29, .int .u64 31, .int .u64 37]) (.int .i64 ((8 : Nat) : Int))).run Tryd.prog w = .ok (.int .u64 23) w := by kernel_rfl
  have e9 : (Instr.index 76 (.agg #[.int .u64 2, .int .u64 3, .int .u64 5, .int .u64 7, .int .u64 11, .int .u64 13, .int .u64 17, .int .u64 19, .int .u64 23, .int .u64 29, .int .u64 31, .int .u64 37]) (.int .i64 ((9 : Nat) : Int))).run Tryd.prog w = .ok (.int .u64 29) w := by kernel_rfl
  have e10 : (Instr.index 76 (.agg #[.int .u64 2, .int .u64 3, .int .u64 5, .int .u64 7, .int .u64 11, .int .u64 13, .int .u64 17, .int .u64 19, .int .u64 23, .int .u64 29, .int .u64 31, .int .u64 37]) (.int .i64 ((10 : Nat) : Int))).run Tryd.prog w = .ok (.int .u64 31) w := by kernel_rfl
  have e11 : (Instr.index 76 (.agg #[.int .u64 2, .int .u64 3, .int .u64 5, .int .u64 7, .int .u64 11, .int .u64 13, .int .u64 17, .int .u64 19, .int .u64 23, .int .u64 29, .int .u64 31, .int .u64 37]) (.int .i64 ((11 : Nat) : Int))).run Tryd.prog w = .ok (.int .u64 37) w := by kernel_rfl
  have : k = 0 ∨ k = 1 ∨ k = 2 ∨ k = 3 ∨ k = 4 ∨ k = 5 ∨ k = 6 ∨ k = 7 ∨ k = 8 ∨ k = 9 ∨ k = 10 ∨ k = 11 := by omega
  rcases this with rfl | rfl | rfl | rfl | rfl | rfl | rfl | rfl | rfl | rfl | rfl | rfl
  · rw [← Option.some.inj h]; exact e0
  · rw [← Option.some.inj h]; exact e1
  · rw [← Option.some.inj h]; exact e2
  · rw [← Option.some.inj h]; exact e3
  · rw [← Option.some.inj h]; exact e4
  · rw [← Option.some.inj h]; exact e5
  · rw [← Option.some.inj h]; exact e6
  · rw [← Option.some.inj h]; exact e7
  · rw [← Option.some.inj h]; exact e8
  · rw [← Option.some.inj h]; exact e9
  · rw [← Option.some.inj h]; exact e10
  · rw [← Option.some.inj h]; exact e11
theorem tried_ge {z : Int} (h : z ∈ triedL) : 2 ≤ z ∧ z ≤ 37 := by
  simp only [triedL, List.mem_cons, List.not_mem_nil, or_false] at h
  omega
set_option maxRecDepth 100000 in
set_option maxHeartbeats 2000000 in
theorem prime_c (n : Int) (hn : U64 n) (w : World) (hT : Tabs w) :
    Calls Tryd.prog 34 #[.int .u64 n] w fun r w' => r = .returned (.bool (primeV n)) ∧ Dr w w' := by
  obtain ⟨n1, n2⟩ := hn
  by_cases hlo : n < 2
  · have HR := hid (show primeV n = false by unfold primeV; rw [if_pos (.inl hlo)])
    have hd1 : decide (n < 2) = true := by simpa using hlo
    generalize primeV n = R at *
    go_enter Tryd.func34, Tryd.ntmps34
    go_wp2
    go_step3
    go_wp2
    try rw [Exit.noGoto_ret]
    go_ret
    exact ⟨by rw [HR.out]; rfl, Dr.refl _⟩
  · have hd1 : decide (n < 2) = false := by simpa using hlo
    by_cases hhi : 2305843009213693952 < n
    · have HR := hid (show primeV n = false by unfold primeV; rw [if_pos (.inr hhi)])
      have hd2 : decide (2305843009213693952 < n) = true := by simpa using hhi
      generalize primeV n = R at *
      go_enter Tryd.func34, Tryd.ntmps34
      go_wp2
      go_step3
      go_wp2
      try rw [Exit.noGoto_ret]
      go_ret
      exact ⟨by rw [HR.out]; rfl, Dr.refl _⟩
    · have hd2 : decide (2305843009213693952 < n) = false := by simpa using hhi
      obtain ⟨N, hN⟩ : ∃ N : Nat, n = (N : Int) + 1 := ⟨(n - 1).toNat, by omega⟩
      have hN1 : (n - 1).toNat = N := by omega
      have htw := ctz_lt (x := N) (by omega) (by omega)
      have HZ := hid (bits_TrailingZeros64 N (by omega) w fun _ => hT.tz)
      have HR := hid (show primeV n = mrAll n (Lib.ctz 64 N) (triedL.drop 0) by unfold primeV; rw [if_neg (by omega), hN1]; rfl)
      have HT := hid hT
      have HOKM := hid (okm_of (m := n) (by omega) (by omega))
      generalize Lib.ctz 64 N = tw at *
      generalize primeV n = R at *
      have hnn : n - 1 = (N : Int) := by omega
      clear hT hN hN1
      have c0 := HT.out.tr 0 _ rfl
      have c1 := HT.out.tr 1 _ rfl
      have c2 := HT.out.tr 2 _ rfl
      have c3 := HT.out.tr 3 _ rfl
      have c4 := HT.out.tr 4 _ rfl
      have c5 := HT.out.tr 5 _ rfl
      have c6 := HT.out.tr 6 _ rfl
      have c7 := HT.out.tr 7 _ rfl
      have c8 := HT.out.tr 8 _ rfl
      have c9 := HT.out.tr 9 _ rfl
      have ca := HT.out.tr 10 _ rfl
      have cb := HT.out.tr 11 _ rfl
      go_enter Tryd.func34, Tryd.ntmps34
      go_wp2
      go_step3
      go_wp2_with (fail)
      refine HZ.out.mono ?_
      rintro e wo ⟨rfl, hw⟩
      subst hw
      go_wp2
      go_step3
      go_wp2
      go_loopg [17] 12 (fun gg s17 wr => ∃ k : Nat, k + gg = 12 ∧ s17 = .int .i64 (k : Int) ∧ Hid (mrAll n tw (triedL.drop k) = R) ∧ Dr wo wr)
      case atStart => exact ⟨0, by omega, rfl, hid HR.out.symm, Dr.refl _⟩
      case round =>
        obtain ⟨k, hkg, rfl, HI, hd⟩ := hrel
        cases gk with
        | zero =>
          have HR2 := hid (show R = true by
            have := HI.out
            rw [show k = 12 by omega] at this
            rw [← this]; rfl)
          go_wp2
          try rw [Exit.noGoto_ret]
          go_ret
          exact ⟨by rw [HR2.out]; rfl, hd⟩
        | succ gg =>
          obtain ⟨z, hz⟩ : ∃ z, triedL[k]? = some z := get_of_lt (l := triedL) (show k < 12 by omega)
          have hix := run_tried wr hz
          obtain ⟨hz2, hz3⟩ := tried_ge (List.mem_of_getElem? hz)
          have HD := hid (show mrAll n tw (triedL.drop k) = match mrOne n z tw with | some b => b | none => mrAll n tw (triedL.drop (k + 1)) by
            have h1 := (List.getElem?_eq_some_iff.1 hz).1
            rw [List.drop_eq_getElem_cons h1, (List.getElem?_eq_some_iff.1 hz).2, mrAll]; rfl)
          have hk12 : (k : Int) < 12 := by omega
          clear hz
          by_cases hdiv : n % z = 0
          · have HV := hid (show R = decide (n = z) by rw [← HI.out, HD.out]; unfold mrOne; rw [if_pos hdiv])
            by_cases heq : n = z
            · have he : (n == z) = true := by simpa using heq
              have HV2 := hid (show R = true by rw [HV.out]; exact decide_eq_true heq)
              clear heq
              go_wp2
              try rw [Exit.noGoto_ret]
              go_ret
              exact ⟨by rw [HV2.out]; rfl, hd⟩
            · have he : (n == z) = false := by simpa using heq
              have HV2 := hid (show R = false by rw [HV.out]; exact decide_eq_false heq)
              clear heq
              go_wp2
              try rw [Exit.noGoto_ret]
              go_ret
              exact ⟨by rw [HV2.out]; rfl, hd⟩
          · have hnd : (n % z == 0) = false := by simpa using hdiv
            have HND := hid hdiv
            clear hdiv
            have HP := hid (pow_c z (N / 2 ^ tw) n ⟨by omega, by omega⟩ (by have := Nat.div_le_self N (2 ^ tw); omega) ⟨by omega, by omega⟩ wr)
            have HO := hid (show mrOne n z tw = if powV z (N / 2 ^ tw) n = 1 then none else if mrT n tw (powV z (N / 2 ^ tw) n) then none else some false by
              unfold mrOne
              rw [if_neg HND.out, show (n - 1).toNat = N by omega])
            have hp1 := (powV_u64 z (N / 2 ^ tw) n).1
            have hp2 := (powV_u64 z (N / 2 ^ tw) n).2
            generalize powV z (N / 2 ^ tw) n = x0 at *
            go_wp2_with (fail)
            refine HP.out.mono ?_
            rintro e w2 ⟨rfl, hd2⟩
            have hd3 := hd.trans hd2
            clear HP hd hd2 HND
            by_cases hx1 : x0 = 1
            · have he : (x0 == 1) = true := by simpa using hx1
              have HN := hid (show mrAll n tw (triedL.drop (k + 1)) = R by
                rw [← HI.out, HD.out, HO.out, if_pos hx1])
              clear hx1 HI HD HO
              go_wp2
              go_roundg gg
              case measure => omega
              case rel => exact ⟨k + 1, by omega, by first | rfl | simp, HN, hd3⟩
            · have he : (x0 == 1) = false := by simpa using hx1
              have HX := hid hx1
              clear hx1
              obtain ⟨B, hB⟩ : ∃ B, mrT n tw x0 = B := ⟨_, rfl⟩
              have HB := hid (show mrT n (tw - 0) x0 = B from hB)
              rw [hB, if_neg HX.out] at HO
              clear hB
              go_wp2
              go_loopg [37, 6] tw (fun g2 s37 s6 wy => ∃ (j : Nat) (x : Int), j + g2 = tw ∧ s37 = .int .i64 (j : Int) ∧ s6 = .int .u64 x ∧ 0 ≤ x ∧ x < 18446744073709551616 ∧ Hid (mrT n (tw - j) x = B) ∧ Dr wo wy)
              case atStart => exact ⟨0, x0, by omega, rfl, rfl, hp1, hp2, HB, hd3⟩
              case round =>
                obtain ⟨j, x, hjg, rfl, rfl, hx1, hx2, HJ, hdj⟩ := hrel
                cases gk with
                | zero =>
                  have HBF := hid (show R = false by
                    have h1 := HJ.out
                    rw [show tw - j = 0 by omega] at h1
                    have h2 : B = false := h1.symm
                    rw [← HI.out, HD.out, HO.out, h2]
                    rfl)
                  have hjt : ¬ ((j : Int) < (tw : Int)) := by omega
                  clear HI HD HO HB HX
                  go_wp2
                  try rw [Exit.noGoto_ret]
                  go_ret
                  exact ⟨by rw [HBF.out]; rfl, hdj⟩
                | succ g2 =>
                  have hjt : (j : Int) < (tw : Int) := by omega
                  have hsub : tw - j = (tw - (j + 1)) + 1 := by omega
                  have HM := hid (mul_c x x n ⟨hx1, hx2⟩ ⟨hx1, hx2⟩ ⟨by omega, by omega⟩ wr)
                  have hq1 := (mMul_u64 x x n).1
                  have hq2 := (mMul_u64 x x n).2
                  by_cases hxn : x = (N : Int)
                  · have he : (x == (N : Int)) = true := by simpa using hxn
                    have HN := hid (show mrAll n tw (triedL.drop (k + 1)) = R by
                      have h1 := HJ.out
                      rw [hsub, mrT, if_pos (by omega)] at h1
                      rw [← HI.out, HD.out, HO.out, ← h1]
                      rfl)
                    clear hxn HI HD HO HB HX HJ
                    go_wp2
                    go_roundg gg
                    case measure => omega
                    case rel => exact ⟨k + 1, by omega, by first | rfl | simp, HN, hdj⟩
                  · have he : (x == (N : Int)) = false := by simpa using hxn
                    have HN := hid (show mrT n (tw - (j + 1)) (mMul x x n) = B by
                      have h1 := HJ.out
                      rw [hsub, mrT, if_neg (by omega)] at h1
                      exact h1)
                    generalize mMul x x n = x2 at *
                    clear hxn HB HJ
                    go_wp2_with (fail)
                    refine HM.out.mono ?_
                    rintro e w4 ⟨rfl, hd4⟩
                    go_wp2
                    go_roundg g2
                    case measure => omega
                    case rel => exact ⟨j + 1, x2, by omega, by first | rfl | simp, rfl, hq1, hq2, HN, hdj.trans hd4⟩
end Go.Proofs.YtgdfphcggjclkaaDoor
