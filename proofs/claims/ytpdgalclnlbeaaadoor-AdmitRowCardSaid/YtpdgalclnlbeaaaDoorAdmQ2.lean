/-
  Parts of these texts that the statement needs: PrA, RaP, Tab.
-/
import Derived.Test.YtpdgalclnlbeaaaDoorAdmQ1
import Derived.Test.YtpdgalclnlbeaaaDoorPrP
import Derived.Deep.LoopGhost
import Derived.Test.YtpdgalclnlbeaaaDoorPlain
import Derived.Maps.RangeWalk
import Derived.Maps.OwnOps
import Derived.Maps.OwnSet
import Derived.Maps.Views
import Derived.Maps.Keyed

section
namespace Go.Proofs.YtpdgalclnlbeaaaDoor
open Go Go.RowKit
theorem and_one (e : Nat) (h : e < 18446744073709551616) : bits BinOp.and IntKind.u64 (e : Int) 1 = ((e % 2 : Nat) : Int) := by
  have := bits_and_u64_nat e 1 h (by omega)
  rw [Nat.and_one_is_mod] at this
  exact this
set_option maxRecDepth 100000 in
set_option maxHeartbeats 1000000 in
theorem pow_c (a : Int) (e : Nat) (m : Int) (ha : U64 a) (he : e < 18446744073709551616) (hm : U64 m) (w : World) :
    Calls Tryd.prog 32 #[.int .u64 a, .int .u64 (e : Int), .int .u64 m] w fun r w' => r = .returned (.int .u64 (powV a e m)) ∧ Dr w w' := by
  have hm' := hm
  obtain ⟨m1, m2⟩ := hm
  by_cases h : okm m = true
  · have h0 := okm_pos h
    have h1 := okm_le h
    obtain ⟨a1, a2⟩ := ha
    have HR := hid (show powV a e m = powF m 64 (1 % m) a e by unfold powV; rw [if_pos h])
    have h1m := Int.emod_nonneg 1 (b := m) (by omega)
    have h1l := Int.emod_lt_of_pos 1 h0
    generalize powV a e m = R at *
    have HM := hid (fun (x y : Int) (hx : U64 x) (hy : U64 y) (w' : World) => mul_c x y m hx hy hm' w')
    go_enter Tryd.func32, Tryd.ntmps32
    go_wp2_with (go_at_call 44; refine (may_c _ hm' _).mono ?_; rintro e w' ⟨rfl, rfl⟩; rw [h])
    go_wp2_with (fail)
    go_loopw [0, 1, 7] (fun va ve vo wr => ∃ (a' o : Int) (e' f : Nat), va = .int .u64 a' ∧ ve = .int .u64 (e' : Int) ∧ vo = .int .u64 o ∧ 0 ≤ a' ∧ a' < 18446744073709551616 ∧ 0 ≤ o ∧ o < 18446744073709551616 ∧ e' < 18446744073709551616 ∧ Hid (e' < 2 ^ f ∧ powF m f o a' e' = R) ∧ Dr w wr) (fun _ e _ _ => (intOf e).toNat)
    case atStart => exact ⟨a, 1 % m, e, 64, rfl, rfl, rfl, a1, a2, h1m, by omega, he, hid ⟨he, HR.out.symm⟩, Dr.refl _⟩
    case round =>
      obtain ⟨a', o, e', f, rfl, rfl, rfl, x1, x2, y1, y2, he', HF, hd⟩ := hrel
      by_cases hz : e' = 0
      · subst hz
        have HZ := hid (show o = R by rw [← HF.out.2, powF_done])
        go_wp2
        go_ret
        exact ⟨by rw [HZ.out]; rfl, hd⟩
      · obtain ⟨f', rfl⟩ : ∃ f', f = f' + 1 := ⟨f - 1, by
          have := HF.out.1
          cases f with
          | zero => omega
          | succ f => omega⟩
        have hpos : (0 : Int) < (e' : Int) := by omega
        have HA := hid (HM.out a' a' ⟨x1, x2⟩ ⟨x1, x2⟩)
        have hq1 := (mMul_u64 a' a' m).1
        have hq2 := (mMul_u64 a' a' m).2
        by_cases ho : e' % 2 = 1
        · have HN := hid (show e' / 2 < 2 ^ f' ∧ powF m f' (mMul o a' m) (mMul a' a' m) (e' / 2) = R by
            refine ⟨?_, ?_⟩
            · have := HF.out.1
              rw [Nat.pow_succ] at this
              omega
            · rw [← HF.out.2, powF_odd ho])
          have HO := hid (HM.out o a' ⟨y1, y2⟩ ⟨x1, x2⟩)
          have hb : bits BinOp.and IntKind.u64 (e' : Int) 1 = 1 := by rw [and_one e' he', ho]; rfl
          have hr1 := (mMul_u64 o a' m).1
          have hr2 := (mMul_u64 o a' m).2
          generalize mMul o a' m = o2 at *
          generalize mMul a' a' m = a2' at *
          clear HF
          go_wp2_with (fail)
          refine (HO.out _).mono ?_
          rintro e w2 ⟨rfl, hd2⟩
          go_wp2_with (fail)
          refine (HA.out _).mono ?_
          rintro e w3 ⟨rfl, hd3⟩
          go_wp2
          go_roundw
          case rel => exact ⟨a2', o2, e' / 2, f', rfl, by congr 1, rfl, hq1, hq2, hr1, hr2, by omega, HN, (hd.trans hd2).trans hd3⟩
          case measure => simp [intOf]; omega
        · have HN := hid (show e' / 2 < 2 ^ f' ∧ powF m f' o (mMul a' a' m) (e' / 2) = R by
            refine ⟨?_, ?_⟩
            · have := HF.out.1
              rw [Nat.pow_succ] at this
              omega
            · rw [← HF.out.2, powF_even hz (by omega)])
          have hb : bits BinOp.and IntKind.u64 (e' : Int) 1 = 0 := by rw [and_one e' he', show e' % 2 = 0 by omega]; rfl
          generalize mMul a' a' m = a2' at *
          clear HF
          go_wp2_with (fail)
          refine (HA.out _).mono ?_
          rintro e w3 ⟨rfl, hd3⟩
          go_wp2
          go_roundw
          case rel => exact ⟨a2', o, e' / 2, f', rfl, by congr 1, rfl, hq1, hq2, y1, y2, by omega, HN, hd.trans hd3⟩
          case measure => simp [intOf]; omega
  · have h' : okm m = false := by simpa using h
    go_enter Tryd.func32, Tryd.ntmps32
    go_wp2_with (go_at_call 44; refine (may_c _ hm' _).mono ?_; rintro e w' ⟨rfl, rfl⟩; rw [h'])
    go_wp2
    go_ret
    exact ⟨by unfold powV; rw [h']; rfl, Dr.refl _⟩
/-- the tables that the test looks into. -/
structure Tabs (w : World) : Prop where
  tz : TabAt 1 Lib.deBruijn64tab w
  tr : ∀ k z, triedL[k]? = some z → w.cell? ⟨0, k, none⟩ = some (.int .u64 z)
theorem Tabs.keep {w w' : World} (h : Tabs w) (hk : ∀ p : Addr, p.block < w.heap.size → w'.cell? p = w.cell? p) : Tabs w' :=
  ⟨fun j hj => (hk _ (lt_of_cell (h.tz j hj))).trans (h.tz j hj), fun k z hz => (hk _ (lt_of_cell (h.tr k z hz))).trans (h.tr k z hz)⟩
theorem Tabs.below {w w' : World} (h : Tabs w) (hb : Below w.heap.size w w') : Tabs w' := h.keep fun _ hp => hb.cell hp
theorem Tabs.dr {w w' : World} (h : Tabs w) (hd : Dr w w') : Tabs w' := by
  obtain ⟨n, rfl⟩ := hd
  exact ⟨fun j hj => h.tz j hj, h.tr⟩
theorem ctz_lt {x : Nat} (h0 : x ≠ 0) (h : x < 18446744073709551616) : Lib.ctz 64 x < 64 := (Lib.lowest_bit 64 x h0 h).2
theorem run_tried (w : World) {k : Nat} {z : Int} (h : triedL[k]? = some z) : (Instr.index 59 (.agg #[.int .u64 2, .int .u64 3, .int .u64 5, .int .u64 7, .int .u64 11, .int .u64 13, .int .u64 17, .int .u64 19, .int .u64 23, .int .u64 29, .int .u64 31, .int .u64 37]) (.int .i64 (k : Int))).run Tryd.prog w = .ok (.int .u64 z) w := by
  have hk : k < 12 := (List.getElem?_eq_some_iff.1 h).1
  have e0 : (Instr.index 59 (.agg #[.int .u64 2, .int .u64 3, .int .u64 5, .int .u64 7, .int .u64 11, .int .u64 13, .int .u64 17, .int .u64 19, .int .u64 23, .int .u64 29, .int .u64 31, .int .u64 37]) (.int .i64 ((0 : Nat) : Int))).run Tryd.prog w = .ok (.int .u64 2) w := by kernel_rfl
  have e1 : (Instr.index 59 (.agg #[.int .u64 2, .int .u64 3, .int .u64 5, .int .u64 7, .int .u64 11, .int .u64 13, .int .u64 17, .int .u64 19, .int .u64 23, .int .u64 29, .int .u64 31, .int .u64 37]) (.int .i64 ((1 : Nat) : Int))).run Tryd.prog w = .ok (.int .u64 3) w := by kernel_rfl
  have e2 : (Instr.index 59 (.agg #[.int .u64 2, .int .u64 3, .int .u64 5, .int .u64 7, .int .u64 11, .int .u64 13, .int .u64 17, .int .u64 19, .int .u64 23, .int .u64 29, .int .u64 31, .int .u64 37]) (.int .i64 ((2 : Nat) : Int))).run Tryd.prog w = .ok (.int .u64 5) w := by kernel_rfl
  have e3 : (Instr.index 59 (.agg #[.int .u64 2, .int .u64 3, .int .u64 5, .int .u64 7, .int .u64 11, .int .u64 13, .int .u64 17, .int .u64 19, .int .u64 23, .int .u64 29, .int .u64 31, .int .u64 37]) (.int .i64 ((3 : Nat) : Int))).run Tryd.prog w = .ok (.int .u64 7) w := by kernel_rfl
  have e4 : (Instr.index 59 (.agg #[.int .u64 2, .int .u64 3, .int .u64 5, .int .u64 7, .int .u64 11, .int .u64 13, .int .u64 17, .int .u64 19, .int .u64 23, .int .u64 29, .int .u64 31, .int .u64 37]) (.int .i64 ((4 : Nat) : Int))).run Tryd.prog w = .ok (.int .u64 11) w := by kernel_rfl
  have e5 : (Instr.index 59 (.agg #[.int .u64 2, .int .u64 3, .int .u64 5, .int .u64 7, .int .u64 11, .int .u64 13, .int .u64 17, .int .u64 19, .int .u64 23, .int .u64 29, .int .u64 31, .int .u64 37]) (.int .i64 ((5 : Nat) : Int))).run Tryd.prog w = .ok (.int .u64 13) w := by kernel_rfl
  have e6 : (Instr.index 59 (.agg #[.int .u64 2, .int .u64 3, .int .u64 5, .int .u64 7, .int .u64 11, .int .u64 13, .int .u64 17, .int .u64 19, .int .u64 23, .int .u64 29, .int .u64 31, .int .u64 37]) (.int .i64 ((6 : Nat) : Int))).run Tryd.prog w = .ok (.int .u64 17) w := by kernel_rfl
  have e7 : (Instr.index 59 (.agg #[.int .u64 2, .int .u64 3, .int .u64 5, .int .u64 7, .int .u64 11, .int .u64 13, .int .u64 17, .int .u64 19, .int .u64 23, .int .u64 29, .int .u64 31, .int .u64 37]) (.int .i64 ((7 : Nat) : Int))).run Tryd.prog w = .ok (.int .u64 19) w := by kernel_rfl
  have e8 : (Instr.index 59 (.agg #[.int .u64 2, .int .u64 3, .int .u64 5, .int .u64 7, .int .u64 11, .int .u64 13, .int .u64 17, .int .u64 19, .int .u64 23, .int .u64 29, .int .u64 31, .int .u64 37]) (.int .i64 ((8 : Nat) : Int))).run Tryd.prog w = .ok (.int .u64 23) w := by kernel_rfl
  have e9 : (Instr.index 59 (.agg #[.int .u64 2, .int .u64 3, .int .u64 5, .int .u64 7, .int .u64 11, .int .u64 13, .int .u64 17, .int .u64 19, .int .u64 23, .int .u64 29, .int .u64 31, .int .u64 37]) (.int .i64 ((9 : Nat) : Int))).run Tryd.prog w = .ok (.int .u64 29) w := by kernel_rfl
  have e10 : (Instr.index 59 (.agg #[.int .u64 2, .int .u64 3, .int .u64 5, .int .u64 7, .int .u64 11, .int .u64 13, .int .u64 17, .int .u64 19, .int .u64 23, .int .u64 29, .int .u64 31, .int .u64 37]) (.int .i64 ((10 : Nat) : Int))).run Tryd.prog w = .ok (.int .u64 31) w := by kernel_rfl
  have e11 : (Instr.index 59 (.agg #[.int .u64 2, .int .u64 3, .int .u64 5, .int .u64 7, .int .u64 11, .int .u64 13, .int .u64 17, .int .u64 19, .int .u64 23, .int .u64 29, .int .u64 31, .int .u64 37]) (.int .i64 ((11 : Nat) : Int))).run Tryd.prog w = .ok (.int .u64 37) w := by kernel_rfl
  have : k = 0 ∨ k = 1 ∨ k = 2 ∨ k = 3 ∨ k = 4 ∨ k = 5 ∨ k = 6 ∨ k = 7 ∨ k = 8 ∨ k = 9 ∨ k = 10 ∨ k = 11 := by omega
  rcases this with rfl | rfl | rfl | rfl | rfl | rfl | rfl | rfl | rfl | rfl | rfl | rfl
  · rw [← Option.some.inj h]; exact e0
  · rw [← Option.some.inj h]; exact e1
  · rw [← Option.some.inj h]; exact e2
  · rw [← Option.some.inj h]; exact e3
  · rw [← Option.some.inj h]; exact e4
  · rw [← Option.some.inj h]; exact e5
  · rw [← Option.some.inj h]; exact e6
  · rw [← Option.some.inj h]; exact e7
  · rw [← Option.some.inj h]; exact e8
  · rw [← Option.some.inj h]; exact e9
  · rw [← Option.some.inj h]; exact e10
  · rw [← Option.some.inj h]; exact e11
theorem tried_ge {z : Int} (h : z ∈ triedL) : 2 ≤ z ∧ z ≤ 37 := by
  simp only [triedL, List.mem_cons, List.not_mem_nil, or_false] at h
  omega
set_option maxRecDepth 100000 in
set_option maxHeartbeats 2000000 in
theorem prime_c (n : Int) (hn : U64 n) (w : World) (hT : Tabs w) :
    Calls Tryd.prog 15 #[.int .u64 n] w fun r w' => r = .returned (.bool (primeV n)) ∧ Dr w w' := by
  obtain ⟨n1, n2⟩ := hn
  by_cases hlo : n < 2
  · have HR := hid (show primeV n = false by unfold primeV; rw [if_pos (.inl hlo)])
    have hd1 : decide (n < 2) = true := by simpa using hlo
    generalize primeV n = R at *
    go_enter Tryd.func15, Tryd.ntmps15
    go_wp2
    go_step3
    go_wp2
    try rw [Exit.noGoto_ret]
    go_ret
    exact ⟨by rw [HR.out]; rfl, Dr.refl _⟩
  · have hd1 : decide (n < 2) = false := by simpa using hlo
    by_cases hhi : 2305843009213693952 < n
    · have HR := hid (show primeV n = false by unfold primeV; rw [if_pos (.inr hhi)])
      have hd2 : decide (2305843009213693952 < n) = true := by simpa using hhi
      generalize primeV n = R at *
      go_enter Tryd.func15, Tryd.ntmps15
      go_wp2
      go_step3
      go_wp2
      try rw [Exit.noGoto_ret]
      go_ret
      exact ⟨by rw [HR.out]; rfl, Dr.refl _⟩
    · have hd2 : decide (2305843009213693952 < n) = false := by simpa using hhi
      obtain ⟨N, hN⟩ : ∃ N : Nat, n = (N : Int) + 1 := ⟨(n - 1).toNat, by omega⟩
      have hN1 : (n - 1).toNat = N := by omega
      have htw := ctz_lt (x := N) (by omega) (by omega)
      have HZ := hid (bits_TrailingZeros64 N (by omega) w fun _ => hT.tz)
      have HR := hid (show primeV n = mrAll n (Lib.ctz 64 N) (triedL.drop 0) by unfold primeV; rw [if_neg (by omega), hN1]; rfl)
      have HT := hid hT
      have HOKM := hid (okm_of (m := n) (by omega) (by omega))
      generalize Lib.ctz 64 N = tw at *
      generalize primeV n = R at *
      have hnn : n - 1 = (N : Int) := by omega
      clear hT hN hN1
      have c0 := HT.out.tr 0 _ rfl
      have c1 := HT.out.tr 1 _ rfl
      have c2 := HT.out.tr 2 _ rfl
      have c3 := HT.out.tr 3 _ rfl
      have c4 := HT.out.tr 4 _ rfl
      have c5 := HT.out.tr 5 _ rfl
      have c6 := HT.out.tr 6 _ rfl
      have c7 := HT.out.tr 7 _ rfl
      have c8 := HT.out.tr 8 _ rfl
      have c9 := HT.out.tr 9 _ rfl
      have ca := HT.out.tr 10 _ rfl
      have cb := HT.out.tr 11 _ rfl
      go_enter Tryd.func15, Tryd.ntmps15
      go_wp2
      go_step3
      go_wp2_with (fail)
      refine HZ.out.mono ?_
      rintro e wo ⟨rfl, hw⟩
      subst hw
      go_wp2
      go_step3
      go_wp2
      go_loopg [17] 12 (fun gg s17 wr => ∃ k : Nat, k + gg = 12 ∧ s17 = .int .i64 (k : Int) ∧ Hid (mrAll n tw (triedL.drop k) = R) ∧ Dr wo wr)
      case atStart => exact ⟨0, by omega, rfl, hid HR.out.symm, Dr.refl _⟩
      case round =>
        obtain ⟨k, hkg, rfl, HI, hd⟩ := hrel
        cases gk with
        | zero =>
          have HR2 := hid (show R = true by
            have := HI.out
            rw [show k = 12 by omega] at this
            rw [← this]; rfl)
          go_wp2
          try rw [Exit.noGoto_ret]
          go_ret
          exact ⟨by rw [HR2.out]; rfl, hd⟩
        | succ gg =>
          obtain ⟨z, hz⟩ : ∃ z, triedL[k]? = some z := get_of_lt (l := triedL) (show k < 12 by omega)
          have hix := run_tried wr hz
          obtain ⟨hz2, hz3⟩ := tried_ge (List.mem_of_getElem? hz)
          have HD := hid (show mrAll n tw (triedL.drop k) = match mrOne n z tw with | some b => b | none => mrAll n tw (triedL.drop (k + 1)) by
            have h1 := (List.getElem?_eq_some_iff.1 hz).1
            rw [List.drop_eq_getElem_cons h1, (List.getElem?_eq_some_iff.1 hz).2, mrAll]; rfl)
          have hk12 : (k : Int) < 12 := by omega
          clear hz
          by_cases hdiv : n % z = 0
          · have HV := hid (show R = decide (n = z) by rw [← HI.out, HD.out]; unfold mrOne; rw [if_pos hdiv])
            by_cases heq : n = z
            · have he : (n == z) = true := by simpa using heq
              have HV2 := hid (show R = true by rw [HV.out]; exact decide_eq_true heq)
              clear heq
              go_wp2
              try rw [Exit.noGoto_ret]
              go_ret
              exact ⟨by rw [HV2.out]; rfl, hd⟩
            · have he : (n == z) = false := by simpa using heq
              have HV2 := hid (show R = false by rw [HV.out]; exact decide_eq_false heq)
              clear heq
              go_wp2
              try rw [Exit.noGoto_ret]
              go_ret
              exact ⟨by rw [HV2.out]; rfl, hd⟩
          · have hnd : (n % z == 0) = false := by simpa using hdiv
            have HND := hid hdiv
            clear hdiv
            have HP := hid (pow_c z (N / 2 ^ tw) n ⟨by omega, by omega⟩ (by have := Nat.div_le_self N (2 ^ tw); omega) ⟨by omega, by omega⟩ wr)
            have HO := hid (show mrOne n z tw = if powV z (N / 2 ^ tw) n = 1 then none else if mrT n tw (powV z (N / 2 ^ tw) n) then none else some false by
              unfold mrOne
              rw [if_neg HND.out, show (n - 1).toNat = N by omega])
            have hp1 := (powV_u64 z (N / 2 ^ tw) n).1
            have hp2 := (powV_u64 z (N / 2 ^ tw) n).2
            generalize powV z (N / 2 ^ tw) n = x0 at *
            go_wp2_with (fail)
            refine HP.out.mono ?_
            rintro e w2 ⟨rfl, hd2⟩
            have hd3 := hd.trans hd2
            clear HP hd hd2 HND
            by_cases hx1 : x0 = 1
            · have he : (x0 == 1) = true := by simpa using hx1
              have HN := hid (show mrAll n tw (triedL.drop (k + 1)) = R by
                rw [← HI.out, HD.out, HO.out, if_pos hx1])
              clear hx1 HI HD HO
              go_wp2
              go_roundg gg
              case measure => omega
              case rel => exact ⟨k + 1, by omega, by first | rfl | simp, HN, hd3⟩
            · have he : (x0 == 1) = false := by simpa using hx1
              have HX := hid hx1
              clear hx1
              obtain ⟨B, hB⟩ : ∃ B, mrT n tw x0 = B := ⟨_, rfl⟩
              have HB := hid (show mrT n (tw - 0) x0 = B from hB)
              rw [hB, if_neg HX.out] at HO
              clear hB
              go_wp2
              go_loopg [37, 6] tw (fun g2 s37 s6 wy => ∃ (j : Nat) (x : Int), j + g2 = tw ∧ s37 = .int .i64 (j : Int) ∧ s6 = .int .u64 x ∧ 0 ≤ x ∧ x < 18446744073709551616 ∧ Hid (mrT n (tw - j) x = B) ∧ Dr wo wy)
              case atStart => exact ⟨0, x0, by omega, rfl, rfl, hp1, hp2, HB, hd3⟩
              case round =>
                obtain ⟨j, x, hjg, rfl, rfl, hx1, hx2, HJ, hdj⟩ := hrel
                cases gk with
                | zero =>
                  have HBF := hid (show R = false by
                    have h1 := HJ.out
                    rw [show tw - j = 0 by omega] at h1
                    have h2 : B = false := h1.symm
                    rw [← HI.out, HD.out, HO.out, h2]
                    rfl)
                  have hjt : ¬ ((j : Int) < (tw : Int)) := by omega
                  clear HI HD HO HB HX
                  go_wp2
                  try rw [Exit.noGoto_ret]
                  go_ret
                  exact ⟨by rw [HBF.out]; rfl, hdj⟩
                | succ g2 =>
                  have hjt : (j : Int) < (tw : Int) := by omega
                  have hsub : tw - j = (tw - (j + 1)) + 1 := by omega
                  have HM := hid (mul_c x x n ⟨hx1, hx2⟩ ⟨hx1, hx2⟩ ⟨by omega, by omega⟩ wr)
                  have hq1 := (mMul_u64 x x n).1
                  have hq2 := (mMul_u64 x x n).2
                  by_cases hxn : x = (N : Int)
                  · have he : (x == (N : Int)) = true := by simpa using hxn
                    have HN := hid (show mrAll n tw (triedL.drop (k + 1)) = R by
                      have h1 := HJ.out
                      rw [hsub, mrT, if_pos (by omega)] at h1
                      rw [← HI.out, HD.out, HO.out, ← h1]
                      rfl)
                    clear hxn HI HD HO HB HX HJ
                    go_wp2
                    go_roundg gg
                    case measure => omega
                    case rel => exact ⟨k + 1, by omega, by first | rfl | simp, HN, hdj⟩
                  · have he : (x == (N : Int)) = false := by simpa using hxn
                    have HN := hid (show mrT n (tw - (j + 1)) (mMul x x n) = B by
                      have h1 := HJ.out
                      rw [hsub, mrT, if_neg (by omega)] at h1
                      exact h1)
                    generalize mMul x x n = x2 at *
                    clear hxn HB HJ
                    go_wp2_with (fail)
                    refine HM.out.mono ?_
                    rintro e w4 ⟨rfl, hd4⟩
                    go_wp2
                    go_roundg g2
                    case measure => omega
                    case rel => exact ⟨j + 1, x2, by omega, by first | rfl | simp, rfl, hq1, hq2, HN, hdj.trans hd4⟩
end Go.Proofs.YtpdgalclnlbeaaaDoor
end

section
namespace Go.Proofs.YtpdgalclnlbeaaaDoor
abbrev nth (l : List Int) (j : Nat) : Int := l.getD j 0
theorem nth_lt {l : List Int} {j : Nat} (h : j < l.length) : nth l j = l[j] := by simp [nth, h]
theorem nth_ge {l : List Int} {j : Nat} (h : l.length ≤ j) : nth l j = 0 := by simp [nth, List.getElem?_eq_none h]
theorem nth_ext {l k : List Int} (h : l.length = k.length) (h2 : ∀ j, j < l.length → nth l j = nth k j) : l = k := by
  apply List.ext_getElem h
  intro j h1 h3
  have := h2 j h1
  rwa [nth_lt h1, nth_lt h3] at this
/-- f of each place. -/
def tabL (n : Nat) (f : Nat → Int) : List Int := (List.range n).map f
theorem tabL_len (n : Nat) (f : Nat → Int) : (tabL n f).length = n := by simp [tabL]
theorem tabL_at {n : Nat} {f : Nat → Int} {j : Nat} (h : j < n) : nth (tabL n f) j = f j := by simp [nth, tabL, h]
/-- a row of its own, as wide as all. -/
def redL (W : Nat) (q : Int) (row : List Int) : List Int := tabL (max W row.length) fun j => nth row j % q
/-- a row less so many times another one. -/
def lessL (q : Int) (row other : List Int) (t : Int) : List Int := tabL row.length fun j => if j < other.length then (nth row j - nth other j * t) % q else nth row j
theorem lessL_len (q : Int) (row other : List Int) (t : Int) : (lessL q row other t).length = row.length := tabL_len _ _
theorem lessL_at (q : Int) (row other : List Int) (t : Int) (j : Nat) : nth (lessL q row other t) j = if j < row.length ∧ j < other.length then (nth row j - nth other j * t) % q else nth row j := by
  by_cases h : j < row.length
  · unfold lessL
    rw [tabL_at h]
    by_cases h2 : j < other.length
    · rw [if_pos h2, if_pos ⟨h, h2⟩]
    · rw [if_neg h2, if_neg (fun e => h2 e.2)]
  · rw [if_neg (fun e => h e.1), nth_ge (by rw [lessL_len]; omega), nth_ge (by omega)]
/-- a row, and where it begins. -/
structure En where
  at_ : Nat
  row : List Int
/-- one row's part is taken off. -/
def stepL (q : Int) (o : List Int) (p : En) : List Int := lessL q o p.row (nth o p.at_)
theorem stepL_len (q : Int) (o : List Int) (p : En) : (stepL q o p).length = o.length := lessL_len ..
def leftL (q : Int) (W : Nat) (S : List En) (row : List Int) : List Int := S.foldl (stepL q) (redL W q row)
theorem foldl_len (q : Int) (S : List En) : ∀ o : List Int, (S.foldl (stepL q) o).length = o.length := by
  induction S with
  | nil => intro o; rfl
  | cons p S ih => intro o; rw [List.foldl_cons, ih, stepL_len]
theorem leftL_len (q : Int) (W : Nat) (S : List En) (row : List Int) : (leftL q W S row).length = max W row.length := by
  unfold leftL
  rw [foldl_len, redL, tabL_len]
/-- where a row begins. -/
def firstL (o : List Int) : Option Nat := o.findIdx? fun x => decide (x ≠ 0)
theorem firstL_some {o : List Int} {at_ : Nat} (h : firstL o = some at_) : at_ < o.length ∧ nth o at_ ≠ 0 := by
  unfold firstL at h
  rw [List.findIdx?_eq_some_iff_getElem] at h
  obtain ⟨h1, h2, _⟩ := h
  refine ⟨h1, ?_⟩
  rw [nth_lt h1]
  simpa using h2
/-- the row, so many times. -/
def timesL (q : Int) (o : List Int) (b : Int) : List Int := tabL o.length fun j => nth o j * b % q
def putL (q : Int) (inv : Int → Int) (W : Nat) (S : List En) (row : List Int) : List En :=
  match firstL (leftL q W S row) with
  | none => S
  | some k => ⟨k, timesL q (leftL q W S row) (inv (nth (leftL q W S row) k))⟩ :: (S.map fun p => (⟨p.at_, lessL q p.row (timesL q (leftL q W S row) (inv (nth (leftL q W S row) k))) (nth p.row k)⟩ : En)).filter fun p => decide (p.at_ ≠ k)
def wideL (rows : List (List Int)) : Nat := rows.foldl (fun m r => max m r.length) 0
def spaceL (q : Int) (inv : Int → Int) (W : Nat) (rows : List (List Int)) : List En := rows.foldl (putL q inv W) []
def rankL (q : Int) (inv : Int → Int) (rows : List (List Int)) : Nat := (spaceL q inv (wideL rows) rows).length
def hangsL (q : Int) (inv : Int → Int) (rows : List (List Int)) (row : List Int) : Bool := (firstL (leftL q (wideL rows) (spaceL q inv (wideL rows) rows) row)).isNone
def ZeroL (r : List Int) : Prop := ∀ j, nth r j = 0
def RedL (q : Int) (r : List Int) : Prop := ∀ j, 0 ≤ nth r j ∧ nth r j < q
/-- what rows come to. -/
structure GoodS (q : Int) (W : Nat) (S : List En) : Prop where
  nd : S.Pairwise fun p p' => p.at_ ≠ p'.at_
  lt : ∀ p ∈ S, p.at_ < W
  len : ∀ p ∈ S, p.row.length = W
  red : ∀ p ∈ S, RedL q p.row
  piv : ∀ p ∈ S, ZeroL p.row ∨ nth p.row p.at_ = 1 ∧ ∀ p' ∈ S, p'.at_ ≠ p.at_ → nth p'.row p.at_ = 0
theorem GoodS.nil (q : Int) (W : Nat) : GoodS q W [] := ⟨.nil, (fun p h => by cases h), (fun p h => by cases h), (fun p h => by cases h), (fun p h => by cases h)⟩
theorem key_one {S : List En} (h : S.Pairwise fun p p' => p.at_ ≠ p'.at_) {p p' : En} (hp : p ∈ S) (hp' : p' ∈ S) (he : p.at_ = p'.at_) : p = p' := by
  induction S with
  | nil => cases hp
  | cons x l ih =>
    obtain ⟨h1, h2⟩ := List.pairwise_cons.1 h
    rcases List.mem_cons.1 hp with e1 | hp1
    · rcases List.mem_cons.1 hp' with e2 | hp2
      · rw [e1, e2]
      · rw [e1] at he
        exact absurd he (h1 p' hp2)
    · rcases List.mem_cons.1 hp' with e2 | hp2
      · rw [e2] at he
        exact absurd he.symm (h1 p hp1)
      · exact ih h2 hp1 hp2
theorem step_at {q : Int} {o : List Int} {p : En} {W j : Nat} (h : p.row.length = W) : nth (stepL q o p) j = if j < o.length ∧ j < W then (nth o j - nth p.row j * nth o p.at_) % q else nth o j := by
  unfold stepL
  rw [lessL_at, h]
/-- two rows' parts may be taken off in either order. -/
theorem step_comm {q : Int} {W : Nat} {S : List En} (h : GoodS q W S) {p p' : En} (hp : p ∈ S) (hp' : p' ∈ S) (o : List Int) : stepL q (stepL q o p) p' = stepL q (stepL q o p') p := by
  by_cases hk : p.at_ = p'.at_
  · rw [key_one h.nd hp hp' hk]
  · apply nth_ext
    · rw [stepL_len, stepL_len, stepL_len, stepL_len]
    · intro j hj
      rw [stepL_len, stepL_len] at hj
      have e1 := h.len p hp
      have e2 := h.len p' hp'
      have s1 := fun z j => step_at (q := q) (o := z) (j := j) e1
      have s2 := fun z j => step_at (q := q) (o := z) (j := j) e2
      rw [s2 (stepL q o p) j, s1 (stepL q o p') j, stepL_len, stepL_len]
      by_cases hW : j < W
      · rw [if_pos ⟨hj, hW⟩, if_pos ⟨hj, hW⟩, s1 o j, s2 o j, if_pos ⟨hj, hW⟩, if_pos ⟨hj, hW⟩, s1 o p'.at_, s2 o p.at_]
        have c1 : nth p'.row j * (nth p.row p'.at_ * nth o p.at_) = 0 := by
          rcases h.piv p' hp' with hz | hz
          · rw [hz j, Int.zero_mul]
          · rw [hz.2 p hp hk, Int.zero_mul, Int.mul_zero]
        have c2 : nth p.row j * (nth p'.row p.at_ * nth o p'.at_) = 0 := by
          rcases h.piv p hp with hz | hz
          · rw [hz j, Int.zero_mul]
          · rw [hz.2 p' hp' (Ne.symm hk), Int.zero_mul, Int.mul_zero]
        have key : ∀ (x r r' y y' c : Int), r' * c = 0 → ((x - r * y) % q - r' * ((y' - c) % q)) % q = (x - r * y - r' * y') % q := by
          intro x r r' y y' c hc
          rw [Int.sub_emod, Int.emod_emod, Int.mul_emod, Int.emod_emod, ← Int.mul_emod, ← Int.sub_emod]
          congr 1
          rw [Int.mul_sub, hc, Int.sub_zero]
        have key2 : ∀ (x r r' y y' : Int), ((x - r * y) % q - r' * y') % q = (x - r * y - r' * y') % q := by
          intro x r r' y y'
          rw [Int.sub_emod, Int.emod_emod, ← Int.sub_emod]
        have hl : ((if p'.at_ < o.length ∧ p'.at_ < W then (nth o p'.at_ - nth p.row p'.at_ * nth o p.at_) % q else nth o p'.at_)) = (if p'.at_ < o.length then (nth o p'.at_ - nth p.row p'.at_ * nth o p.at_) % q else nth o p'.at_) := by
          have := h.lt p' hp'
          by_cases hh : p'.at_ < o.length
          · rw [if_pos ⟨hh, this⟩, if_pos hh]
          · rw [if_neg (fun e => hh e.1), if_neg hh]
        have hr : ((if p.at_ < o.length ∧ p.at_ < W then (nth o p.at_ - nth p'.row p.at_ * nth o p'.at_) % q else nth o p.at_)) = (if p.at_ < o.length then (nth o p.at_ - nth p'.row p.at_ * nth o p'.at_) % q else nth o p.at_) := by
          have := h.lt p hp
          by_cases hh : p.at_ < o.length
          · rw [if_pos ⟨hh, this⟩, if_pos hh]
          · rw [if_neg (fun e => hh e.1), if_neg hh]
        rw [hl, hr]
        have L : ((nth o j - nth p.row j * nth o p.at_) % q - nth p'.row j * (if p'.at_ < o.length then (nth o p'.at_ - nth p.row p'.at_ * nth o p.at_) % q else nth o p'.at_)) % q = (nth o j - nth p.row j * nth o p.at_ - nth p'.row j * nth o p'.at_) % q := by
          split
          · exact key _ _ _ _ _ _ c1
          · exact key2 _ _ _ _ _
        have R : ((nth o j - nth p'.row j * nth o p'.at_) % q - nth p.row j * (if p.at_ < o.length then (nth o p.at_ - nth p'.row p.at_ * nth o p'.at_) % q else nth o p.at_)) % q = (nth o j - nth p'.row j * nth o p'.at_ - nth p.row j * nth o p.at_) % q := by
          split
          · exact key _ _ _ _ _ _ c2
          · exact key2 _ _ _ _ _
        rw [L, R]
        congr 1
        omega
      · rw [if_neg (fun e => hW e.2), if_neg (fun e => hW e.2), s1 o j, s2 o j, if_neg (fun e => hW e.2), if_neg (fun e => hW e.2)]
theorem foldl_perm {q : Int} {W : Nat} : ∀ {S S' : List En}, S.Perm S' → GoodS q W S → ∀ o, S.foldl (stepL q) o = S'.foldl (stepL q) o := by
  intro S S' hp hG o
  refine List.Perm.foldl_eq' hp ?_ o
  intro p hp1 p' hp2 z
  exact step_comm hG hp1 hp2 z
/-- what is left: reduced, and 0 where a row of the others begins. -/
theorem foldl_red {q : Int} (hq : 0 < q) (S : List En) : ∀ o : List Int, RedL q o → RedL q (S.foldl (stepL q) o) := by
  induction S with
  | nil => intro o h; exact h
  | cons p S ih =>
    intro o h
    rw [List.foldl_cons]
    refine ih _ fun j => ?_
    unfold stepL
    rw [lessL_at]
    split
    · exact ⟨Int.emod_nonneg _ (by omega), Int.emod_lt_of_pos _ hq⟩
    · exact h j
theorem redL_red {q : Int} (hq : 0 < q) (W : Nat) (row : List Int) : RedL q (redL W q row) := by
  intro j
  by_cases h : j < max W row.length
  · unfold redL
    rw [tabL_at h]
    exact ⟨Int.emod_nonneg _ (by omega), Int.emod_lt_of_pos _ hq⟩
  · rw [nth_ge (by unfold redL; rw [tabL_len]; omega)]
    exact ⟨Int.le_refl 0, hq⟩
theorem leftL_red {q : Int} (hq : 0 < q) (W : Nat) (S : List En) (row : List Int) : RedL q (leftL q W S row) := foldl_red hq S _ (redL_red hq W row)
theorem foldl_zero {q : Int} {W : Nat} {S : List En} (hG : GoodS q W S) {p : En} (hp : p ∈ S) (h1 : nth p.row p.at_ = 1) (h2 : ∀ p' ∈ S, p'.at_ ≠ p.at_ → nth p'.row p.at_ = 0) :
    ∀ (l : List En) (o : List Int), (∀ x ∈ l, x ∈ S) → RedL q o → (p ∈ l ∨ nth o p.at_ = 0) → nth (l.foldl (stepL q) o) p.at_ = 0 := by
  intro l
  induction l with
  | nil => intro o _ _ h; rcases h with h | h; cases h; exact h
  | cons x l ih =>
    intro o hl hr h
    rw [List.foldl_cons]
    have hq : 0 < q := by have := hr 0; omega
    have hxS := hl x (List.mem_cons_self ..)
    have hr2 := foldl_red hq [x] o hr
    refine ih _ (fun y hy => hl y (List.mem_cons_of_mem _ hy)) hr2 ?_
    by_cases hx : x.at_ = p.at_
    · right
      obtain rfl := key_one hG.nd hxS hp hx
      unfold stepL
      rw [lessL_at]
      split
      · rw [h1, Int.one_mul, Int.sub_self]; simp
      · rename_i hn
        rw [nth_ge]
        rw [hG.len x hp] at hn
        have := hG.lt x hp
        omega
    · rcases h with h | h
      · rcases List.mem_cons.1 h with rfl | h
        · exact absurd rfl hx
        · exact .inl h
      · right
        unfold stepL
        rw [lessL_at]
        split
        · rw [h, h2 x hxS hx, Int.zero_mul, Int.sub_self]; simp
        · exact h
/-- an inverse, or 0. -/
structure InvOf (q : Int) (inv : Int → Int) : Prop where
  one : ∀ x, inv x = 0 ∨ x * inv x % q = 1
theorem put_good {q : Int} {inv : Int → Int} (hq : 0 < q) (hI : InvOf q inv) {W : Nat} {S : List En} (hG : GoodS q W S) {row : List Int} (hr : row.length ≤ W) : GoodS q W (putL q inv W S row) := by
  unfold putL
  have hlen : (leftL q W S row).length = W := by rw [leftL_len]; omega
  have hred := leftL_red hq W S row
  have hz : ∀ p ∈ S, (nth p.row p.at_ = 1 ∧ ∀ p' ∈ S, p'.at_ ≠ p.at_ → nth p'.row p.at_ = 0) → nth (leftL q W S row) p.at_ = 0 := fun p hp h => foldl_zero hG hp h.1 h.2 S _ (fun _ h => h) (redL_red hq W row) (.inl hp)
  generalize leftL q W S row = o at *
  cases hf : firstL o with
  | none => exact hG
  | some k =>
    obtain ⟨hk1, hk2⟩ := firstL_some hf
    rw [hlen] at hk1
    simp only
    have htl : (timesL q o (inv (nth o k))).length = W := by unfold timesL; rw [tabL_len, hlen]
    have hta : ∀ j, nth (timesL q o (inv (nth o k))) j = nth o j * inv (nth o k) % q := by
      intro j
      by_cases hj : j < o.length
      · unfold timesL; rw [tabL_at hj]
      · rw [nth_ge (by rw [htl]; omega), nth_ge (l := o) (by omega), Int.zero_mul]; simp
    have hr1 : ZeroL (timesL q o (inv (nth o k))) ∨ nth (timesL q o (inv (nth o k))) k = 1 := by
      rcases hI.one (nth o k) with h | h
      · left; intro j; rw [hta, h, Int.mul_zero]; simp
      · right; rw [hta]; exact h
    have hrz : ∀ p ∈ S, (nth p.row p.at_ = 1 ∧ ∀ p' ∈ S, p'.at_ ≠ p.at_ → nth p'.row p.at_ = 0) → nth (timesL q o (inv (nth o k))) p.at_ = 0 := fun p hp h => by rw [hta, hz p hp h, Int.zero_mul]; simp
    have hrr : RedL q (timesL q o (inv (nth o k))) := fun j => by rw [hta]; exact ⟨Int.emod_nonneg _ (by omega), Int.emod_lt_of_pos _ hq⟩
    generalize timesL q o (inv (nth o k)) = r at *
    have hmem : ∀ x ∈ (S.map fun p => (⟨p.at_, lessL q p.row r (nth p.row k)⟩ : En)).filter fun p => decide (p.at_ ≠ k), x.at_ ≠ k ∧ ∃ p ∈ S, x = ⟨p.at_, lessL q p.row r (nth p.row k)⟩ := by
      intro x hx
      obtain ⟨h1, h2⟩ := List.mem_filter.1 hx
      obtain ⟨p, hp, rfl⟩ := List.mem_map.1 h1
      exact ⟨by simpa using h2, p, hp, rfl⟩
    have hat : ∀ p ∈ S, ∀ j, nth (lessL q p.row r (nth p.row k)) j = if j < W then (nth p.row j - nth r j * nth p.row k) % q else 0 := by
      intro p hp j
      rw [lessL_at, hG.len p hp, htl]
      by_cases hj : j < W
      · rw [if_pos ⟨hj, hj⟩, if_pos hj]
      · rw [if_neg (fun e => hj e.1), if_neg hj, nth_ge (by rw [hG.len p hp]; omega)]
    refine ⟨?_, ?_, ?_, ?_, ?_⟩
    · refine List.pairwise_cons.2 ⟨fun x hx => Ne.symm (hmem x hx).1, ?_⟩
      refine List.Pairwise.filter _ ?_
      rw [List.pairwise_map]
      exact hG.nd
    · intro x hx
      rcases List.mem_cons.1 hx with rfl | hx
      · exact hk1
      · obtain ⟨_, p, hp, rfl⟩ := hmem x hx
        exact hG.lt p hp
    · intro x hx
      rcases List.mem_cons.1 hx with rfl | hx
      · exact htl
      · obtain ⟨_, p, hp, rfl⟩ := hmem x hx
        show (lessL q p.row r (nth p.row k)).length = W
        rw [lessL_len]; exact hG.len p hp
    · intro x hx
      rcases List.mem_cons.1 hx with rfl | hx
      · exact hrr
      · obtain ⟨_, p, hp, rfl⟩ := hmem x hx
        intro j
        show 0 ≤ nth (lessL q p.row r (nth p.row k)) j ∧ nth (lessL q p.row r (nth p.row k)) j < q
        rw [hat p hp]
        split
        · exact ⟨Int.emod_nonneg _ (by omega), Int.emod_lt_of_pos _ hq⟩
        · exact ⟨Int.le_refl 0, hq⟩
    · intro x hx
      rcases List.mem_cons.1 hx with rfl | hx
      · rcases hr1 with h | h
        · exact .inl h
        · refine .inr ⟨h, fun x' hx' hne => ?_⟩
          rcases List.mem_cons.1 hx' with rfl | hx'
          · exact absurd rfl hne
          · obtain ⟨_, p, hp, rfl⟩ := hmem x' hx'
            show nth (lessL q p.row r (nth p.row k)) k = 0
            rw [hat p hp, if_pos hk1, h, Int.one_mul, Int.sub_self]; simp
      · obtain ⟨hne, p, hp, rfl⟩ := hmem x hx
        rcases hG.piv p hp with h | h
        · left
          intro j
          show nth (lessL q p.row r (nth p.row k)) j = 0
          rw [hat p hp]
          split
          · rw [h j, h k, Int.mul_zero, Int.sub_self]; simp
          · rfl
        · right
          have h0 := hrz p hp h
          refine ⟨?_, fun x' hx' hne' => ?_⟩
          · show nth (lessL q p.row r (nth p.row k)) p.at_ = 1
            have h1 := hG.red p hp p.at_
            rw [h.1] at h1
            rw [hat p hp, if_pos (hG.lt p hp), h.1, h0, Int.zero_mul, Int.sub_zero]
            exact Int.emod_eq_of_lt (by omega) h1.2
          · rcases List.mem_cons.1 hx' with rfl | hx'
            · exact h0
            · obtain ⟨_, p', hp', rfl⟩ := hmem x' hx'
              show nth (lessL q p'.row r (nth p'.row k)) p.at_ = 0
              rw [hat p' hp', if_pos (hG.lt p hp), h.2 p' hp' hne', h0, Int.zero_mul, Int.sub_zero]; simp
theorem space_good {q : Int} {inv : Int → Int} (hq : 0 < q) (hI : InvOf q inv) {W : Nat} : ∀ (rows : List (List Int)) (S : List En), GoodS q W S → (∀ r ∈ rows, r.length ≤ W) → GoodS q W (rows.foldl (putL q inv W) S)
  | [], _, h, _ => h
  | r :: rows, S, h, hl => by
    rw [List.foldl_cons]
    exact space_good hq hI rows _ (put_good hq hI h (hl r (List.mem_cons_self ..))) fun x hx => hl x (List.mem_cons_of_mem _ hx)
theorem wideL_le (rows : List (List Int)) : ∀ r ∈ rows, r.length ≤ wideL rows := by
  have key : ∀ (rows : List (List Int)) (m : Nat), m ≤ rows.foldl (fun m r => max m r.length) m ∧ ∀ r ∈ rows, r.length ≤ rows.foldl (fun m r => max m r.length) m := by
    intro rows
    induction rows with
    | nil => intro m; exact ⟨Nat.le_refl _, fun r h => by cases h⟩
    | cons r rows ih =>
      intro m
      rw [List.foldl_cons]
      obtain ⟨h1, h2⟩ := ih (max m r.length)
      refine ⟨by omega, fun x hx => ?_⟩
      rcases List.mem_cons.1 hx with rfl | hx
      · omega
      · exact h2 x hx
  exact (key rows 0).2
/-- of as many rows at most as wide. -/
theorem good_len {q : Int} {W : Nat} {S : List En} (h : GoodS q W S) : S.length ≤ W := by
  have key : ∀ (n : Nat) (L : List Nat), L.Nodup → (∀ a ∈ L, a < n) → L.length ≤ n := by
    intro n
    induction n with
    | zero =>
      intro L _ h
      cases L with
      | nil => simp
      | cons a L => have := h a (List.mem_cons_self ..); omega
    | succ n ih =>
      intro L hn h
      by_cases hm : n ∈ L
      · have h1 := ih (L.erase n) (hn.erase _) fun a ha => by
          have h2 := (hn.mem_erase_iff).1 ha
          have h3 := h a h2.2
          have := h2.1
          omega
        have h4 := List.length_erase_of_mem hm
        omega
      · have := ih L hn fun a ha => by
          have h3 := h a ha
          have : a ≠ n := fun e => hm (e ▸ ha)
          omega
        omega
  have := key W (S.map En.at_) (by unfold List.Nodup; rw [List.pairwise_map]; exact h.nd) fun a ha => by
    obtain ⟨p, hp, rfl⟩ := List.mem_map.1 ha
    exact h.lt p hp
  rwa [List.length_map] at this
end Go.Proofs.YtpdgalclnlbeaaaDoor
end

section
namespace Go.Proofs.YtpdgalclnlbeaaaDoor
open Go.RowKit Go.Maps Go.WideElems Go.ChangeMaps Go.MapKept Go.WideShapes
/-- how things lie in a map: their keys, their values, and how these read. -/
structure MK (P : Program) (k : TypeId) (α H : Type) where
  R : Value → Option (DataW H × List MemPlace)
  key : α → Lit
  tok : α → H
  kv : α → Value
  val : α → Value
  ok : α → Prop
  K : Keyed P k
  hkey : ∀ a, ok a → keyOf P k (kv a) = some (key a)
  hval : ∀ a, ok a → R (val a) = some (.held (tok a), [])
  inv : ∀ v a ps, R v = some (.held (tok a), ps) → v = val a
section
variable {P : Program} {k : TypeId} {α H : Type} (M : MK P k α H)
/-- the datum holds just these. -/
def Tab (D : DataW H) (L : List α) : Prop := ∃ es, D = .map es ∧ es.Perm (L.map fun a => (M.key a, DataW.held (M.tok a)))
/-- block b is a map that holds just these. -/
structure MapAt (w : World) (b : Nat) (L : List α) : Prop where
  ok : ∀ a ∈ L, M.ok a
  nd : L.Pairwise fun a c => M.key a ≠ M.key c
  own : ∃ D, w.ownsMap P k M.R b L.length D ∧ Tab M D L
variable {M} {w w' : World} {b : Nat} {L : List α}
theorem MapAt.keep (h : MapAt M w b L) (hk : w'.heap[b]? = w.heap[b]?) : MapAt M w' b L := by
  obtain ⟨h1, h2, D, ⟨es, clock, hb, r⟩, h4⟩ := h
  exact ⟨h1, h2, D, ⟨es, clock, hk.trans hb, r⟩, h4⟩
theorem MapAt.lt (h : MapAt M w b L) : b < w.heap.size := by
  obtain ⟨_, _, D, h3, _⟩ := h
  exact h3.lt
theorem MapAt.below (h : MapAt M w b L) (hb : Below w.heap.size w w') : MapAt M w' b L := h.keep (hb.block b h.lt)
theorem MapAt.alloc (h : MapAt M w b L) (o : Obj) : MapAt M (w.alloc o) b L := h.keep (Below.heap_alloc w o b h.lt)
theorem MapAt.dr (h : MapAt M w b L) (hd : Dr w w') : MapAt M w' b L := by
  obtain ⟨n, rfl⟩ := hd; exact h.keep rfl
theorem MapAt.far (h : MapAt M w b L) {p : Addr} (hp : p.block ≠ b) (u : Value) : MapAt M (w.setCell p u) b L := h.keep (Below.heap_setCell w p u b (Ne.symm hp))
theorem MapAt.isMap (h : MapAt M w b L) : ∃ es clock, w.heap[b]? = some (.map es clock) := by
  obtain ⟨_, _, D, ⟨es, clock, hb, _⟩, _⟩ := h
  exact ⟨es, clock, hb⟩
theorem MapAt.ne_row (h : MapAt M w b L) {g : Nat} {e : TypeId} {xs : List Value} (hr : Row1 w g e xs) : g ≠ b := by
  obtain ⟨es, clock, hb⟩ := h.isMap
  intro e1
  unfold Row1 at hr
  rw [e1, hb] at hr
  cases hr
theorem mapAt_made (w : World) : MapAt M (w.alloc (.map #[] 0)) w.heap.size [] :=
  ⟨(fun a ha => by cases ha), List.Pairwise.nil, .map [], World.ownsMap_made w P k M.R, [], rfl, .refl _⟩
/-- of as many entries as there are. -/
theorem own_len {n : Nat} {D : DataW H} (h : w.ownsMap P k M.R b n D) (ht : Tab M D L) : w.ownsMap P k M.R b L.length D := by
  obtain ⟨es, clock, hb, F, hs, hD⟩ := h
  obtain ⟨es', rfl, hp⟩ := ht
  refine ⟨es, clock, hb, F, ?_, hD⟩
  have h1 := hp.length_eq
  simp only [DataW.map.injEq] at hD
  rw [hD, length_sorted] at h1
  simp at h1
  omega
theorem mk_keyed {a : α} (ha : M.ok a) : WideAt.IsKeyLit (M.key a) := M.K.key (M.hkey a ha)
theorem same_iff {a : α} (ha : M.ok a) (kl : Lit) : (M.key a).sameKey kl = true ↔ M.key a = kl := by
  constructor
  · exact WideAt.sameKey_eq
  · rintro rfl; exact WideAt.sameKey_self (mk_keyed ha)
theorem tab_has {D : DataW H} (ht : Tab M D L) (hok : ∀ a ∈ L, M.ok a) (kl : Lit) : has D kl = true ↔ ∃ a ∈ L, M.key a = kl := by
  obtain ⟨es, rfl, hp⟩ := ht
  rw [has_eq, List.any_eq_true]
  constructor
  · rintro ⟨p, hm, hs⟩
    obtain ⟨a, ha, rfl⟩ := List.mem_map.1 (hp.mem_iff.1 hm)
    exact ⟨a, ha, (same_iff (hok a ha) kl).1 hs⟩
  · rintro ⟨a, ha, he⟩
    exact ⟨_, hp.mem_iff.2 (List.mem_map.2 ⟨a, ha, rfl⟩), (same_iff (hok a ha) kl).2 he⟩
theorem tab_at {D : DataW H} {n : Nat} (h : w.ownsMap P k M.R b n D) (ht : Tab M D L) (hok : ∀ a ∈ L, M.ok a) {a : α} (ha : a ∈ L) (z : DataW H) : D.atKey (M.key a) z = .held (M.tok a) := by
  obtain ⟨es, clock, hb, F, _, hD⟩ := h
  obtain ⟨es', rfl, hp⟩ := ht
  have hm := hp.mem_iff.2 (List.mem_map.2 ⟨a, ha, rfl⟩)
  simp only [DataW.map.injEq] at hD
  subst hD
  have hm2 := mem_sorted.1 hm
  exact (atKey_sorted (es.toList.map (rg P k M.R)) (Maps.fit_rising M.K F) (M.key a) (mk_keyed (hok a ha))).2 _ hm2 rfl z
/-- 'm[k]', with 'ok' or without. -/
theorem MapAt.look {t e : TypeId} (h : MapAt M w b L) (c : Bool) (ht : P.underlying t = some (.map k e)) {z : Value} (hz : (zeroValue e).run P w = .ok z w) {kv : Value} {kl : Lit} (hkey : keyOf P k kv = some kl) :
    ((∀ a ∈ L, M.key a ≠ kl) ∧ (Instr.lookup t (.map (some b)) kv c).run P w = .ok (if c then .tuple #[z, .bool false] else z) w) ∨
    ∃ a ∈ L, M.key a = kl ∧ (Instr.lookup t (.map (some b)) kv c).run P w = .ok (if c then .tuple #[M.val a, .bool true] else M.val a) w := by
  obtain ⟨hok, _, D, hown, hT⟩ := h
  have hown' := hown
  obtain ⟨es, clock, hb, F, _, hD⟩ := hown
  rcases Maps.fit_look c M.K ht hz hb F hkey with ⟨hrun, hno, hat⟩ | ⟨e0, y, hm, hk, hrun, hR, hat, _⟩
  · refine .inl ⟨fun a ha he => ?_, hrun⟩
    have h1 := tab_at hown' hT hok ha (.lit (.bool true))
    have h2 := tab_at hown' hT hok ha (.lit (.bool false))
    rw [he, hD, hat] at h1 h2
    rw [← h2] at h1
    simp at h1
  · have hh : ∃ a ∈ L, M.key a = kl := by
      rw [← tab_has hT hok]
      have : ∀ zd, D.atKey kl zd = y.1 := fun zd => by rw [hD]; exact hat zd
      exact has_true_of_atKey this
    obtain ⟨a, ha, he⟩ := hh
    refine .inr ⟨a, ha, he, ?_⟩
    have h1 := tab_at hown' hT hok ha (.lit (.bool true))
    rw [he, hD, hat] at h1
    have : e0.val = M.val a := M.inv _ a y.2 (by rw [hR, ← h1])
    rw [hrun, this]
/-- 'm[k] = v'. -/
theorem MapAt.store [DecidableEq Lit] {t e : TypeId} (h : MapAt M w b L) (ht : P.underlying t = some (.map k e)) (hn : L.length < maxLen) {a : α} (ha : M.ok a) :
    ∃ w', (Instr.mapUpdate t (.map (some b)) (M.kv a) (M.val a)).run P w = .ok () w' ∧ MapAt M w' b (a :: L.filter fun c => decide (M.key c ≠ M.key a)) ∧ w.grownBy w' (some b) := by
  obtain ⟨hok, hnd, D, hown, hT⟩ := h
  obtain ⟨w', h1, h2, h3⟩ := hown.update M.K ht hn (M.hkey a ha) (M.hval a ha)
  have hT' : Tab M (D.put (M.key a) (.held (M.tok a))) (a :: L.filter fun c => decide (M.key c ≠ M.key a)) := by
    obtain ⟨es, rfl, hp⟩ := hT
    refine ⟨_, rfl, (WideShapes.insert_perm _ _).trans ?_⟩
    rw [List.map_cons]
    refine List.Perm.cons _ ?_
    have hp2 := hp.filter fun p : Lit × DataW H => !p.1.sameKey (M.key a)
    refine hp2.trans (List.Perm.of_eq ?_)
    rw [List.filter_map]
    congr 1
    refine List.filter_congr fun c hc => ?_
    have := same_iff (hok c hc) (M.key a)
    simp only [Function.comp]
    rw [Bool.eq_iff_iff, Bool.not_eq_true', decide_eq_true_eq, ← Bool.not_eq_true, this]
  refine ⟨w', h1, ⟨?_, ?_, _, own_len h2 hT', hT'⟩, h3⟩
  · intro c hc
    rcases List.mem_cons.1 hc with rfl | hc
    · exact ha
    · exact hok c (List.mem_filter.1 hc).1
  · refine List.pairwise_cons.2 ⟨fun c hc => ?_, hnd.sublist List.filter_sublist⟩
    have := (List.mem_filter.1 hc).2
    exact fun e1 => (of_decide_eq_true this) e1.symm
/-- 'delete(m, k)'. -/
theorem MapAt.drop [DecidableEq Lit] {t e ty : TypeId} (h : MapAt M w b L) (ht : P.underlying t = some (.map k e)) {kv : Value} {kl : Lit} (hkey : keyOf P k kv = some kl) :
    ∃ w', (Builtin.delete_ #[t, k] ty #[.map (some b), kv]).run P w = .ok (.tuple #[]) w' ∧ MapAt M w' b (L.filter fun c => decide (M.key c ≠ kl)) ∧ w.grownBy w' (some b) := by
  obtain ⟨hok, hnd, D, hown, hT⟩ := h
  obtain ⟨es, clock, hb, F, hs, rfl⟩ := hown
  obtain ⟨es', hrun, F', hle, hdel, hsub, hwho⟩ := fit_drop_who (ty := ty) M.K ht hb F hkey
  have hT' : Tab M (.map ((es'.toList.map (rg P k M.R)).foldr DataW.insert [])) (L.filter fun c => decide (M.key c ≠ kl)) := by
    obtain ⟨es0, h0, hp⟩ := hT
    simp only [DataW.map.injEq] at h0
    subst h0
    refine ⟨_, rfl, ?_⟩
    rw [hdel]
    have hp2 := hp.filter fun p : Lit × DataW H => !p.1.sameKey kl
    refine hp2.trans (List.Perm.of_eq ?_)
    rw [List.filter_map]
    congr 1
    refine List.filter_congr fun c hc => ?_
    have := same_iff (hok c hc) kl
    simp only [Function.comp]
    rw [Bool.eq_iff_iff, Bool.not_eq_true', decide_eq_true_eq, ← Bool.not_eq_true, this]
  have hown' : (ChangeMaps.setBlock w b (.map es' clock)).ownsMap P k M.R b es'.size (.map ((es'.toList.map (rg P k M.R)).foldr DataW.insert [])) := ⟨es', clock, heap_setBlock_same hb _, F', Nat.le_refl _, rfl⟩
  refine ⟨_, hrun, ⟨fun c hc => hok c (List.mem_filter.1 hc).1, hnd.sublist List.filter_sublist, _, own_len hown' hT', hT'⟩, ⟨rfl, rfl, rfl, by simp [ChangeMaps.setBlock], fun i _ hi => heap_setBlock_other hb _ (fun e => hi (by rw [e]))⟩⟩
/-- 'for k, v := range m' under way: 'rest' is still to come. -/
def RangeAt (M : MK P k α H) (w : World) (b r : Nat) (L rest : List α) (cnt : Nat) : Prop :=
  (∀ a ∈ L, M.ok a) ∧ (L.Pairwise fun a c => M.key a ≠ M.key c) ∧ (∀ a ∈ rest, a ∈ L) ∧ rest.Nodup ∧ ∃ D left, w.ranges P k M.R b r L.length D left cnt ∧ Tab M D L ∧ ∀ kl, left kl = true ↔ ∃ a ∈ rest, M.key a = kl
theorem RangeAt.left {r cnt : Nat} {rest : List α} (h : RangeAt M w b r L rest cnt) : w.rangeLeft b r = cnt := by
  obtain ⟨_, _, _, _, D, left, h1, _⟩ := h
  exact h1.left_eq
theorem RangeAt.map {r cnt : Nat} {rest : List α} (h : RangeAt M w b r L rest cnt) : MapAt M w b L := by
  obtain ⟨h1, h2, _, _, D, left, h5, h6, _⟩ := h
  exact ⟨h1, h2, D, h5.owns, h6⟩
theorem RangeAt.keep {r cnt : Nat} {rest : List α} (h : RangeAt M w b r L rest cnt) (hb : w'.heap[b]? = w.heap[b]?) (hr : w'.heap[r]? = w.heap[r]?) : RangeAt M w' b r L rest cnt := by
  obtain ⟨h1, h2, h3, h4, D, left, ⟨es, clock, since, seen, c0, e1, e2, e3, e4, e5, e6⟩, h6, h7⟩ := h
  exact ⟨h1, h2, h3, h4, D, left, ⟨es, clock, since, seen, c0, hb.trans e1, e2, e3, e4, hr.trans e5, e6⟩, h6, h7⟩
theorem RangeAt.lt {r cnt : Nat} {rest : List α} (h : RangeAt M w b r L rest cnt) : b < w.heap.size ∧ r < w.heap.size ∧ r ≠ b := by
  have h1 := h.map.lt
  obtain ⟨_, _, _, _, D, left, h5, _⟩ := h
  exact ⟨h1, h5.lt, h5.ne⟩
theorem RangeAt.below {r cnt : Nat} {rest : List α} (h : RangeAt M w b r L rest cnt) (hb : Below w.heap.size w w') : RangeAt M w' b r L rest cnt := h.keep (hb.block b h.lt.1) (hb.block r h.lt.2.1)
theorem nodup_of_keys (h : L.Pairwise fun a c => M.key a ≠ M.key c) : L.Nodup := h.imp fun {_ _} hne e => hne (by rw [e])
/-- 'range m'. -/
theorem MapAt.range {t e : TypeId} (h : MapAt M w b L) (ht : P.underlying t = some (.map k e)) :
    ∃ w', (Instr.range t (.map (some b))).run P w = .ok (.pointer (some ⟨w.heap.size, 0, none⟩)) w' ∧ (∃ cnt, RangeAt M w' b w.heap.size L L cnt) ∧ w.grownBy w' none ∧ w'.heap.size = w.heap.size + 1 := by
  obtain ⟨hok, hnd, D, hown, hT⟩ := h
  obtain ⟨w', h1, h2, h3, h4⟩ := hown.range M.K ht
  exact ⟨w', h1, ⟨_, hok, hnd, fun _ h => h, nodup_of_keys hnd, D, _, h2, hT, fun kl => tab_has hT hok kl⟩, h3, h4⟩
theorem key_inj (_hok : ∀ a ∈ L, M.ok a) (hnd : L.Pairwise fun a c => M.key a ≠ M.key c) {a c : α} (ha : a ∈ L) (hc : c ∈ L) (he : M.key a = M.key c) : a = c := by
  clear _hok
  induction L with
  | nil => cases ha
  | cons x l ih =>
    obtain ⟨h1, h2⟩ := List.pairwise_cons.1 hnd
    rcases List.mem_cons.1 ha with rfl | ha'
    · rcases List.mem_cons.1 hc with rfl | hc'
      · rfl
      · exact absurd he (h1 c hc')
    · rcases List.mem_cons.1 hc with rfl | hc'
      · exact absurd he.symm (h1 a ha')
      · exact ih h2 ha' hc'
/-- the step. -/
theorem RangeAt.next {r cnt : Nat} {rest : List α} (h : RangeAt M w b r L rest cnt) (ty : TypeId) :
    (rest = [] ∧ (Instr.next (.pointer (some ⟨r, 0, none⟩)) false ty).run P w = .ok (.tuple #[.bool false]) w) ∨
    ∃ a rest' w' cnt', rest.Perm (a :: rest') ∧ a ∈ L ∧ (Instr.next (.pointer (some ⟨r, 0, none⟩)) false ty).run P w = .ok (.tuple #[.bool true, M.kv a, M.val a]) w' ∧ RangeAt M w' b r L rest' cnt' ∧ cnt' < cnt ∧ w.grownBy w' (some r) ∧ w'.heap.size = w.heap.size ∧
      (Instr.entry (.pointer (some ⟨r, 0, none⟩))).run P w' = .ok (.tuple #[M.kv a, M.val a]) w' := by
  obtain ⟨hok, hnd, hsub, hrd, D, left, hrg, hT, hl⟩ := h
  rcases hrg.next M.K ty with ⟨_, hno, hrun⟩ | ⟨key, v, kl, y, w', cnt', hkey, hlk, hR, hat, hrun, hrg', hlt, hgr, hsz, hen⟩
  · refine .inl ⟨?_, hrun⟩
    cases rest with
    | nil => rfl
    | cons a l =>
      have := (hl (M.key a)).2 ⟨a, List.mem_cons_self .., rfl⟩
      rw [hno] at this; cases this
  · obtain ⟨a, ha, rfl⟩ := (hl kl).1 hlk
    have haL := hsub a ha
    have e1 : key = M.kv a := M.K.inj hkey (M.hkey a (hok a haL))
    have e2 : v = M.val a := by
      refine M.inv v a y.2 ?_
      rw [hR]
      have := tab_at hrg.owns hT hok haL (.lit (.bool true))
      rw [hat] at this
      rw [← this]
    subst e1 e2
    obtain ⟨l1, l2, rfl⟩ := List.append_of_mem ha
    have hp : (l1 ++ a :: l2).Perm (a :: (l1 ++ l2)) := List.perm_middle
    refine .inr ⟨a, l1 ++ l2, w', cnt', hp, haL, hrun, ⟨hok, hnd, fun c hc => hsub c ?_, ?_, D, _, hrg', hT, fun kl => ?_⟩, hlt, hgr, hsz, hen⟩
    · exact hp.mem_iff.2 (List.mem_cons_of_mem _ hc)
    · exact (List.nodup_cons.1 (hp.nodup_iff.1 hrd)).2
    · have hnd2 := List.nodup_cons.1 (hp.nodup_iff.1 hrd)
      simp only [Bool.and_eq_true, Bool.not_eq_true']
      rw [hl kl]
      constructor
      · rintro ⟨⟨c, hc, rfl⟩, hne⟩
        rcases List.mem_cons.1 (hp.mem_iff.1 hc) with rfl | hc'
        · rw [(same_iff (hok c (hsub c hc)) _).2 rfl] at hne; cases hne
        · exact ⟨c, hc', rfl⟩
      · rintro ⟨c, hc, rfl⟩
        have hcm := hp.mem_iff.2 (List.mem_cons_of_mem a hc)
        refine ⟨⟨c, hcm, rfl⟩, ?_⟩
        rw [← Bool.not_eq_true, same_iff (hok c (hsub c hcm))]
        intro he
        have := key_inj hok hnd (hsub c hcm) haL he
        subst this
        exact hnd2.1 hc
end
section
variable {P : Program} {k : TypeId} {α H : Type} {M : MK P k α H} (w : World) {ops : Array Oper} {rest : List Oper} {o : Oper} {a : Act} {Q : Exit → Act → World → Prop} {b : Nat} {L : List α}
theorem wpList_range_tab (hg : o.guard = none) (m : Operand) (t : TypeId) (hop : o.op = Op.range t m) (e : TypeId) (ht : P.underlying t = some (.map k e)) (hm : a.eval m = .map (some b)) (h : MapAt M w b L)
    (hK : ∀ w' cnt, RangeAt M w' b w.heap.size L L cnt → w.grownBy w' none → w'.heap.size = w.heap.size + 1 → wpList P ops Q rest (a.put o.dst (.pointer (some ⟨w.heap.size, 0, none⟩))) w') :
    wpList P ops Q (o :: rest) a w := by
  refine wpList_plain hg fun K' hK' => ?_
  obtain ⟨w', hrun, ⟨cnt, r1⟩, r2, r3⟩ := h.range ht
  unfold Oper.wp
  simp [execOp, hop, hm, hrun, Result.andThen]
  exact hK' _ _ (hK w' cnt r1 r2 r3)
theorem wpList_next_tab (hg : o.guard = none) (it : Operand) (hop : o.op = Op.next it false) {r cnt : Nat} {left : List α} (hit : a.eval it = .pointer (some ⟨r, 0, none⟩)) (h : RangeAt M w b r L left cnt)
    (hDone : left = [] → wpList P ops Q rest (a.put o.dst (.tuple #[.bool false])) w)
    (hMore : ∀ (x : α) (left' : List α) (w' : World) (cnt' : Nat), left.Perm (x :: left') → x ∈ L → RangeAt M w' b r L left' cnt' → cnt' < cnt → w.grownBy w' (some r) → w'.heap.size = w.heap.size →
      (Instr.entry (.pointer (some ⟨r, 0, none⟩))).run P w' = .ok (.tuple #[M.kv x, M.val x]) w' → wpList P ops Q rest (a.put o.dst (.tuple #[.bool true, M.kv x, M.val x])) w') :
    wpList P ops Q (o :: rest) a w := by
  refine wpList_plain hg fun K' hK' => ?_
  unfold Oper.wp
  rcases h.next o.type with ⟨h0, hrun⟩ | ⟨x, left', w', cnt', hp, hx, hrun, hrg, hlt, hgr, hsz, hen⟩
  · simp [execOp, hop, hit, hrun, Result.andThen]
    exact hK' _ _ (hDone h0)
  · simp [execOp, hop, hit, hrun, Result.andThen]
    exact hK' _ _ (hMore x left' w' cnt' hp hx hrg hlt hgr hsz hen)
theorem wpList_store_tab [DecidableEq Lit] (hg : o.guard = none) (m x v : Operand) (t : TypeId) (hop : o.op = Op.mapUpdate t m x v) (e : TypeId) (ht : P.underlying t = some (.map k e)) (hm : a.eval m = .map (some b)) (h : MapAt M w b L) (hn : L.length < maxLen)
    {u : α} (hu : M.ok u) (hx : a.eval x = M.kv u) (hv : a.eval v = M.val u)
    (hK : ∀ w', MapAt M w' b (u :: L.filter fun c => decide (M.key c ≠ M.key u)) → w.grownBy w' (some b) → wpList P ops Q rest (a.put o.dst undef) w') :
    wpList P ops Q (o :: rest) a w := by
  refine wpList_plain hg fun K' hK' => ?_
  obtain ⟨w', hrun, r1, r2⟩ := h.store ht hn hu
  unfold Oper.wp
  simp only [execOp, hop, hm, hx, hv, hrun, Sem.run_bind, Sem.run_pure, Result.andThen]
  exact hK' _ _ (hK w' r1 r2)
end
theorem but_then {a b c : World} {r : Option Nat} (h : a.grownBy b r) (k : b.grownBy c r) : a.grownBy c r :=
  ⟨k.os.trans h.os, k.tape.trans h.tape, k.output.trans h.output, Nat.le_trans h.size k.size, fun i hi hne => (k.block i (Nat.lt_of_lt_of_le hi h.size) hne).trans (h.block i hi hne)⟩
theorem Row1.but {w w' : World} {g r : Nat} {e : TypeId} {xs : List Value} (h : Row1 w g e xs) (hg : w.grownBy w' (some r)) (hne : g ≠ r) : Row1 w' g e xs := h.keep (hg.block g h.lt (fun e => hne (Option.some.inj e)))
end Go.Proofs.YtpdgalclnlbeaaaDoor
end
