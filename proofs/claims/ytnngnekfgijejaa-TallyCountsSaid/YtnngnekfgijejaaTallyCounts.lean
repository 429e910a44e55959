/-
  PROVED HERE: TallyCounts: of each round and Kind the counts of all texts that were sent come to All, that is no more than Sent, nor that than n; Sent is above 0 just in the rounds that are told; two unlike texts are counted n times together at most: for every number, every votes, round, Kind and texts.
-/
import Derived.Test.YtnngnekfgijejaaTalW
namespace Go.Proofs.Ytnngnekfgijejaa
open Go.ChangeShapes Go.WideShapes Go.ChangeAt Go.RowKit Go.Maps Go.Shelf Go.Proofs

theorem elt_str : Elt Try.prog 34 9 (.string ⟨#[]⟩) 16 := Elt.of Try.underlying34 (by kernel_rfl) rfl

theorem cntN_le (p : Vt → Bool) (L : List Vt) : cntN p L ≤ L.length := List.length_filter_le _ _
theorem sumT_le (r k : Int) (L : List Vt) (ts : List ByteArray) : sumT r k L ts ≤ ts.length * L.length := by
  induction ts with
  | nil => simp [sumT]
  | cons a ts ih =>
    have := cntN_le (pCnt r k a) L
    rw [sumT, List.length_cons, Nat.add_mul, Nat.one_mul]
    omega

set_option maxRecDepth 100000 in
set_option maxHeartbeats 4000000 in
theorem tallyCounts_c (n : Int) (A : Option Addr) (l : List Vt) (c : Nat) (rnd kd : Int) (x y : ByteArray) (w : World) (hn : I64 n) (hA : CellsV w A l) (hl : l.length ≤ 9223372036854775807) (ho : Oks l) (hr : I64 rnd) (hk : 0 ≤ kd ∧ kd < 256) (hx : x.size ≤ 9223372036854775807) (hy : y.size ≤ 9223372036854775807) [DecidableEq Lit] :
    Calls Try.prog 4 #[.int .i64 n, .slice A l.length c, .int .i64 rnd, .int .u8 kd, .string x, .string y] w fun e w' => e = .returned (.bool true) ∧ Below w.heap.size w w' := by
  have HO := hid ho
  clear ho
  go_enter Try.func4, Try.ntmps4
  go_wp2_with (fail)
  refine (long_c A l c w hA hl HO.out).mono ?_
  rintro e _ ⟨⟨b, rfl⟩, rfl⟩
  cases b with
  | true =>
    go_wp2_with (fail)
    refine (awake_c w).mono ?_
    rintro e w1 ⟨rfl, hb1⟩
    go_wp2
    go_ret
    exact ⟨rfl, hb1⟩
  | false =>
  cases h3 : decide ((x.size : Int) > 3000) with
  | true =>
    go_wp2_with (fail)
    refine (awake_c w).mono ?_
    rintro e w1 ⟨rfl, hb1⟩
    go_wp2
    go_ret
    exact ⟨rfl, hb1⟩
  | false =>
  cases h4 : decide ((y.size : Int) > 3000) with
  | true =>
    go_wp2_with (fail)
    refine (awake_c w).mono ?_
    rintro e w1 ⟨rfl, hb1⟩
    go_wp2
    go_ret
    exact ⟨rfl, hb1⟩
  | false =>
    go_wp2_with (fail)
    refine (awake_c w).mono ?_
    rintro e w1 ⟨rfl, hb1⟩
    go_wp2_with (fail)
    refine (of_c n A l c w1 hn (hA.below hb1) hl HO.out).mono ?_
    rintro e w2 ⟨g, gm, rfl, hT, hg, hgm, hb2⟩
    replace hb2 := below_next hb1 hb1.size hb2
    generalize putAll (memOf n) [] l = L at *
    obtain ⟨m, hm⟩ : ∃ m : Nat, memOf n = m := ⟨(memOf n).toNat, by have := memOf_le n; omega⟩
    rw [hm] at hT ⊢
    clear hb1 hg hgm hA hm
    go_wp2_with (fail)
    refine (votes_c g gm m L w2 hT).mono ?_
    rintro e w3 ⟨v, rfl, hown, hb⟩
    obtain ⟨A3, c3, rfl, -⟩ := hown.form
    replace hT := hT.below hb
    replace hb2 := below_next hb2 hb2.size hb
    have hlen := hT.len
    have hc3 := hown.cellsV
    clear hb hown
    go_wp2
    go_loopw [16, 55] (fun o i wr => ∃ k : Nat, i = .int .i64 k ∧ k ≤ L.length ∧ Own wr w3.heap.size 9 o ((txs rnd kd (L.take k)).map .string) ∧ Below w3.heap.size w3 wr) (fun _ i _ => L.length - (intOf i).toNat)
    case atStart => exact ⟨0, rfl, by omega, Own.nil _ _ _, Below.refl _ _⟩
    case round =>
      obtain ⟨k, rfl, hk, hoK, hbr⟩ := hrel
      obtain ⟨A6, c6, rfl, -⟩ := hoK.form
      rw [List.length_map] at hoK ⊢
      by_cases hlt : k < L.length
      · obtain ⟨v, hv⟩ := get_of_lt hlt
        obtain ⟨b, off, rfl, hbl, d0, d1, d2, d3, d4⟩ := (hc3.below hbr).at_ hv
        have htl := txs_len rnd kd (L.take k)
        have htn := hid (show txs rnd kd (L.take (k + 1)) = txStep rnd kd (txs rnd kd (L.take k)) v by rw [List.take_add_one, hv]; exact txs_snoc _ _ _ _)
        rw [List.length_take] at htl
        have htl2 : (txs rnd kd (L.take k)).length ≤ 10000 := by omega
        generalize txs rnd kd (L.take k) = ts at *
        have hoK2 := hoK.alloc (.cells (vcl v).toArray 30)
        have hV := row1_new wr (vcl v) 30
        have hbr2 := hbr.alloc hbr.size (.cells (vcl v).toArray 30)
        simp only [List.toArray] at hoK2 hV hbr2
        clear hv hoK htl
        cases e1 : (v.rd != rnd) <;> cases e2 : (v.kd != kd)
        all_goals
          go_wp2
          generalize wr.alloc (.cells #[.int .i64 v.fr, .int .i64 v.rd, .int .u8 v.kd, .int .i64 v.va, .string v.tx] 30) = w4 at *
          generalize wr = wo at *
          go_loopw [19, 20] (fun h j wq => ∃ (jj : Nat) (b : Bool), j = .int .i64 jj ∧ jj ≤ ts.length ∧ h = .bool b ∧ b = hadB rnd kd (ts.take jj) v ∧ Dr w4 wq) (fun _ j _ => ts.length - (intOf j).toNat)
          case atStart => exact ⟨0, _, rfl, by omega, rfl, by simp [hadB, e1, e2], Dr.refl _⟩
          case round =>
            obtain ⟨jj, b, rfl, hj, rfl, hb, hw⟩ := hrel
            have hB := hid hb
            have hown := hoK2.dr hw
            obtain ⟨v0, v1, v2, v3, v4⟩ := (hV.dr hw).five
            have hbq := below_dr hbr2 hw
            clear hb
            by_cases hjl : jj < ts.length
            · obtain ⟨t, ht⟩ := get_of_lt hjl
              obtain ⟨A7, c7, he7, hc7⟩ := hown.form
              simp only [Value.slice.injEq] at he7
              obtain ⟨rfl, -, -⟩ := he7
              obtain ⟨o2, off2, rfl, ht0⟩ := hc7.at_map ht
              cases b with
              | true =>
                have hT2 := hid (show hadB rnd kd ts v = true by
                  have := hB.out
                  simp only [hadB] at this ⊢
                  cases h1 : (v.rd != rnd) <;> cases h2 : (v.kd != kd) <;> rw [h1, h2] at this <;> simp only [Bool.or_true, Bool.true_or, Bool.false_or] at this ⊢
                  obtain ⟨s, hs, hse⟩ := List.any_eq_true.1 this.symm
                  exact List.any_eq_true.2 ⟨s, List.mem_of_mem_take hs, hse⟩)
                clear ht hc7
                go_wp2
                go_roundw
                case rel => exact ⟨k + 1, by go_num, by omega, by rw [htn.out, txStep, hT2.out]; exact hown, hbq⟩
                case measure => simp [intOf]; omega
              | false =>
                have hN := hid (show (t.toList == v.tx.toList) = hadB rnd kd (ts.take (jj + 1)) v by
                  have := hB.out
                  simp only [hadB] at this ⊢
                  rw [List.take_add_one, ht, List.any_append]
                  cases h1 : (v.rd != rnd) <;> cases h2 : (v.kd != kd) <;> rw [h1, h2] at this <;> simp only [Bool.or_true, Bool.true_or, Bool.false_or, Bool.false_eq_true] at this ⊢
                  · rw [← this]; simp
                  all_goals cases this)
                clear ht hc7
                go_wp2
                go_quiet (fail)
                go_wp2
                go_roundw
                case rel => exact ⟨jj + 1, _, by go_num, by omega, rfl, hN.out, hw.more _⟩
                case measure => simp [intOf]; omega
            · obtain rfl : jj = ts.length := by omega
              rw [List.take_length] at hB
              cases b with
              | true =>
                go_wp2
                go_roundw
                case rel => exact ⟨k + 1, by go_num, by omega, by rw [htn.out, txStep, ← hB.out]; exact hown, hbq⟩
                case measure => simp [intOf]; omega
              | false =>
                have hl := hid (show (ts.map Value.string).length = ts.length by simp)
                have hbsz := hbq.size
                go_wp2_with (at_builtin; refine wpList_push elt_str wr rfl _ _ rfl w3.heap.size hown rfl (.string v.tx) rfl rfl (by rw [hl.out]; omega) (by rw [hl.out]; omega) hbsz ?_; intro v' w6 hown6 _ hb6)
                go_roundw
                case rel => exact ⟨k + 1, by go_num, by omega, by rw [htn.out, txStep, ← hB.out]; simpa using hown6, hbq.trans hb6⟩
                case measure => simp [intOf]; omega
      · obtain rfl : k = L.length := by omega
        rw [List.take_length] at hoK ⊢
        have htl := txs_len rnd kd L
        have HSA := hid (sum_all rnd kd L)
        generalize txs rnd kd L = ts at *
        replace hT := hT.below hbr
        replace hb2 := below_next hb2 hb2.size hbr
        clear hbr hc3
        generalize wr = wo at *
        go_wp2
        go_loopw [21, 22] (fun s i wq => ∃ k : Nat, i = .int .i64 k ∧ k ≤ ts.length ∧ s = .int .i64 (sumT rnd kd L (ts.take k)) ∧ Below wo.heap.size wo wq) (fun _ i _ => ts.length - (intOf i).toNat)
        case atStart => exact ⟨0, rfl, by omega, rfl, Below.refl _ _⟩
        case round =>
          obtain ⟨k, rfl, hk, rfl, hbq⟩ := hrel
          by_cases hlt : k < ts.length
          · obtain ⟨t, ht⟩ := get_of_lt hlt
            obtain ⟨A7, c7, he7, hc7⟩ := (hoK.below hbq).form
            simp only [Value.slice.injEq] at he7
            obtain ⟨rfl, -, -⟩ := he7
            obtain ⟨o2, off2, rfl, ht0⟩ := hc7.at_map ht
            have hst := hid (show sumT rnd kd L (ts.take (k + 1)) = sumT rnd kd L (ts.take k) + cntN (pCnt rnd kd t) L by rw [List.take_add_one, ht]; exact sumT_snoc _ _ _ _ _)
            have hle := sumT_le rnd kd L (ts.take k)
            have hle2 := cntN_le (pCnt rnd kd t) L
            have hle3 : (ts.take k).length * L.length ≤ 10000 * 10000 := Nat.mul_le_mul (by rw [List.length_take]; omega) hlen
            generalize sumT rnd kd L (ts.take k) = s at *
            have hle4 : (s : Int) ≤ 100000000 := by omega
            have hle5 : (cntN (pCnt rnd kd t) L : Int) ≤ 10000 := by omega
            have hTq := hT.below hbq
            clear ht hc7 hle hle3
            go_wp2_with (fail)
            refine (tcount_c g gm m L rnd kd t wr hTq).mono ?_
            rintro e w6 ⟨rfl, hb⟩
            have hbq6 := below_next hbq hbq.size hb
            go_wp2
            go_roundw
            case rel => exact ⟨k + 1, by go_num, by omega, by rw [hst.out]; go_num, hbq6⟩
            case measure => simp [intOf]; omega
          · obtain rfl : k = ts.length := by omega
            rw [List.take_length, HSA.out]
            replace hT := hT.below hbq
            replace hb2 := below_next hb2 hb2.size hbq
            clear hbq hoK HSA
            go_wp2_with (fail)
            refine (rounds_c g gm m L wr hT).mono ?_
            rintro e w7 ⟨v7, rfl, ho7, hb⟩
            replace hT := hT.below hb
            replace hb2 := below_next hb2 hb2.size hb
            obtain ⟨A7, c7, rfl, hc7⟩ := ho7.form
            rw [List.length_map]
            have hml := ho7.len_le
            rw [List.length_map] at hml
            have HMR := hid (mem_rnd L rnd)
            generalize rndL L = rs at *
            clear ho7 hb
            go_wp2
            go_loop [23, 113] (fun b i => ∃ k : Nat, i = .int .i64 k ∧ k ≤ rs.length ∧ b = .bool ((rs.take k).any fun r => r == rnd)) (fun _ i => rs.length - (intOf i).toNat)
            case atStart => exact ⟨0, rfl, by omega, rfl⟩
            case round =>
              obtain ⟨k, rfl, hk, rfl⟩ := hrel
              by_cases hlt2 : k < rs.length
              · obtain ⟨r, hr2⟩ := get_of_lt hlt2
                obtain ⟨o2, off2, rfl, hr0⟩ := hc7.at_map hr2
                have hst := hid (show ((rs.take (k + 1)).any fun r => r == rnd) = (((rs.take k).any fun r => r == rnd) || (r == rnd)) by rw [List.take_add_one, hr2, List.any_append]; simp)
                clear hr2
                cases hq : (rs.take k).any fun r => r == rnd with
                | true =>
                  rw [hq] at hst
                  have HQ := hid hq
                  clear hq
                  go_wp2
                  go_round
                  case rel => exact ⟨k + 1, by go_num, by omega, by rw [hst.out]; rfl⟩
                  case measure => simp [intOf]; omega
                | false =>
                  rw [hq] at hst
                  have HQ := hid hq
                  clear hq
                  go_wp2
                  go_round
                  case rel => exact ⟨k + 1, by go_num, by omega, by rw [hst.out]; rfl⟩
                  case measure => simp [intOf]; omega
              · obtain rfl : k = rs.length := by omega
                rw [List.take_length]
                have hAS : cntN (pAll rnd kd) L ≤ sentT rnd L L.length := by
                  rw [← memN_cnt (n := m) (r := rnd) (k := kd) (p := pAll rnd kd) (fun v hv => by simpa [pAll] using hv) L hT.srt hT.mays, ← memN_sent (n := m) rnd L hT.srt hT.mays]
                  exact memN_mono fun v hv => by simp only [pAll, Bool.and_eq_true] at hv; exact hv.1
                have hSm : sentT rnd L L.length ≤ m := by
                  rw [← memN_sent (n := m) rnd L hT.srt hT.mays]
                  exact memN_lt hT.mays
                have hTS : (rs.any fun r => r == rnd) = decide (0 < sentT rnd L L.length) := by
                  rw [Bool.eq_iff_iff, decide_eq_true_eq, ← memN_sent (n := m) rnd L hT.srt hT.mays, memN_pos hT.mays, List.any_eq_true]
                  constructor
                  · rintro ⟨r, hr1, hr2⟩
                    obtain ⟨v, hv, he⟩ := HMR.out.1 (by rw [← eq_of_beq hr2]; exact hr1)
                    exact ⟨v, hv, by simpa using he⟩
                  · rintro ⟨v, hv, he⟩
                    exact ⟨rnd, HMR.out.2 ⟨v, hv, by simpa using he⟩, by simp⟩
                rw [hTS]
                have hxy := fun hne => Nat.le_trans (Nat.le_trans (two_le rnd kd x y hne L) hAS) hSm
                have HXY := hid hxy
                obtain ⟨sA, hsA⟩ : ∃ k, cntN (pAll rnd kd) L = k := ⟨_, rfl⟩
                obtain ⟨sS, hsS⟩ : ∃ k, sentT rnd L L.length = k := ⟨_, rfl⟩
                rw [hsA] at hAS ⊢
                rw [hsS] at hAS hSm ⊢
                have HA := hid hsA
                have HS := hid hsS
                have hmb := hT.n
                have hne : (((sA : Nat) : Int) != sA) = false := by simp
                clear hsA hsS hTS hxy hc7 HMR
                cases hz : decide (0 < sS)
                all_goals
                  go_wp2_with (fail)
                  refine (tall_c g gm m L rnd kd w7 hT).mono ?_
                  rintro e w8 ⟨rfl, hb⟩
                  rw [HA.out]
                  replace hT := hT.below hb
                  replace hb2 := below_next hb2 hb2.size hb
                  clear hb
                  go_wp2_with (fail)
                  refine (tsent_c g gm m L rnd w8 hT).mono ?_
                  rintro e w9 ⟨rfl, hb⟩
                  rw [HS.out]
                  replace hT := hT.below hb
                  replace hb2 := below_next hb2 hb2.size hb
                  clear hb
                  go_wp2_with (fail)
                  refine (tsent_c g gm m L rnd w9 hT).mono ?_
                  rintro e w10 ⟨rfl, hb⟩
                  rw [HS.out]
                  replace hT := hT.below hb
                  replace hb2 := below_next hb2 hb2.size hb
                  clear hb
                  go_wp2_with (fail)
                  refine (tsent_c g gm m L rnd w10 hT).mono ?_
                  rintro e w11 ⟨rfl, hb⟩
                  rw [HS.out]
                  replace hT := hT.below hb
                  replace hb2 := below_next hb2 hb2.size hb
                  clear hb
                  cases hq : (x.toList == y.toList) with
                  | true =>
                    first
                      | (have q1 : 0 < sS := of_decide_eq_true hz)
                      | (obtain rfl : sS = 0 := by simp at hz; omega)
                    go_wp2
                    go_ret
                    exact ⟨rfl, hb2⟩
                  | false =>
                    have hle := HXY.out hq
                    have hb3 := cntN_le (pCnt rnd kd x) L
                    have hb4 := cntN_le (pCnt rnd kd y) L
                    obtain ⟨k1, hk1⟩ : ∃ k, cntN (pCnt rnd kd x) L = k := ⟨_, rfl⟩
                    obtain ⟨k2, hk2⟩ : ∃ k, cntN (pCnt rnd kd y) L = k := ⟨_, rfl⟩
                    rw [hk1] at hle hb3
                    rw [hk2] at hle hb4
                    have HK1 := hid hk1
                    have HK2 := hid hk2
                    have hk1b : (k1 : Int) ≤ 10000 := by omega
                    have hk2b : (k2 : Int) ≤ 10000 := by omega
                    have hle2 : (k1 : Int) + (k2 : Int) ≤ (m : Int) := by omega
                    clear hk1 hk2 hb3 hb4 hle
                    first
                      | (have q1 : 0 < sS := of_decide_eq_true hz)
                      | (obtain rfl : sS = 0 := by simp at hz; omega)
                    go_wp2_with (fail)
                    refine (tcount_c g gm m L rnd kd x w11 hT).mono ?_
                    rintro e w12 ⟨rfl, hb⟩
                    rw [HK1.out]
                    replace hT := hT.below hb
                    replace hb2 := below_next hb2 hb2.size hb
                    clear hb
                    go_wp2_with (fail)
                    refine (tcount_c g gm m L rnd kd y w12 hT).mono ?_
                    rintro e w13 ⟨rfl, hb⟩
                    rw [HK2.out]
                    replace hb2 := below_next hb2 hb2.size hb
                    clear hb
                    go_wp2
                    go_ret
                    exact ⟨rfl, hb2⟩

set_option maxRecDepth 100000 in
theorem tallyCounts_lifted (os : Os) (started : os.Started) (H : Type) (enc : TypeId × Value → H) :
    ReturnsInHanded {} Try.checked os 4 .any (Rows.tallyCountsSpec.pre6 enc Try.prog Try.f4 Rows.tallyCountsRow.domain false) (Rows.tallyCountsSpec.post enc Try.prog Try.f4 false true false false) := by
  haveI : DecidableEq Lit := fun a b => Classical.propDecidable (a = b)
  refine returnsInHanded_of_change (C := Try.checked) Try.own started (by kernel_rfl) Try.func4
    (ChangeSpec.witness6 (enc := enc) (C := Try.checked) false ⟨#[], #[.int .i64 0, .slice none 0 0, .int .i64 0, .int .u8 0, .string ⟨#[]⟩, .string ⟨#[]⟩], []⟩ 8 (by kernel_rfl) (by kernel_rfl) (by kernel_rfl) (by kernel_rfl)) ?_
  intro W base args ds gs before hval0 hW hcnd _
  have hval : ∀ (j : Nat) t v, Try.f4.params[j]? = some t → args[j]? = some v → Value.okWide Try.prog W .any base t v := hval0
  have hW' := hW
  obtain ⟨p, q, hA0, hV, rfl, hfz, hnd⟩ := hW
  have hA : DataW.TrodAll enc Try.prog W 0 (fun _ => true) true Try.f4.params.toList args.toList ds p := hA0
  rw [Try.params4] at hA hval
  obtain ⟨v0, v1, v2, v3, v4, v5, d0, d1, d2, d3, d4, d5, p0, p1, p2, p3, p4, p5, rfl, rfl, rfl, h0, h1, h2, h3, h4, h5⟩ := trodAll_six' hA
  obtain ⟨rfl, rfl⟩ := trodVars_none hV
  obtain ⟨x0, rfl, _, _, w0⟩ := open_int Try.underlying3 (hval 0 3 v0 rfl rfl) h0
  obtain ⟨_, k1⟩ := one_ofV Try.underlying22 (hval 1 22 v1 rfl rfl) h1
  obtain ⟨A1, x1, c1, rfl, a1, b1, e1⟩ := votes_at k1
  obtain ⟨x2, rfl, _, _, w2⟩ := open_int Try.underlying3 (hval 2 3 v2 rfl rfl) h2
  obtain ⟨x3, rfl, _, _, w3⟩ := open_int Try.underlying5 (hval 3 5 v3 rfl rfl) h3
  obtain ⟨x4, rfl, _, _, w4⟩ := Go.ChangeMaps.open_string Try.underlying9 (hval 4 9 v4 rfl rfl) h4
  obtain ⟨x5, rfl, _, _, w5⟩ := Go.ChangeMaps.open_string Try.underlying9 (hval 5 9 v5 rfl rfl) h5
  clear hA0 hval0
  refine (tallyCounts_c x0 A1 x1 c1 x2 x3 x4 x5 W (i64_of w0) a1 b1 e1 (i64_of w2) (u8_of w3) (by unfold maxLen at w4; omega) (by unfold maxLen at w5; omega)).mono fun e W' ⟨he, hb⟩ => ?_
  subst he
  exact ⟨_, rfl, post_true hW' hb Try.laidOut (by kernel_rfl) rfl rfl rfl rfl rfl Try.underlying4⟩

theorem tallyCounts_holds : Rows.TallyCountsSaid :=
  OpenClaim.holds_of_wide 4 Try.f4 rfl rfl rfl rfl rfl rfl rfl ⟨rfl, rfl, rfl, rfl, rfl⟩ rfl rfl rfl rfl rfl (by kernel_rfl) Try.func4 (by kernel_rfl)
    (of_decide_eq_true (by kernel_rfl)) (by unfold Func.isWrapper; first | (rw [if_pos (by decide +kernel)]; kernel_rfl) | (rw [if_neg (by decide +kernel)]; exact ⟨rfl, rfl⟩))
    (fun os started H enc _ => tallyCounts_lifted os started H enc)
#print axioms tallyCounts_holds

end Go.Proofs.Ytnngnekfgijejaa
