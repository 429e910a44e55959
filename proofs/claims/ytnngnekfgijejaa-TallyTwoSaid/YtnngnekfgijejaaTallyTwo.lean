/-
  PROVED HERE: TallyTwo: of two tallies to which just t members, or fewer, told unlike things, no two unlike texts have more than half of n and t: for every number, every t, whatever each member told, or did not tell, the one and the other.
-/
import Derived.Test.YtnngnekfgijejaaTalX
import Derived.Deep.Cut
import Derived.Deep.DeepCutAuto
namespace Go.Proofs.Ytnngnekfgijejaa
open Go.ChangeShapes Go.WideShapes Go.ChangeAt Go.RowKit Go.Maps Go.Shelf Go.Proofs

theorem pvote_ok {k : Nat} {s : ByteArray} (hk : (k : Int) < 7) (hs : s.size ≤ 9223372036854775807) : (pvote k s).Ok := by
  refine ⟨⟨?_, ?_⟩, ⟨?_, ?_⟩, ⟨?_, ?_⟩, ⟨?_, ?_⟩, ?_⟩ <;> simp only <;> omega

/-- the bound that is told, below 8. -/
def tee (t0 : Int) : Nat := ((t0 % 18446744073709551616) % 8).toNat
theorem tee_lt (t0 : Int) : tee t0 < 8 := by unfold tee; omega
theorem tee_eq (t0 : Int) : wrap64 ((IntKind.u64.wrap t0).tmod 8) = (tee t0 : Nat) := by
  have h1 : IntKind.u64.wrap t0 = t0 % 18446744073709551616 := by simp [IntKind.wrap, IntKind.bits, IntKind.signed]
  have h2 := Int.emod_nonneg t0 (show (18446744073709551616 : Int) ≠ 0 by omega)
  rw [h1, Int.tmod_eq_emod_of_nonneg h2, IntWalk.wrap64_in _ ⟨by omega, by omega⟩]
  unfold tee
  omega

set_option maxRecDepth 100000 in
set_option maxHeartbeats 4000000 in
theorem tallyTwo_c (n t0 : Int) (A1 : Option Addr) (os : List ByteArray) (c1 : Nat) (A2 : Option Addr) (qs : List ByteArray) (c2 : Nat) (A3 : Option Addr) (mu : List Int) (c3 : Nat) (w : World) (hn : I64 n) (ht0 : I64 t0)
    (hA1 : Cells w A1 (os.map .string)) (hl1 : os.length ≤ 9223372036854775807) (hs1 : ∀ s ∈ os, s.size ≤ 9223372036854775807) (hA2 : Cells w A2 (qs.map .string)) (hl2 : qs.length ≤ 9223372036854775807) (hs2 : ∀ s ∈ qs, s.size ≤ 9223372036854775807)
    (hA3 : Cells w A3 (mu.map (.int .u8))) (hl3 : mu.length ≤ 9223372036854775807) (hs3 : ∀ z ∈ mu, 0 ≤ z ∧ z < 256) [DecidableEq Lit] :
    Calls Try.prog 5 #[.int .i64 n, .int .i64 t0, .slice A1 os.length c1, .slice A2 qs.length c2, .slice A3 mu.length c3] w fun e w' => e = .returned (.bool true) ∧ Below w.heap.size w w' := by
  obtain ⟨ht1, ht2⟩ := ht0
  have HS1 := hid hs1
  have HS2 := hid hs2
  have HS3 := hid hs3
  clear hs1 hs2 hs3
  go_enter Try.func5, Try.ntmps5
  cases h1 : decide ((os.length : Int) > 7) with
  | true =>
    go_wp2_with (fail)
    refine (awake_c w).mono ?_
    rintro e w1 ⟨rfl, hb1⟩
    go_wp2
    go_ret
    exact ⟨rfl, hb1⟩
  | false =>
  cases h2 : decide ((qs.length : Int) > 7) with
  | true =>
    go_wp2_with (fail)
    refine (awake_c w).mono ?_
    rintro e w1 ⟨rfl, hb1⟩
    go_wp2
    go_ret
    exact ⟨rfl, hb1⟩
  | false =>
    go_wp2_with (fail)
    refine (awake_c w).mono ?_
    rintro e w1 ⟨rfl, hb1⟩
    go_wp2_with (fail)
    refine (of_c n none [] 0 w1 hn (.inl rfl) (by simp) (fun v hv => by cases hv)).mono ?_
    rintro e w2 ⟨ga, gma, rfl, hTA, hga, hgma, hb⟩
    have hgma0 : w.heap.size ≤ gma := Nat.le_trans hb1.size hgma
    replace hb1 := below_next hb1 hb1.size hb
    clear hb
    go_wp2_with (fail)
    refine (of_c n none [] 0 w2 hn (.inl rfl) (by simp) (fun v hv => by cases hv)).mono ?_
    rintro e w3 ⟨gb, gmb, rfl, hTB, hgb, hgmb, hb⟩
    have hla := hTA.lt
    have hlb := hTB.lt
    replace hTA := hTA.below hb
    have hbs := hb1.size
    replace hb1 := below_next hb1 hb1.size hb
    have hgmb0 : w.heap.size ≤ gmb := by omega
    have hq1 : gma ≠ gb := by omega
    have hq2 : gma ≠ gmb := by omega
    have hq3 : gmb ≠ ga := by omega
    have hq4 : gmb ≠ gma := by omega
    obtain ⟨m, hm⟩ : ∃ m : Nat, memOf n = m := ⟨(memOf n).toNat, by have := memOf_le n; omega⟩
    rw [hm] at hTA hTB ⊢
    have hmb := hTA.n
    clear hb hga hgma hgb hgmb hla hlb hbs hm
    go_wp2
    go_loopw [17, 18] (fun s i wr => ∃ (k lies : Nat) (LA LB : List Vt), i = .int .i64 k ∧ s = .int .i64 lies ∧ k ≤ m ∧ Tly wr ga gma m LA ∧ Tly wr gb gmb m LB ∧ Pair m k lies LA LB ∧ Below w.heap.size w wr) (fun _ i _ => m - (intOf i).toNat)
    case atStart => exact ⟨0, 0, [], [], rfl, rfl, by omega, hTA, hTB, Pair.nil _, hb1⟩
    case round =>
      obtain ⟨k, lies, LA, LB, rfl, rfl, hk, hA, hB, hP, hbr⟩ := hrel
      clear hTA hTB hb1
      by_cases hkm0 : k < m ∧ k < os.length
      · obtain ⟨hkm, hko⟩ := hkm0
        · obtain ⟨o, ho⟩ := get_of_lt hko
          have hosz := HS1.out o (List.mem_of_getElem? ho)
          obtain ⟨b1, off1, rfl, do_⟩ := (hA1.below hbr).at_map ho
          have HO1 := hid ho
          clear ho
          have hll := hP.l
          cases h100 : decide ((o.size : Int) > 100) with
          | true =>
            go_wp2
            go_ret
            exact ⟨rfl, hbr⟩
          | false =>
            go_upto_if 76 with (fail)
            go_cut [19] from 77 to 81 (fun s wq => ∃ z : Int, s = .int .u8 z ∧ 0 ≤ z ∧ z ≤ 3 ∧ wr = wq)
            case first =>
              by_cases hkm3 : k < mu.length
              · obtain ⟨z, hz⟩ := get_of_lt hkm3
                have hzr := HS3.out z (List.mem_of_getElem? hz)
                obtain ⟨b3, off3, rfl, dz⟩ := (hA3.below hbr).at_map hz
                clear hz
                have hz0 : 0 ≤ z := hzr.1
                have hzm : z.tmod 4 = z % 4 := Int.tmod_eq_emod_of_nonneg hz0
                go_wp2
                go_meet
                case rel => exact ⟨z % 4, by simp, by omega, by omega, rfl⟩
              · go_wp2
                go_meet
                case rel => exact ⟨0, rfl, by omega, by omega, rfl⟩
            case rest =>
              obtain ⟨z, rfl, hz0, hz3, rfl⟩ := hcut
              go_upto_region 17 with (fail)
              go_cut [97] from 86 to 97 (fun s wq => ∃ b : Bool, s = .bool b ∧ (b = true → ∃ q, qs[k]? = some q ∧ q.size < 100) ∧ wr = wq)
              case first =>
                by_cases hkq : k < qs.length
                · obtain ⟨q, hq⟩ := get_of_lt hkq
                  obtain ⟨b2, off2, rfl, dq⟩ := (hA2.below hbr).at_map hq
                  have hqq := hid hq
                  clear hq
                  go_wp2
                  go_meet
                  case rel => exact ⟨_, rfl, fun h => ⟨q, hqq.out, by simp at h; omega⟩, rfl⟩
                · go_wp2
                  go_meet
                  case rel => exact ⟨false, rfl, (fun h => by cases h), rfl⟩
              case rest =>
                obtain ⟨b, rfl, hbq, rfl⟩ := hcut
                have HBQ := hid hbq
                clear hbq
                go_upto_if 97 with (fail)
                go_cut [20] from 98 to 101 (fun s wq => ∃ q, s = .string q ∧ q.size ≤ 2048 ∧ wr = wq)
                case first =>
                  cases b with
                  | true =>
                    obtain ⟨q, hq, hqz⟩ := HBQ.out rfl
                    obtain ⟨b2, off2, rfl, dq⟩ := (hA2.below hbr).at_map hq
                    have hkq := (List.getElem?_eq_some_iff.1 hq).1
                    clear hq HBQ
                    go_wp2
                    go_meet
                    case rel => exact ⟨q, rfl, by omega, rfl⟩
                  | false =>
                    go_wp2
                    go_meet
                    case rel => exact ⟨o, rfl, by simp at h100; omega, rfl⟩
                case rest =>
                  obtain ⟨q, rfl, hqz, rfl⟩ := hcut
                  clear HBQ
                  have hkm2 : (k : Int) < m := by omega
                  have ho2 : o.size ≤ 2048 := by simp at h100; omega
                  have hk7 : (k : Int) < 7 := by omega
                  have hqsz : q.size ≤ 9223372036854775807 := by omega
                  clear hA3 hA2
                  obtain rfl | rfl | rfl | rfl : z = 0 ∨ z = 1 ∨ z = 2 ∨ z = 3 := by omega
                  · go_wp2_with (fail)
                    refine (tput_c ga gma m LA (pvote k o) wr hA (pvote_ok hk7 hosz)).mono ?_
                    rintro e w5 ⟨rfl, hA, hg⟩
                    replace hB := hB.grown hg hq1 hq2
                    replace hbr := below_but hbr hg hgma0 hbr.size
                    clear hg
                    rw [pvote_put hP.a hkm2 ho2]
                    go_wp2_with (fail)
                    refine (tput_c gb gmb m LB (pvote k q) w5 hB (pvote_ok hk7 hqsz)).mono ?_
                    rintro e w6 ⟨rfl, hB, hg⟩
                    replace hA := hA.grown hg hq3 hq4
                    replace hbr := below_but hbr hg hgmb0 hbr.size
                    clear hg
                    rw [pvote_put hP.b hkm2 hqz]
                    obtain ⟨b1', off1', he1, do2⟩ := (hA1.below hbr).at_map HO1.out
                    injection he1 with he1
                    injection he1 with he2 he3
                    subst he2 he3
                    cases hqo : (q.toList == o.toList) with
                    | false =>
                      go_wp2
                      go_roundw
                      case rel => exact ⟨k + 1, lies + 1, putL m LA (pvote k o), putL m LB (pvote k q), by go_num, by go_num, by omega, hA, hB, hP.lie hkm2 ho2 hqz, hbr⟩
                      case measure => simp [intOf]; omega
                    | true =>
                      go_wp2
                      go_roundw
                      case rel => exact ⟨k + 1, lies, putL m LA (pvote k o), putL m LB (pvote k q), by go_num, rfl, by omega, hA, hB, hP.both hkm2 ho2 hqz (by simp only [bne, hqo]; rfl), hbr⟩
                      case measure => simp [intOf]; omega
                  · go_wp2_with (fail)
                    refine (tput_c gb gmb m LB (pvote k q) wr hB (pvote_ok hk7 hqsz)).mono ?_
                    rintro e w5 ⟨rfl, hB, hg⟩
                    replace hA := hA.grown hg hq3 hq4
                    replace hbr := below_but hbr hg hgmb0 hbr.size
                    clear hg
                    rw [pvote_put hP.b hkm2 hqz]
                    go_wp2
                    go_roundw
                    case rel => exact ⟨k + 1, lies, LA, putL m LB (pvote k q), by go_num, rfl, by omega, hA, hB, hP.second hkm2 hqz, hbr⟩
                    case measure => simp [intOf]; omega
                  · go_wp2_with (fail)
                    refine (tput_c ga gma m LA (pvote k o) wr hA (pvote_ok hk7 hosz)).mono ?_
                    rintro e w5 ⟨rfl, hA, hg⟩
                    replace hB := hB.grown hg hq1 hq2
                    replace hbr := below_but hbr hg hgma0 hbr.size
                    clear hg
                    rw [pvote_put hP.a hkm2 ho2]
                    go_wp2
                    go_roundw
                    case rel => exact ⟨k + 1, lies, putL m LA (pvote k o), LB, by go_num, rfl, by omega, hA, hB, hP.first hkm2 ho2, hbr⟩
                    case measure => simp [intOf]; omega
                  · go_wp2
                    go_roundw
                    case rel => exact ⟨k + 1, lies, LA, LB, by go_num, rfl, by omega, hA, hB, hP.none, hbr⟩
                    case measure => simp [intOf]; omega
      · have h2 : ¬ k < m ∨ (k < m ∧ ¬ k < os.length) := by omega
        have hkt := tee_eq t0
        have htt := tee_lt t0
        generalize tee t0 = tt at *
        have hll := hP.l
        have hmb7 := hB.n
        clear hkm0 hA2 hA3 HS1 HS2 HS3
        by_cases hlt : tt < lies
        · rcases h2 with h2 | ⟨h2a, h2b⟩
          all_goals
            go_wp2
            go_ret
            exact ⟨rfl, hbr⟩
        · have hlt2 : lies ≤ tt := by omega
          rcases h2 with h2 | ⟨h2a, h2b⟩
          all_goals
            go_wp2_with (fail)
            rw [hkt]
            refine (votes_c ga gma m LA wr hA).mono ?_
            rintro e w5 ⟨v5, rfl, hown, hb⟩
            obtain ⟨A5, c5, rfl, -⟩ := hown.form
            have hA5 := hA.below hb
            have hB5 := hB.below hb
            have hb5 := below_next hbr hbr.size hb
            have hlenA := hA.len
            have hc5 := hown.cellsV
            clear hb hown hkt
            go_wp2
            generalize wr = w0 at *
            go_loopw [153] (fun i wo => ∃ j : Nat, i = .int .i64 j ∧ j ≤ LA.length ∧ Below w5.heap.size w5 wo) (fun i _ => LA.length - (intOf i).toNat)
            case atStart => exact ⟨0, rfl, by omega, Below.refl _ _⟩
            case round =>
              obtain ⟨j, rfl, hj, hbo⟩ := hrel
              by_cases hjl : j < LA.length
              · obtain ⟨x, hx⟩ := get_of_lt hjl
                obtain ⟨b, off, rfl, hbl, d0, d1, d2, d3, d4⟩ := (hc5.below hbo).at_ hx
                have hVx := row1_new wr (vcl x) 30
                have hb6 := hbo.alloc hbo.size (.cells (vcl x).toArray 30)
                simp only [List.toArray] at hVx hb6
                have hA6 := hA5.below hb6
                have hB6 := hB5.below hb6
                have hlx := hVx.lt
                clear hx
                go_wp2_with (fail)
                refine (votes_c gb gmb m LB _ hB6).mono ?_
                rintro e w7 ⟨v7, rfl, hown7, hb7⟩
                obtain ⟨A7, c7, rfl, -⟩ := hown7.form
                have hlenB := hB6.len
                have hc7 := hown7.cellsV
                have hb7' := below_next hb6 hb6.size hb7
                have hV7 := hVx.below hb7
                have hA7 := hA6.below hb7
                have hB7 := hB6.below hb7
                clear hown7 hb6 hb7 hVx hA6 hB6 d0 d1 d2 d3 d4 hlx
                go_wp2
                generalize wr = w6 at *
                go_loopw [160] (fun i wo => ∃ j : Nat, i = .int .i64 j ∧ j ≤ LB.length ∧ Below w7.heap.size w7 wo) (fun i _ => LB.length - (intOf i).toNat)
                case atStart => exact ⟨0, rfl, by omega, Below.refl _ _⟩
                case round =>
                  obtain ⟨i, rfl, hi, hbi⟩ := hrel
                  by_cases hil : i < LB.length
                  · obtain ⟨y, hy⟩ := get_of_lt hil
                    obtain ⟨by_, offy, rfl, hbly, d0, d1, d2, d3, d4⟩ := (hc7.below hbi).at_ hy
                    have hVy := row1_new wr (vcl y) 30
                    have hb8 := hbi.alloc hbi.size (.cells (vcl y).toArray 30)
                    simp only [List.toArray] at hVy hb8
                    have hV8 := hV7.below hb8
                    have hA8 := hA7.below hb8
                    have hB8 := hB7.below hb8
                    obtain ⟨x0, x1, x2, x3, x4⟩ := hV8.five
                    obtain ⟨y0, y1, y2, y3, y4⟩ := hVy.five
                    clear hy
                    cases hxy : (x.tx.toList == y.tx.toList) with
                    | true =>
                      go_wp2
                      go_roundw
                      case rel => exact ⟨i + 1, by go_num, by omega, hb8⟩
                      case measure => simp [intOf]; omega
                    | false =>
                      have hcc := hP.c x.tx y.tx hxy
                      have hle1 : cntN (pCnt 0 3 x.tx) LA ≤ LA.length := List.length_filter_le _ _
                      have hle2 : cntN (pCnt 0 3 y.tx) LB ≤ LB.length := List.length_filter_le _ _
                      go_wp2_with (fail)
                      refine (tcount_c ga gma m LA 0 3 x.tx _ hA8).mono ?_
                      rintro e w9 ⟨rfl, hb9⟩
                      replace hB8 := hB8.below hb9
                      replace hb8 := below_next hb8 hb8.size hb9
                      obtain ⟨y0, y1, y2, y3, y4⟩ := (hVy.below hb9).five
                      clear hb9 hA8
                      by_cases h2a : (m : Int) + tt < 2 * cntN (pCnt 0 3 x.tx) LA
                      · have h2a' : decide (2 * (cntN (pCnt 0 3 x.tx) LA : Int) > (m : Int) + tt) = true := decide_eq_true h2a
                        go_wp2_with (fail)
                        refine (tcount_c gb gmb m LB 0 3 y.tx w9 hB8).mono ?_
                        rintro e w10 ⟨rfl, hb10⟩
                        replace hb8 := below_next hb8 hb8.size hb10
                        have h2b : ¬ ((m : Int) + tt < 2 * cntN (pCnt 0 3 y.tx) LB) := by omega
                        have h2b' : decide (2 * (cntN (pCnt 0 3 y.tx) LB : Int) > (m : Int) + tt) = false := decide_eq_false h2b
                        clear hb10 hcc hB8
                        go_wp2
                        go_roundw
                        case rel => exact ⟨i + 1, by go_num, by omega, hb8⟩
                        case measure => simp [intOf]; omega
                      · have h2a' : decide (2 * (cntN (pCnt 0 3 x.tx) LA : Int) > (m : Int) + tt) = false := decide_eq_false h2a
                        clear hB8 hcc
                        go_wp2
                        go_roundw
                        case rel => exact ⟨i + 1, by go_num, by omega, hb8⟩
                        case measure => simp [intOf]; omega
                  · obtain rfl : i = LB.length := by omega
                    have hb8 := below_next hb7' hb7'.size hbi
                    go_wp2
                    go_roundw
                    case rel => exact ⟨j + 1, by go_num, by omega, hb8⟩
                    case measure => simp [intOf]; omega
              · obtain rfl : j = LA.length := by omega
                have hb8 := below_next hb5 hb5.size hbo
                go_wp2
                go_ret
                exact ⟨rfl, hb8⟩

set_option maxRecDepth 100000 in
theorem tallyTwo_lifted (os : Os) (started : os.Started) (H : Type) (enc : TypeId × Value → H) :
    ReturnsInHanded {} Try.checked os 5 .any (Rows.tallyTwoSpec.pre6 enc Try.prog Try.f5 Rows.tallyTwoRow.domain false) (Rows.tallyTwoSpec.post enc Try.prog Try.f5 false true false false) := by
  haveI : DecidableEq Lit := fun a b => Classical.propDecidable (a = b)
  refine returnsInHanded_of_change (C := Try.checked) Try.own started (by kernel_rfl) Try.func5
    (ChangeSpec.witness6 (enc := enc) (C := Try.checked) false ⟨#[], #[.int .i64 0, .int .i64 0, .slice none 0 0, .slice none 0 0, .slice none 0 0], []⟩ 8 (by kernel_rfl) (by kernel_rfl) (by kernel_rfl) (by kernel_rfl)) ?_
  intro W base args ds gs before hval0 hW hcnd _
  have hval : ∀ (j : Nat) t v, Try.f5.params[j]? = some t → args[j]? = some v → Value.okWide Try.prog W .any base t v := hval0
  have hW' := hW
  obtain ⟨p, q, hA0, hV, rfl, hfz, hnd⟩ := hW
  have hA : DataW.TrodAll enc Try.prog W 0 (fun _ => true) true Try.f5.params.toList args.toList ds p := hA0
  rw [Try.params5] at hA hval
  obtain ⟨v0, v1, v2, v3, v4, d0, d1, d2, d3, d4, p0, p1, p2, p3, p4, rfl, rfl, rfl, h0, h1, h2, h3, h4⟩ := trodAll_five' hA
  obtain ⟨rfl, rfl⟩ := trodVars_none hV
  obtain ⟨x0, rfl, _, _, w0⟩ := open_int Try.underlying3 (hval 0 3 v0 rfl rfl) h0
  obtain ⟨x1, rfl, _, _, w1⟩ := open_int Try.underlying3 (hval 1 3 v1 rfl rfl) h1
  obtain ⟨_, k2⟩ := one_ofV Try.underlying34 (hval 2 34 v2 rfl rfl) h2
  obtain ⟨A2, x2, c2, rfl, a2, b2, e2⟩ := texts_at k2
  obtain ⟨_, k3⟩ := one_ofV Try.underlying34 (hval 3 34 v3 rfl rfl) h3
  obtain ⟨A3, x3, c3, rfl, a3, b3, e3⟩ := texts_at k3
  obtain ⟨_, k4⟩ := one_ofV Try.underlying41 (hval 4 41 v4 rfl rfl) h4
  obtain ⟨A4, x4, c4, rfl, a4, b4, e4⟩ := bytes_at k4
  clear hA0 hval0
  refine (tallyTwo_c x0 x1 A2 x2 c2 A3 x3 c3 A4 x4 c4 W (i64_of w0) (i64_of w1) a2 b2 e2 a3 b3 e3 a4 b4 e4).mono fun e W' ⟨he, hb⟩ => ?_
  subst he
  exact ⟨_, rfl, post_true hW' hb Try.laidOut (by kernel_rfl) rfl rfl rfl rfl rfl Try.underlying4⟩

theorem tallyTwo_holds : Rows.TallyTwoSaid :=
  OpenClaim.holds_of_wide 5 Try.f5 rfl rfl rfl rfl rfl rfl rfl ⟨rfl, rfl, rfl, rfl, rfl⟩ rfl rfl rfl rfl rfl (by kernel_rfl) Try.func5 (by kernel_rfl)
    (of_decide_eq_true (by kernel_rfl)) (by unfold Func.isWrapper; first | (rw [if_pos (by decide +kernel)]; kernel_rfl) | (rw [if_neg (by decide +kernel)]; exact ⟨rfl, rfl⟩))
    (fun os started H enc _ => tallyTwo_lifted os started H enc)
#print axioms tallyTwo_holds

end Go.Proofs.Ytnngnekfgijejaa
