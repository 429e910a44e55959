/-
  PROVED HERE: TallyApart: what is put for one round changes nothing of others, and what is done to a copy is not seen: for every number, every votes, one more vote, whatever other round, Kind and text.
-/
import Derived.Test.YtnngnekfgijejaaTalV
namespace Go.Proofs.Ytnngnekfgijejaa
open Go.ChangeShapes Go.WideShapes Go.ChangeAt Go.RowKit Go.Maps Go.Shelf Go.Proofs

set_option maxRecDepth 100000 in
set_option maxHeartbeats 4000000 in
theorem tallyApart_c (n : Int) (A : Option Addr) (l : List Vt) (c : Nat) (v : Vt) (rnd kd : Int) (text : ByteArray) (w : World) (hn : I64 n) (hA : CellsV w A l) (hl : l.length ≤ 9223372036854775807) (ho : Oks l) (hv : v.Ok) (hr : I64 rnd) (hk : 0 ≤ kd ∧ kd < 256) (ht : text.size ≤ 9223372036854775807) [DecidableEq Lit] :
    Calls Try.prog 9 #[.int .i64 n, .slice A l.length c, vval v, .int .i64 rnd, .int .u8 kd, .string text] w fun e w' => e = .returned (.bool true) ∧ Below w.heap.size w w' := by
  have HO := hid ho
  have hR := row1_new w (vcl v) 30
  have hB := below_alloc w (.cells (vcl v).toArray 30)
  have hA1 := hA.below hB
  simp only [List.toArray] at hR hB hA1
  clear ho hA
  go_enter Try.func9, Try.ntmps9
  go_wp2_with (fail)
  generalize w.alloc (.cells #[.int .i64 v.fr, .int .i64 v.rd, .int .u8 v.kd, .int .i64 v.va, .string v.tx] 30) = w1 at *
  refine (long_c A l c w1 hA1 hl HO.out).mono ?_
  rintro e _ ⟨⟨b, rfl⟩, rfl⟩
  cases b with
  | true =>
    go_wp2_with (fail)
    refine (awake_c w1).mono ?_
    rintro e w2 ⟨rfl, hb1⟩
    go_wp2
    go_ret
    exact ⟨rfl, below_next hB hB.size hb1⟩
  | false =>
    obtain ⟨d0, d1, d2, d3, d4⟩ := hR.five
    have hl1 : CellsV (w1.alloc (.cells (vcl v).toArray 30)) (some ⟨w1.heap.size, 0, none⟩) [v] := by
      have := (row1_new w1 (vcl v) 30).cells
      exact this
    have HO1 : Oks [v] := fun u hu => by rw [List.mem_singleton.1 hu]; exact hv
    have HOO := hid HO1
    have hR2 := hR.alloc (.cells (vcl v).toArray 30)
    have hB2 := hB.alloc hB.size (.cells (vcl v).toArray 30)
    have hA2 := hA1.below (below_alloc w1 (.cells (vcl v).toArray 30))
    simp only [List.toArray] at hl1 hR2 hB2 hA2
    clear HO1
    go_wp2_with (fail)
    clear d0 d1 d2 d3 d4 hR hB hA1
    generalize w1.alloc (.cells #[.int .i64 v.fr, .int .i64 v.rd, .int .u8 v.kd, .int .i64 v.va, .string v.tx] 30) = w2 at *
    refine (long_c (some ⟨w1.heap.size, 0, none⟩) [v] 1 w2 hl1 (by simp) HOO.out).mono ?_
    rintro e _ ⟨⟨b, rfl⟩, rfl⟩
    clear hl1
    cases b with
    | true =>
      go_wp2_with (fail)
      refine (awake_c w2).mono ?_
      rintro e w3 ⟨rfl, hb1⟩
      go_wp2
      go_ret
      exact ⟨rfl, below_next hB2 hB2.size hb1⟩
    | false =>
      cases h3 : decide ((text.size : Int) > 3000) with
      | true =>
        go_wp2_with (fail)
        refine (awake_c w2).mono ?_
        rintro e w3 ⟨rfl, hb1⟩
        go_wp2
        go_ret
        exact ⟨rfl, below_next hB2 hB2.size hb1⟩
      | false =>
        go_wp2_with (fail)
        refine (awake_c w2).mono ?_
        rintro e w3 ⟨rfl, hb1⟩
        replace hB2 := below_next hB2 hB2.size hb1
        replace hR2 := hR2.below hb1
        replace hA2 := hA2.below hb1
        clear hb1
        go_wp2_with (fail)
        refine (of_c n A l c w3 hn hA2 hl HO.out).mono ?_
        rintro e w4 ⟨g, gm, rfl, hT, hg, hgm, hb⟩
        have hgB : w.heap.size ≤ g := Nat.le_trans hB2.size hg
        have hgmB : w.heap.size ≤ gm := Nat.le_trans hB2.size hgm
        replace hB2 := below_next hB2 hB2.size hb
        replace hR2 := hR2.below hb
        generalize putAll (memOf n) [] l = L at *
        generalize memOf n = m at *
        clear hb hg hgm hA2
        go_wp2_with (fail)
        refine (votes_c g gm m L w4 hT).mono ?_
        rintro e w5 ⟨v5, rfl, hown, hb⟩
        obtain ⟨A5, c5, rfl, hc5⟩ := hown.form
        replace hT := hT.below hb
        replace hB2 := below_next hB2 hB2.size hb
        replace hR2 := hR2.below hb
        clear hb
        go_wp2_with (fail)
        refine (tcopy_c g gm m L w5 hT).mono ?_
        rintro e w6 ⟨g', gm', rfl, hT', hg', hgm', hb⟩
        have hl6 := hT.lt
        have hn1 : gm' ≠ g := by omega
        have hn2 : gm' ≠ gm := by omega
        have hlR := hR2.lt
        have hn3 : w.heap.size ≠ gm' := by omega
        have hgmB' : w.heap.size ≤ gm' := Nat.le_trans hB2.size hgm'
        have hblk := hown.block
        have hn4 : ∀ g0, (Value.slice A5 L.length c5).ownBlock = some g0 → g0 ≠ gm' := fun g0 h0 => by have := (hblk g0 h0).2; omega
        replace hT := hT.below hb
        replace hB2 := below_next hB2 hB2.size hb
        replace hR2 := hR2.below hb
        replace hown := hown.below hb
        obtain ⟨d0, d1, d2, d3, d4⟩ := hR2.five
        clear hb hg' hgm' hl6 hc5 hblk
        have HN4 := hid hn4
        clear hn4
        go_wp2_with (fail)
        refine (tput_c g' gm' m L v w6 hT' hv).mono ?_
        rintro e w7 ⟨rfl, hT7, hg7⟩
        have hR7 := hR2.but hg7 hn3
        have hT := hT.grown hg7 hn1 hn2
        have hB7 := below_but hB2 hg7 hgmB' hB2.size
        have hown7 := hown.keep fun g0 h0 => hg7.block g0 (hown.block g0 h0).2 fun e => HN4.out g0 h0 (Option.some.inj e)
        have hc7 := hown7.cellsV
        have hlen := hT.len
        obtain ⟨pb, hpb⟩ : ∃ pb, putB m L v = pb := ⟨_, rfl⟩
        rw [hpb]
        clear hpb hT' hg7 hR2 hB2 hown d0 d1 d2 d3 d4 hown7 HN4
        go_wp2_with (fail)
        refine (votes_c g gm m L w7 hT).mono ?_
        rintro e w8 ⟨v8, rfl, hown8, hb⟩
        obtain ⟨A8, c8, rfl, hc8⟩ := hown8.form
        replace hT := hT.below hb
        replace hT7 := hT7.below hb
        replace hB7 := below_next hB7 hB7.size hb
        replace hR7 := hR7.below hb
        replace hc7 := hc7.below hb
        clear hb hown8
        go_wp2_with (fail)
        refine (told_c A8 L c8 w8 hc8 hlen).mono ?_
        rintro e w9 ⟨v9, rfl, hown9, hb⟩
        obtain ⟨A9, c9, rfl, hc9⟩ := hown9.form
        replace hT := hT.below hb
        replace hT7 := hT7.below hb
        replace hB7 := below_next hB7 hB7.size hb
        replace hR7 := hR7.below hb
        replace hc7 := hc7.below hb
        clear hb hown9 hc8
        go_wp2_with (fail)
        refine (told_c A5 L c5 w9 hc7 hlen).mono ?_
        rintro e w10 ⟨v10, rfl, hown10, hb⟩
        obtain ⟨A10, c10, rfl, hc10⟩ := hown10.form
        replace hT := hT.below hb
        replace hT7 := hT7.below hb
        replace hB7 := below_next hB7 hB7.size hb
        replace hR7 := hR7.below hb
        replace hc9 := hc9.below hb
        clear hb hown10 hc7
        go_wp2_with (fail)
        refine (same15_c A9 A10 L L c9 c10 w10 hc9 hc10 (by omega) (by omega)).mono ?_
        rintro e w11 ⟨rfl, hw⟩
        rw [decide_eq_true (rfl : L = L)]
        replace hT := hT.dr hw
        replace hT7 := hT7.dr hw
        replace hB7 := below_dr hB7 hw
        replace hR7 := hR7.dr hw
        obtain ⟨d0, d1, d2, d3, d4⟩ := hR7.five
        clear hw hc9 hc10
        go_wp2_with (fail)
        refine (tprop_c g gm m L rnd v.fr w11 hT hr hv.fr).mono ?_
        rintro e w12 ⟨rfl, hb⟩
        obtain ⟨P, hP⟩ : ∃ P, (propL L rnd v.fr).getD zeroVt = P := ⟨_, rfl⟩
        obtain ⟨bs, hbs⟩ : ∃ bs, (propL L rnd v.fr).isSome = bs := ⟨_, rfl⟩
        rw [show propV L rnd v.fr = .tuple #[vval P, .bool bs] by rw [propV, hP, hbs]]
        have HPB := hid (⟨hP, hbs⟩ : _ ∧ _)
        replace hT := (hT.below hb).below (below_alloc w12 (.cells (vcl P).toArray 30))
        replace hT7 := (hT7.below hb).below (below_alloc w12 (.cells (vcl P).toArray 30))
        replace hR7 := (hR7.below hb).below (below_alloc w12 (.cells (vcl P).toArray 30))
        replace hB7 := (below_next hB7 hB7.size hb)
        replace hB7 := hB7.alloc hB7.size (.cells (vcl P).toArray 30)
        have hRP := row1_new w12 (vcl P) 30
        simp only [List.toArray] at hT hT7 hR7 hB7 hRP
        clear hP hbs hb d0 d1 d2 d3 d4
        obtain ⟨d0, d1, d2, d3, d4⟩ := hR7.five
        go_wp2_with (fail)
        generalize w12.alloc (.cells #[.int .i64 P.fr, .int .i64 P.rd, .int .u8 P.kd, .int .i64 P.va, .string P.tx] 30) = w13 at *
        refine (tprop_c g' gm' m (putL m L v) rnd v.fr w13 hT7 hr hv.fr).mono ?_
        rintro e w14 ⟨rfl, hb⟩
        obtain ⟨P2, hP2⟩ : ∃ P, (propL (putL m L v) rnd v.fr).getD zeroVt = P := ⟨_, rfl⟩
        obtain ⟨bs2, hbs2⟩ : ∃ bs, (propL (putL m L v) rnd v.fr).isSome = bs := ⟨_, rfl⟩
        rw [show propV (putL m L v) rnd v.fr = .tuple #[vval P2, .bool bs2] by rw [propV, hP2, hbs2]]
        have HPB2 := hid (⟨hP2, hbs2⟩ : _ ∧ _)
        replace hT := (hT.below hb).below (below_alloc w14 (.cells (vcl P2).toArray 30))
        replace hT7 := (hT7.below hb).below (below_alloc w14 (.cells (vcl P2).toArray 30))
        replace hR7 := (hR7.below hb).below (below_alloc w14 (.cells (vcl P2).toArray 30))
        replace hRP := (hRP.below hb).below (below_alloc w14 (.cells (vcl P2).toArray 30))
        replace hB7 := (below_next hB7 hB7.size hb)
        replace hB7 := hB7.alloc hB7.size (.cells (vcl P2).toArray 30)
        have hRP2 := row1_new w14 (vcl P2) 30
        simp only [List.toArray] at hT hT7 hR7 hB7 hRP hRP2
        clear hP2 hbs2 hb d0 d1 d2 d3 d4
        obtain ⟨d0, d1, d2, d3, d4⟩ := hR7.five
        by_cases hrr : rnd = v.rd
        · subst hrr
          have hq : (v.rd == v.rd) = true := by simp
          clear hRP hRP2 hT hT7
          go_wp2_with (fail)
          go_ret
          exact ⟨rfl, hB7⟩
        · have hq : (rnd == v.rd) = false := by simpa using hrr
          have hrr' : v.rd ≠ rnd := fun e => hrr e.symm
          have h1 := prop_put (n := m) (L := L) (v := v) (r := rnd) (f := v.fr) hrr'
          have e1 : P2 = P := by rw [← HPB2.out.1, ← HPB.out.1, h1]
          have e2 : bs2 = bs := by rw [← HPB2.out.2, ← HPB.out.2, h1]
          subst e1 e2
          have hm := hid hrr'
          obtain ⟨p0, p1, p2, p3, p4⟩ := hRP.five
          obtain ⟨r0, r1, r2, r3, r4⟩ := hRP2.five
          have hes := fun W => eql_same P2 W
          have hgd : Try.prog.eqGuardType Try.prog.depth 30 = false := by kernel_rfl
          have hbb : (bs2 == bs2) = true := by simp
          have hlP := hRP.lt
          clear h1 HPB HPB2 hrr hrr'
          clear hlP
          obtain ⟨m2, hm2⟩ : ∃ k : Nat, m = k := ⟨m.toNat, by have := hT.n; omega⟩
          have hsent := hid (sent_put (m := m2) (L := L) (v := v) (r := rnd) hT.srt (hm2 ▸ hT.mays) hm.out)
          have hm2 := hid hm2
          have hcc := hid (cnt_put (n := m) (L := L) (v := v) (p := pCnt rnd kd text) (by have := hm.out; simp [pCnt, this]))
          have hca := hid (cnt_put (n := m) (L := L) (v := v) (p := pAll rnd kd) (by have := hm.out; simp [pAll, this]))
          go_wp2_with (fail)
          clear p0 p1 p2 p3 p4 r0 r1 r2 r3 r4 d0 d1 d2 d3 d4
          generalize w14.alloc (.cells #[.int .i64 P2.fr, .int .i64 P2.rd, .int .u8 P2.kd, .int .i64 P2.va, .string P2.tx] 30) = w15 at *
          refine (tcount_c g gm m L rnd kd text w15 hT).mono ?_
          rintro e w16 ⟨rfl, hb⟩
          replace hT := hT.below hb
          replace hT7 := hT7.below hb
          replace hB7 := below_next hB7 hB7.size hb
          clear hb
          go_wp2_with (fail)
          refine (tcount_c g' gm' m (putL m L v) rnd kd text w16 hT7).mono ?_
          rintro e w17 ⟨rfl, hb⟩
          rw [hcc.out]
          obtain ⟨k1, hk1⟩ : ∃ k, cntN (pCnt rnd kd text) L = k := ⟨_, rfl⟩
          rw [hk1]
          have hkk : ((k1 : Int) == k1) = true := by simp
          clear hk1
          replace hT := hT.below hb
          replace hT7 := hT7.below hb
          replace hB7 := below_next hB7 hB7.size hb
          clear hb
          go_wp2_with (fail)
          refine (tall_c g gm m L rnd kd w17 hT).mono ?_
          rintro e w18 ⟨rfl, hb⟩
          clear hkk
          replace hT := hT.below hb
          replace hT7 := hT7.below hb
          replace hB7 := below_next hB7 hB7.size hb
          clear hb
          go_wp2_with (fail)
          refine (tall_c g' gm' m (putL m L v) rnd kd w18 hT7).mono ?_
          rintro e w19 ⟨rfl, hb⟩
          rw [hca.out]
          obtain ⟨k1, hk1⟩ : ∃ k, cntN (pAll rnd kd) L = k := ⟨_, rfl⟩
          rw [hk1]
          have hkk : ((k1 : Int) == k1) = true := by simp
          clear hk1
          replace hT := hT.below hb
          replace hT7 := hT7.below hb
          replace hB7 := below_next hB7 hB7.size hb
          clear hb
          go_wp2_with (fail)
          refine (tsent_c g gm m L rnd w19 hT).mono ?_
          rintro e w20 ⟨rfl, hb⟩
          clear hkk
          replace hT := hT.below hb
          replace hT7 := hT7.below hb
          replace hB7 := below_next hB7 hB7.size hb
          clear hb
          go_wp2_with (fail)
          refine (tsent_c g' gm' m (putL m L v) rnd w20 hT7).mono ?_
          rintro e w21 ⟨rfl, hb⟩
          rw [show sentT rnd (putL m L v) (putL m L v).length = sentT rnd L L.length by rw [hm2.out]; exact hsent.out]
          obtain ⟨k1, hk1⟩ : ∃ k, sentT rnd L L.length = k := ⟨_, rfl⟩
          rw [hk1]
          have hkk : ((k1 : Int) == k1) = true := by simp
          clear hk1
          replace hT := hT.below hb
          replace hT7 := hT7.below hb
          replace hB7 := below_next hB7 hB7.size hb
          clear hb
          go_wp2
          go_ret
          exact ⟨rfl, hB7⟩

set_option maxRecDepth 100000 in
theorem tallyApart_lifted (os : Os) (started : os.Started) (H : Type) (enc : TypeId × Value → H) :
    ReturnsInHanded {} Try.checked os 9 .any (Rows.tallyApartSpec.pre6 enc Try.prog Try.f9 Rows.tallyApartRow.domain false) (Rows.tallyApartSpec.post enc Try.prog Try.f9 false true false false) := by
  haveI : DecidableEq Lit := fun a b => Classical.propDecidable (a = b)
  refine returnsInHanded_of_change (C := Try.checked) Try.own started (by kernel_rfl) Try.func9
    (ChangeSpec.witness6 (enc := enc) (C := Try.checked) false ⟨#[], #[.int .i64 0, .slice none 0 0, vval zeroVt, .int .i64 0, .int .u8 0, .string ⟨#[]⟩], []⟩ 8 (by kernel_rfl) (by kernel_rfl) (by kernel_rfl) (by kernel_rfl)) ?_
  intro W base args ds gs before hval0 hW hcnd _
  have hval : ∀ (j : Nat) t v, Try.f9.params[j]? = some t → args[j]? = some v → Value.okWide Try.prog W .any base t v := hval0
  have hW' := hW
  obtain ⟨p, q, hA0, hV, rfl, hfz, hnd⟩ := hW
  have hA : DataW.TrodAll enc Try.prog W 0 (fun _ => true) true Try.f9.params.toList args.toList ds p := hA0
  rw [Try.params9] at hA hval
  obtain ⟨v0, v1, v2, v3, v4, v5, d0, d1, d2, d3, d4, d5, p0, p1, p2, p3, p4, p5, rfl, rfl, rfl, h0, h1, h2, h3, h4, h5⟩ := trodAll_six' hA
  obtain ⟨rfl, rfl⟩ := trodVars_none hV
  obtain ⟨x0, rfl, _, _, w0⟩ := open_int Try.underlying3 (hval 0 3 v0 rfl rfl) h0
  obtain ⟨_, k1⟩ := one_ofV Try.underlying22 (hval 1 22 v1 rfl rfl) h1
  obtain ⟨A1, x1, c1, rfl, a1, b1, e1⟩ := votes_at k1
  obtain ⟨x2, rfl, w2⟩ := vote_at (hval 2 30 v2 rfl rfl) h2
  obtain ⟨x3, rfl, _, _, w3⟩ := open_int Try.underlying3 (hval 3 3 v3 rfl rfl) h3
  obtain ⟨x4, rfl, _, _, w4⟩ := open_int Try.underlying5 (hval 4 5 v4 rfl rfl) h4
  obtain ⟨x5, rfl, _, _, w5⟩ := Go.ChangeMaps.open_string Try.underlying9 (hval 5 9 v5 rfl rfl) h5
  clear hA0 hval0
  refine (tallyApart_c x0 A1 x1 c1 x2 x3 x4 x5 W (i64_of w0) a1 b1 e1 w2 (i64_of w3) (u8_of w4) (by unfold maxLen at w5; omega)).mono fun e W' ⟨he, hb⟩ => ?_
  subst he
  exact ⟨_, rfl, post_true hW' hb Try.laidOut (by kernel_rfl) rfl rfl rfl rfl rfl Try.underlying4⟩

theorem tallyApart_holds : Rows.TallyApartSaid :=
  OpenClaim.holds_of_wide 9 Try.f9 rfl rfl rfl rfl rfl rfl rfl ⟨rfl, rfl, rfl, rfl, rfl⟩ rfl rfl rfl rfl rfl (by kernel_rfl) Try.func9 (by kernel_rfl)
    (of_decide_eq_true (by kernel_rfl)) (by unfold Func.isWrapper; first | (rw [if_pos (by decide +kernel)]; kernel_rfl) | (rw [if_neg (by decide +kernel)]; exact ⟨rfl, rfl⟩))
    (fun os started H enc _ => tallyApart_lifted os started H enc)
#print axioms tallyApart_holds

end Go.Proofs.Ytnngnekfgijejaa
