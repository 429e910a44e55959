/-
  PROVED HERE: TallyFirst: what a member sends once more, by the same Kind in the same round, changes nothing, whatever it is: for every number, every votes, whichever of those that were put, whatever other Valid and Text.
-/
import Derived.Test.YtnngnekfgijejaaTalU
import Derived.Test.YtnngnekfgijejaaTalT
namespace Go.Proofs.Ytnngnekfgijejaa
open Go.ChangeShapes Go.WideShapes Go.ChangeAt Go.RowKit Go.Maps Go.Shelf Go.Proofs

/-- a number, by how many there are. -/
def pick (which : Int) (len : Nat) : Nat := ((which % 18446744073709551616) % len).toNat
theorem pick_lt (which : Int) {len : Nat} (h : 0 < len) : pick which len < len := by
  unfold pick
  have := Int.emod_lt_of_pos (which % 18446744073709551616) (show (0 : Int) < len by omega)
  have := Int.emod_nonneg (which % 18446744073709551616) (show (len : Int) ≠ 0 by omega)
  omega
theorem pick_eq (which : Int) {len : Nat} (h : 0 < len) (hl : len ≤ 10000) : wrap64 ((IntKind.u64.wrap which).tmod (len : Int)) = (pick which len : Nat) := by
  have h1 : IntKind.u64.wrap which = which % 18446744073709551616 := by simp [IntKind.wrap, IntKind.bits, IntKind.signed]
  have h2 := Int.emod_nonneg which (show (18446744073709551616 : Int) ≠ 0 by omega)
  have h3 := Int.emod_lt_of_pos (which % 18446744073709551616) (show (0 : Int) < len by omega)
  have h4 := Int.emod_nonneg (which % 18446744073709551616) (show (len : Int) ≠ 0 by omega)
  rw [h1, Int.tmod_eq_emod_of_nonneg h2, IntWalk.wrap64_in _ ⟨by omega, by omega⟩]
  unfold pick
  omega

theorem putAll_srt {n : Int} : ∀ (l L : List Vt), Srt L → Srt (putAll n L l)
  | [], _, h => h
  | v :: l, L, h => putAll_srt l (putL n L v) (putL_srt h)

set_option maxRecDepth 100000 in
set_option maxHeartbeats 2000000 in
theorem tallyFirst_c (n : Int) (A : Option Addr) (l : List Vt) (c : Nat) (which valid : Int) (text : ByteArray) (w : World) (hn : I64 n) (hA : CellsV w A l) (hl : l.length ≤ 9223372036854775807) (ho : Oks l) (hw : I64 which) (hv : I64 valid) (ht : text.size ≤ 9223372036854775807) [DecidableEq Lit] :
    Calls Try.prog 8 #[.int .i64 n, .slice A l.length c, .int .i64 which, .int .i64 valid, .string text] w fun e w' => e = .returned (.bool true) ∧ Below w.heap.size w w' := by
  obtain ⟨hw1, hw2⟩ := hw
  have HO := hid ho
  clear ho
  go_enter Try.func8, Try.ntmps8
  go_wp2_with (fail)
  refine (long_c A l c w hA hl HO.out).mono ?_
  rintro e _ ⟨⟨b, rfl⟩, rfl⟩
  cases b with
  | true =>
    go_wp2_with (fail)
    refine (awake_c w).mono ?_
    rintro e w1 ⟨rfl, hb1⟩
    go_wp2
    go_ret
    exact ⟨rfl, hb1⟩
  | false =>
    cases h3 : decide ((text.size : Int) > 3000) with
    | true =>
      go_wp2_with (fail)
      refine (awake_c w).mono ?_
      rintro e w1 ⟨rfl, hb1⟩
      go_wp2
      go_ret
      exact ⟨rfl, hb1⟩
    | false =>
      go_wp2_with (fail)
      refine (awake_c w).mono ?_
      rintro e w1 ⟨rfl, hb1⟩
      go_wp2_with (fail)
      refine (of_c n A l c w1 hn (hA.below hb1) hl HO.out).mono ?_
      rintro e w2 ⟨g, gm, rfl, hT, hg, hgm, hb2⟩
      replace hb2 := below_next hb1 hb1.size hb2
      have hg0 : w.heap.size ≤ g := Nat.le_trans hb1.size hg
      have hgm0 : w.heap.size ≤ gm := Nat.le_trans hb1.size hgm
      generalize putAll (memOf n) [] l = L at *
      generalize memOf n = m at *
      clear hb1 hg hgm hA
      go_wp2_with (fail)
      refine (votes_c g gm m L w2 hT).mono ?_
      rintro e w3 ⟨v, rfl, hown, hb⟩
      obtain ⟨A3, c3, rfl, hc3⟩ := hown.form
      replace hT := hT.below hb
      replace hb2 := below_next hb2 hb2.size hb
      have hlen := hT.len
      clear hown hb
      cases hz : decide (L.length = 0) with
      | true =>
        have hz2 : ((L.length : Int) == 0) = true := by rw [of_decide_eq_true hz]; rfl
        clear hz
        go_wp2
        go_ret
        exact ⟨rfl, hb2⟩
      | false =>
        have hpos : 0 < L.length := Nat.pos_of_ne_zero (of_decide_eq_false hz)
        have hz2 : ((L.length : Int) == 0) = false := beq_false_of_ne (by omega)
        have hk := pick_lt which hpos
        have hpe := pick_eq which hpos hlen
        generalize pick which L.length = k at *
        obtain ⟨u, hu⟩ := get_of_lt hk
        obtain ⟨b, off, rfl, hbl, d0, d1, d2, d3, d4⟩ := hc3.at_ hu
        have HU := hid hu
        clear hu hz
        go_wp2_with (fail)
        clear hpe d0 d1 d2 d3 d4 hc3
        have hum := List.mem_of_getElem? HU.out
        have huo := hT.ok hum
        obtain ⟨u', hu'⟩ : ∃ u' : Vt, u' = ⟨u.fr, u.rd, u.kd, valid, text⟩ := ⟨_, rfl⟩
        have huo' : u'.Ok := by rw [hu']; exact ⟨huo.fr, huo.rd, huo.kd, hv, ht⟩
        have hno : putB m L u' = false := by
          have : hasV L u' = true := hasV_iff.2 ⟨u, hum, by rw [hu'], by rw [hu'], by rw [hu']⟩
          simp [putB, this]
        have HN := hid hno
        have hL2 := hid (show putL m L u' = L by rw [putL, hno]; rfl)
        have hR := row1_new w3 (vcl u') 30
        replace hT := hT.below (below_alloc w3 (.cells (vcl u').toArray 30))
        replace hb2 := hb2.alloc hb2.size (.cells (vcl u').toArray 30)
        rw [show (Value.int .i64 u.fr) = .int .i64 u'.fr by rw [hu'], show (Value.int .i64 u.rd) = .int .i64 u'.rd by rw [hu'], show (Value.int .u8 u.kd) = .int .u8 u'.kd by rw [hu'], show (Value.int .i64 valid) = .int .i64 u'.va by rw [hu'], show (Value.string text) = .string u'.tx by rw [hu']]
        simp only [List.toArray] at hR hT hb2
        clear hu' hno
        generalize w3.alloc (.cells #[.int .i64 u'.fr, .int .i64 u'.rd, .int .u8 u'.kd, .int .i64 u'.va, .string u'.tx] 30) = w4 at *
        refine (tcopy_c g gm m L w4 hT).mono ?_
        rintro e w5 ⟨g', gm', rfl, hT', hg', hgm', hb⟩
        have hl1 := hT.lt
        have hn1 : gm' ≠ g := by omega
        have hn2 : gm' ≠ gm := by omega
        have hgmB : w.heap.size ≤ gm' := Nat.le_trans hb2.size hgm'
        replace hT := hT.below hb
        replace hR := hR.below hb
        replace hb2 := below_next hb2 hb2.size hb
        obtain ⟨d0, d1, d2, d3, d4⟩ := hR.five
        clear hb hg' hgm' hl1 hR
        go_wp2_with (fail)
        refine (tput_c g' gm' m L u' w5 hT' huo').mono ?_
        rintro e w6 ⟨rfl, hT6, hg6⟩
        rw [HN.out]
        rw [hL2.out] at hT6
        replace hT := hT.grown hg6 hn1 hn2
        replace hb2 := below_but hb2 hg6 hgmB hb2.size
        clear hT' hg6 d0 d1 d2 d3 d4
        go_wp2_with (fail)
        refine (same_c g' gm' g gm m m L L w6 hT6 hT).mono ?_
        rintro e w7 ⟨rfl, hb⟩
        rw [decide_eq_true (rfl : L = L)]
        replace hb2 := below_next hb2 hb2.size hb
        go_wp2
        go_ret
        exact ⟨rfl, hb2⟩
set_option maxRecDepth 100000 in
theorem tallyFirst_lifted (os : Os) (started : os.Started) (H : Type) (enc : TypeId × Value → H) :
    ReturnsInHanded {} Try.checked os 8 .any (Rows.tallyFirstSpec.pre6 enc Try.prog Try.f8 Rows.tallyFirstRow.domain false) (Rows.tallyFirstSpec.post enc Try.prog Try.f8 false true false false) := by
  haveI : DecidableEq Lit := fun a b => Classical.propDecidable (a = b)
  refine returnsInHanded_of_change (C := Try.checked) Try.own started (by kernel_rfl) Try.func8
    (ChangeSpec.witness6 (enc := enc) (C := Try.checked) false ⟨#[], #[.int .i64 0, .slice none 0 0, .int .i64 0, .int .i64 0, .string ⟨#[]⟩], []⟩ 8 (by kernel_rfl) (by kernel_rfl) (by kernel_rfl) (by kernel_rfl)) ?_
  intro W base args ds gs before hval0 hW hcnd _
  have hval : ∀ (j : Nat) t v, Try.f8.params[j]? = some t → args[j]? = some v → Value.okWide Try.prog W .any base t v := hval0
  have hW' := hW
  obtain ⟨p, q, hA0, hV, rfl, hfz, hnd⟩ := hW
  have hA : DataW.TrodAll enc Try.prog W 0 (fun _ => true) true Try.f8.params.toList args.toList ds p := hA0
  rw [Try.params8] at hA hval
  obtain ⟨v0, v1, v2, v3, v4, d0, d1, d2, d3, d4, p0, p1, p2, p3, p4, rfl, rfl, rfl, h0, h1, h2, h3, h4⟩ := trodAll_five' hA
  obtain ⟨rfl, rfl⟩ := trodVars_none hV
  obtain ⟨x0, rfl, _, _, w0⟩ := open_int Try.underlying3 (hval 0 3 v0 rfl rfl) h0
  obtain ⟨_, k1⟩ := one_ofV Try.underlying22 (hval 1 22 v1 rfl rfl) h1
  obtain ⟨A1, x1, c1, rfl, a1, b1, e1⟩ := votes_at k1
  obtain ⟨x2, rfl, _, _, w2⟩ := open_int Try.underlying3 (hval 2 3 v2 rfl rfl) h2
  obtain ⟨x3, rfl, _, _, w3⟩ := open_int Try.underlying3 (hval 3 3 v3 rfl rfl) h3
  obtain ⟨x4, rfl, _, _, w4⟩ := Go.ChangeMaps.open_string Try.underlying9 (hval 4 9 v4 rfl rfl) h4
  clear hA0 hval0
  refine (tallyFirst_c x0 A1 x1 c1 x2 x3 x4 W (i64_of w0) a1 b1 e1 (i64_of w2) (i64_of w3) (by unfold maxLen at w4; omega)).mono fun e W' ⟨he, hb⟩ => ?_
  subst he
  exact ⟨_, rfl, post_true hW' hb Try.laidOut (by kernel_rfl) rfl rfl rfl rfl rfl Try.underlying4⟩

theorem tallyFirst_holds : Rows.TallyFirstSaid :=
  OpenClaim.holds_of_wide 8 Try.f8 rfl rfl rfl rfl rfl rfl rfl ⟨rfl, rfl, rfl, rfl, rfl⟩ rfl rfl rfl rfl rfl (by kernel_rfl) Try.func8 (by kernel_rfl)
    (of_decide_eq_true (by kernel_rfl)) (by unfold Func.isWrapper; first | (rw [if_pos (by decide +kernel)]; kernel_rfl) | (rw [if_neg (by decide +kernel)]; exact ⟨rfl, rfl⟩))
    (fun os started H enc _ => tallyFirst_lifted os started H enc)
#print axioms tallyFirst_holds

end Go.Proofs.Ytnngnekfgijejaa
