/-
  Each Write that is done makes any disk one older; the text is told then: for any two heads and any texts.
-/
import Derived.Test.YthllhnjbddpeoaaSlY
namespace Go.Proofs.Ythllhnjbddpeoaa
open Go Go.RowKit Go.Maps Go.Shelf Go.Proofs Go.ChangeShapes Go.WideShapes Go.ChangeAt

set_option maxRecDepth 100000 in
set_option maxHeartbeats 2000000 in
theorem slotsOlder_c (a b : ByteArray) (A : Option Addr) (l : List ByteArray) (c : Nat) (w : World) (ha : a.size ≤ 9223372036854775807) (hb : b.size ≤ 9223372036854775807) (hA : Cells w A (l.map Value.string)) (hl : l.length ≤ 9223372036854775807) (hls : ∀ s ∈ l, s.size ≤ 9223372036854775807) [DecidableEq Lit] :
    Calls Try.prog 10 #[.string a, .string b, .slice A l.length c] w fun e w' => e = .returned (.bool true) ∧ Below w.heap.size w w' := by
  have HA := hid hA
  have HLS := hid hls
  have HAW := hid (fun w' : World => awake_c w')
  clear hA hls
  by_cases h1 : a.size ≤ 512 ∧ b.size ≤ 512 ∧ l.length ≤ 20
  · obtain ⟨h1, h2, h3⟩ := h1
    have HRAW := hid (raw_live h1 h2)
    go_enter Try.func10, Try.ntmps10
    go_wp2_with (fail)
    refine (HAW.out w).mono ?_
    rintro e w1 ⟨rfl, hb1⟩
    go_wp2_with (fail)
    refine (raw_c a b w1 ha hb).mono ?_
    rintro e w2 ⟨g, gm, v, rfl, hD, hB⟩
    have hB2 : Base w w2 g gm v := ⟨below_next hb1 hb1.size hB.b, Nat.le_trans hb1.size hB.g, Nat.le_trans hb1.size hB.gm, fun q hq => Nat.le_trans hb1.size (hB.v q hq)⟩
    have hok : (rawD a b).Ok 65536 := (rawD_ok a b).mono (by omega)
    obtain ⟨hL, hf, hC, _⟩ := HRAW.out
    clear HRAW hB hb1
    generalize rawD a b = d at *
    go_wp2_with (fail)
    go_loopw [8] (fun i wr => ∃ (k : Nat) (v : Value) (d : Dk), i = .int .i64 (k : Int) ∧ k ≤ l.length ∧ Dsk wr g gm v d ∧ d.Ok 65536 ∧ Hid (Live d ∧ d.fu = false) ∧ Base w wr g gm v) (fun i _ => l.length - (intOf i).toNat)
    case atStart => exact ⟨0, v, d, rfl, by omega, hD, hok, hid ⟨hL, hf⟩, hB2⟩
    case round =>
      obtain ⟨k, v, d, rfl, hk, hD, hok, hLf, hB⟩ := hrel
      by_cases hlt : k < l.length
      · obtain ⟨s, hs⟩ := get_of_lt hlt
        obtain ⟨bb, off, rfl, c0⟩ := (HA.out.below hB.b).at_map hs
        have hss := HLS.out s (List.mem_of_getElem? hs)
        clear hs hB2
        by_cases h5 : s.size ≤ 3000
        · have HAG := hid (ageD_c g gm v d 65536 wr hD hok (by omega))
          have HOK := hid hok
          clear hok
          go_wp2_with (fail)
          refine HAG.out.mono ?_
          rintro e w3 ⟨rfl, hb3⟩
          have hD3 := hD.below hb3
          have hB3 := hB.below hb3
          have c1 : w3.cell? ⟨bb, off + k, none⟩ = some (.string s) := (hb3.cell (lt_of_cell c0)).trans c0
          have HC := hid (slw_c g gm v d 65536 s w3 hD3 HOK.out (by omega) hss)
          clear c0 hD hB hb3 HAG
          by_cases hag : d.age = maxN
          · have e41 : d.slw s = (41, d) := by
              unfold Dk.slw
              rw [hLf.out.1.de, if_neg (show ¬ roomN < s.size by unfold roomN; omega), if_pos hag]
              rfl
            rw [e41] at HC
            rw [hag]
            have HAG2 := hid hag
            clear e41 hag
            go_wp2_with (fail)
            refine HC.out.mono ?_
            rintro e w4 ⟨v4, rfl, hD4, hTh4, hT4⟩
            have hB4 := hB3.step hTh4 hT4
            have HX := hid (ageD_c g gm v4 d 65536 w4 hD4 HOK.out (by omega))
            rw [HAG2.out] at HX
            go_wp2_with (fail)
            refine HX.out.mono ?_
            rintro e w5 ⟨rfl, hb5⟩
            have hB5 := hB4.below hb5
            go_wp2
            go_ret
            exact ⟨rfl, hB5.b⟩
          · obtain ⟨d', hN⟩ := slw_next (s := s) HOK.out hLf.out.1 hLf.out.2 (by unfold roomN; omega) hag
            have hal := age_le d
            have hag2 : d.age < 1099511627776 := by unfold maxN at hag hal; omega
            have hag3 : ((d.age : Int) == 1099511627776) = false := by rw [beq_eq_false_iff_ne]; omega
            rw [hN.e] at HC
            have HN := hid hN
            clear hag hal hN
            go_wp2_with (fail)
            refine HC.out.mono ?_
            rintro e w4 ⟨v4, rfl, hD4, hTh4, hT4⟩
            have hB4 := hB3.step hTh4 hT4
            have c2 : w4.cell? ⟨bb, off + k, none⟩ = some (.string s) := by
              obtain ⟨b2, off2, e2, c3⟩ := (HA.out.below hB4.b).at_map (List.getElem?_eq_getElem hlt)
              obtain ⟨b1, off1, e1, c4⟩ := (HA.out.below hB3.b).at_map (List.getElem?_eq_getElem hlt)
              simp only [Option.some.injEq, Addr.mk.injEq, and_true] at e1 e2
              obtain ⟨rfl, rfl⟩ := e1
              obtain ⟨rfl, rfl⟩ := e2
              rw [c4] at c1
              rw [c3]; exact c1
            have hok4 : d'.Ok 65536 := hD4.cap HN.out.ok (c := 0) (by rw [HN.out.C]; simp)
            have HX := hid (has_c g gm v4 d' 65536 s ((d.age : Int) + 1) w4 hD4 hok4 (by omega))
            rw [HN.out.has] at HX
            clear c1 hD3 hB3 hTh4 hT4 HC
            have HO4 := hid hok4
            clear hok4
            go_wp2_with (fail)
            refine HX.out.mono ?_
            rintro e w5 ⟨rfl, hb5⟩
            have hD5 := hD4.below hb5
            have hB5 := hB4.below hb5
            go_wp2
            go_roundw
            case rel => exact ⟨k + 1, v4, d', by go_num, by omega, hD5, HO4.out, hid ⟨HN.out.live, HN.out.fu⟩, hB5⟩
            case measure => simp [intOf]; omega
        · have hbw := hB.b
          go_wp2
          go_ret
          exact ⟨rfl, hbw⟩
      · have hbw := hB.b
        go_wp2
        go_ret
        exact ⟨rfl, hbw⟩
  · by_cases q1 : a.size ≤ 512
    · by_cases q2 : b.size ≤ 512
      · have q3 : ¬ l.length ≤ 20 := fun h => h1 ⟨q1, q2, h⟩
        clear h1
        go_enter Try.func10, Try.ntmps10
        go_wp2_with (fail)
        refine (HAW.out w).mono ?_
        rintro e w1 ⟨rfl, hb1⟩
        go_wp2
        go_ret
        exact ⟨rfl, hb1⟩
      · clear h1
        go_enter Try.func10, Try.ntmps10
        go_wp2_with (fail)
        refine (HAW.out w).mono ?_
        rintro e w1 ⟨rfl, hb1⟩
        go_wp2
        go_ret
        exact ⟨rfl, hb1⟩
    · clear h1
      go_enter Try.func10, Try.ntmps10
      go_wp2_with (fail)
      refine (HAW.out w).mono ?_
      rintro e w1 ⟨rfl, hb1⟩
      go_wp2
      go_ret
      exact ⟨rfl, hb1⟩
set_option maxRecDepth 100000 in
theorem slotsOlder_lifted (os : Os) (started : os.Started) (H : Type) (enc : TypeId × Value → H) :
    ReturnsInHanded {} Try.checked os 10 .any (Rows.slotsOlderSpec.pre6 enc Try.prog Try.f10 Rows.slotsOlderRow.domain false) (Rows.slotsOlderSpec.post enc Try.prog Try.f10 false true false false) := by
  haveI : DecidableEq Lit := fun a b => Classical.propDecidable (a = b)
  refine returnsInHanded_of_change_sized (C := Try.checked) Try.own started (by kernel_rfl) Try.func10
    (ChangeSpec.witness6 (enc := enc) (C := Try.checked) false ⟨#[], #[.string ⟨#[]⟩, .string ⟨#[]⟩, .slice none 0 0], []⟩ 8 (by kernel_rfl) (by kernel_rfl) (by kernel_rfl) (by kernel_rfl)) ?_
  intro W base args ds gs before hval0 hW hcnd hsz0 _
  have hval : ∀ (j : Nat) t v, Try.f10.params[j]? = some t → args[j]? = some v → Value.okWide Try.prog W .any base t v := hval0
  have hW' := hW
  obtain ⟨p, q, hA0, hV, rfl, hfz, hnd⟩ := hW
  have hA : DataW.TrodAll enc Try.prog W 0 (fun _ => true) true Try.f10.params.toList args.toList ds p := hA0
  rw [Try.params10] at hA hval
  obtain ⟨v0, v1, v2, d0, d1, d2, p0, p1, p2, rfl, rfl, rfl, h0, h1, h2⟩ := trodAll_three hA
  obtain ⟨rfl, rfl⟩ := trodVars_none hV
  have hsz : ∀ n ∈ DataW.weightsEach Try.prog [9, 9, 50] [d0, d1, d2], n ≤ reachBytes := fun n hn => by
    have := List.all_eq_true.1 hsz0 n (by rw [Try.params10]; exact hn)
    simpa using this
  obtain ⟨x0, rfl, _, _, w0⟩ := Go.ChangeMaps.open_string Try.underlying9 (hval 0 9 v0 rfl rfl) h0
  obtain ⟨x1, rfl, _, _, w1⟩ := Go.ChangeMaps.open_string Try.underlying9 (hval 1 9 v1 rfl rfl) h1
  obtain ⟨_, k2⟩ := one_ofV Try.underlying50 (hval 2 50 v2 rfl rfl) h2
  obtain ⟨A2, x2, c2, rfl, a2, b2, e2⟩ := texts_at k2
  clear hA0 hval0
  refine (slotsOlder_c x0 x1 A2 x2 c2 W (by unfold maxLen at w0; omega) (by unfold maxLen at w1; omega) a2 b2 e2).mono fun e W' ⟨he, hb⟩ => ?_
  subst he
  exact ⟨_, rfl, post_true hW' hb Try.laidOut (by kernel_rfl) rfl rfl rfl rfl rfl Try.underlying4⟩

theorem slotsOlder_holds : Rows.SlotsOlderSaid :=
  OpenClaim.holds_of_wide 10 Try.f10 rfl rfl rfl rfl rfl rfl rfl ⟨rfl, rfl, rfl, rfl, rfl⟩ rfl rfl rfl rfl rfl (by kernel_rfl) Try.func10 (by kernel_rfl)
    (of_decide_eq_true (by kernel_rfl)) (by unfold Func.isWrapper; first | (rw [if_pos (by decide +kernel)]; kernel_rfl) | (rw [if_neg (by decide +kernel)]; exact ⟨rfl, rfl⟩))
    (fun os started H enc _ => slotsOlder_lifted os started H enc)
#print axioms slotsOlder_holds
end Go.Proofs.Ythllhnjbddpeoaa
