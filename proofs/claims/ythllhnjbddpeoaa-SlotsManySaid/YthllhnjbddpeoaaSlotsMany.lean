/-
  On a new disk a text of n sectors is written by just n and 6 writes and syncs: for any text.
-/
import Derived.Test.YthllhnjbddpeoaaSlZ
namespace Go.Proofs.Ythllhnjbddpeoaa
open Go Go.RowKit Go.Maps Go.Shelf Go.Proofs Go.ChangeShapes Go.WideShapes Go.ChangeAt

/-- a new disk with a fuse of just as many. -/
theorem many_all {d : Dk} {s : ByteArray} {m : Nat} (hok : d.Ok m) (hL : Live d) (hP : d.P = []) (hC : d.C = []) (hs : s.size ≤ roomN) (ha : d.age = 0) :
    ∃ d', (d.fuse (6 + secs_of s.size : Nat)).slw s = (0, d') ∧ d'.Ok (2 * m + 100000) ∧ d'.has s 1 = true ∧ d'.syncE = 42 := by
  have hsec := secs_le hs
  have hok2 : (d.fuse (6 + secs_of s.size : Nat)).Ok m := hok.fuse_ ⟨by omega, by omega⟩
  have hL2 : Live (d.fuse (6 + secs_of s.size : Nat)) := ⟨hL.de, fun _ => by show (0 : Int) ≤ ((6 + secs_of s.size : Nat) : Int); omega⟩
  have hlen : lenD (d.fuse (6 + secs_of s.size : Nat)) s = 6 + secs_of s.size := lenD_new (d := d.fuse (6 + secs_of s.size : Nat)) hP hC
  have hf2 : (d.fuse (6 + secs_of s.size : Nat)).fu = true := by show decide ((0 : Int) ≤ ((6 + secs_of s.size : Nat) : Int)) = true; exact decide_eq_true (by omega)
  have hle : (d.fuse (6 + secs_of s.size : Nat)).le = ((6 + secs_of s.size : Nat) : Int) := rfl
  have hage2 : (d.fuse (6 + secs_of s.size : Nat)).age = 0 := ha
  have h1 := hok2.slw s
  generalize d.fuse (6 + secs_of s.size : Nat) = x at *
  have hD := slw_ok hL2 hs (by rw [hage2]; decide) (.inr (by rw [hlen, hle]; omega))
  have h2 := hD.has
  have h3 := hD.le
  rw [hage2] at h2
  rw [hf2, hlen, hle] at h3
  simp only [if_true, Int.sub_self] at h3
  obtain ⟨he, _, hfu, _, hde, _, _, _⟩ := hD
  rw [hf2] at hfu
  obtain ⟨⟨e, d'⟩, hd⟩ : ∃ z, x.slw s = z := ⟨_, rfl⟩
  rw [hd] at he hfu hde h1 h2 h3 ⊢
  simp only at he hfu hde h1 h2 h3
  subst he
  refine ⟨d', rfl, h1, h2, ?_⟩
  unfold Dk.syncE Dk.burnB
  rw [hde, hfu, h3]
  rfl
set_option maxRecDepth 100000 in
set_option maxHeartbeats 2000000 in
theorem slotsMany_c (s : ByteArray) (less : Int) (w : World) (hs0 : s.size ≤ 9223372036854775807) (_ : I64 less) [DecidableEq Lit] :
    Calls Try.prog 12 #[.string s, .int .i64 less] w fun e w' => e = .returned (.bool true) ∧ Below w.heap.size w w' := by
  have HAW := hid (fun w' : World => awake_c w')
  by_cases hs : s.size ≤ 20000
  · have hroom : s.size ≤ roomN := by unfold roomN; omega
    have hsec : 512 * secs_of s.size < s.size + 512 := by unfold secs_of; omega
    have hdiv : 6 + ((s.size : Int) + 512 - 1) / 512 = ((6 + secs_of s.size : Nat) : Int) := by unfold secs_of; omega
    have HDIV := hid hdiv
    have ha0 : dk0.age = 0 := by unfold Dk.age; rw [dk0_new]
    obtain ⟨d1, ea, ok1, hh, hse⟩ := many_all (s := s) dk0_ok dk0_live rfl rfl hroom ha0
    have HML := hid (fun n (h1 : 0 ≤ n) (h2 : n < ((6 + secs_of s.size : Nat) : Int)) => many_less (s := s) (n := n) dk0_ok dk0_live rfl hroom (by rw [ha0]; decide) h1 (by rw [lenD_new rfl rfl]; omega) (by omega))
    have EA := hid ea
    have HH := hid hh
    have HSE := hid hse
    have T0 := hid dk0_txt
    clear hdiv ea hh hse hroom ha0
    go_enter Try.func12, Try.ntmps12
    go_wp2_with (fail)
    refine (HAW.out w).mono ?_
    rintro e x0 ⟨rfl, hb0⟩
    have hM0 : Many w x0 [] := Many.nil hb0
    clear hb0
    go_wp2_with (fail)
    refine (dnew_c x0).mono ?_
    rintro e x1 ⟨g, gm, rfl, hD, hg, hgm, hb⟩
    have hM1 := hM0.add hD hg hgm (fun b h => by cases h) hb
    clear hD hg hgm hb hM0
    go_wp2_with (fail)
    refine (dnew_c x1).mono ?_
    rintro e x2 ⟨g2, gm2, rfl, hD, hg, hgm, hb⟩
    have hM2 := hM1.add hD hg hgm (fun b h => by cases h) hb
    clear hD hg hgm hb hM1
    go_wp2_with (fail)
    rw [HDIV.out]
    obtain ⟨n, hn⟩ : ∃ n, 6 + secs_of s.size = n := ⟨_, rfl⟩
    have hn1 : 6 ≤ n ∧ n ≤ 1000 := by omega
    rw [hn] at EA HML ⊢
    clear HDIV hsec
    have H := hid (fuse_c g gm _ dk0 (n : Int) x2 (hM2.at_ 1 rfl) ⟨by omega, by omega⟩)
    go_wp2_with (fail)
    refine H.out.mono ?_
    rintro e x3 ⟨rfl, hD, hT⟩
    have hM3 := hM2.set 1 rfl hD Then.refl hT
    clear H hD hT hM2
    have H := hid (slw_c g gm _ _ 0 s x3 (hM3.at_ 1 rfl) (dk0_ok.fuse_ ⟨by omega, by omega⟩) (by omega) hs0)
    rw [EA.out] at H
    go_wp2_with (fail)
    refine H.out.mono ?_
    rintro e x4 ⟨v4, rfl, hD, hTh, hT⟩
    have hM4 := hM3.set 1 rfl hD hTh hT
    clear H hD hT hTh hM3
    have H := hid (has_c g gm v4 d1 100000 s 1 x4 (hM4.at_ 1 rfl) ok1 (by omega))
    rw [HH.out] at H
    go_wp2_with (fail)
    refine H.out.mono ?_
    rintro e x5 ⟨rfl, hb⟩
    have hM5 := hM4.below hb
    clear H hb hM4
    have H := hid (sync_c g gm v4 d1 100000 x5 (hM5.at_ 1 rfl) ok1 (by omega))
    rw [HSE.out] at H
    go_wp2_with (fail)
    refine H.out.mono ?_
    rintro e x6 ⟨v6, rfl, hD, hTh, hT⟩
    have hM6 := hM5.set 1 rfl hD hTh hT
    clear H hD hT hTh hM5
    have hq0 : 0 ≤ (IntKind.u64.wrap less).tmod (n : Int) ∧ (IntKind.u64.wrap less).tmod (n : Int) < n := by
      have h1 : 0 ≤ IntKind.u64.wrap less := by rw [wrap_u64]; omega
      rw [Int.tmod_eq_emod_of_nonneg h1]
      exact ⟨Int.emod_nonneg _ (by omega), Int.emod_lt_of_pos _ (by omega)⟩
    go_wp2_with (fail)
    generalize (IntKind.u64.wrap less).tmod (n : Int) = q at *
    have hr1 : 0 ≤ (n : Int) - 1 - q := by omega
    have hr2 : (n : Int) - 1 - q < (n : Int) := by omega
    obtain ⟨d2, e2, ok2, ht2⟩ := HML.out _ hr1 hr2
    generalize (n : Int) - 1 - q = r at *
    have E2 := hid e2
    have T2 := hid (ht2.trans T0.out)
    clear e2 ht2 hq0 HML EA HH HSE
    have H := hid (fuse_c g2 gm2 _ dk0 r x6 (hM6.at_ 0 rfl) ⟨by omega, by omega⟩)
    refine H.out.mono ?_
    rintro e x7 ⟨rfl, hD, hT⟩
    have hM7 := hM6.set 0 rfl hD Then.refl hT
    clear H hD hT hM6
    have H := hid (slw_c g2 gm2 _ _ 0 s x7 (hM7.at_ 0 rfl) (dk0_ok.fuse_ ⟨by omega, by omega⟩) (by omega) hs0)
    rw [E2.out] at H
    go_wp2_with (fail)
    refine H.out.mono ?_
    rintro e x8 ⟨v8, rfl, hD, hTh, hT⟩
    have hM8 := hM7.set 0 rfl hD hTh hT
    clear H hD hT hTh hM7
    have H := hid (crash_any_c g2 gm2 v8 d2 100000 none [] 0 0 x8 (hM8.at_ 0 rfl) ok2 (by omega) (fun wr _ => .inl rfl) (by decide) ⟨by omega, by omega⟩)
    go_wp2_with (fail)
    refine H.out.mono ?_
    rintro e x9 ⟨v9, rfl, hD, hTh, hT⟩
    have hM9 := hM8.set 0 rfl hD hTh hT
    clear H hD hT hTh hM8
    have H := hid (start_c g2 gm2 v9 (d2.crash [] 0) x9 (hM9.at_ 0 rfl))
    go_wp2_with (fail)
    refine H.out.mono ?_
    rintro e xa ⟨rfl, hD, hT⟩
    have hMa := hM9.set 0 rfl hD Then.refl hT
    clear H hD hT hM9
    have H := hid (sreadD_c g2 gm2 v9 (d2.crash [] 0).start 100000 xa (hMa.at_ 0 rfl) (ok2.crash [] 0).start (by omega))
    rw [T2.out] at H
    go_wp2_with (fail)
    refine H.out.mono ?_
    rintro e xb ⟨rfl, hb⟩
    have hMb := hMa.below hb
    go_wp2
    go_ret
    exact ⟨rfl, hMb.b⟩
  · go_enter Try.func12, Try.ntmps12
    go_wp2_with (fail)
    refine (HAW.out w).mono ?_
    rintro e w1 ⟨rfl, hb1⟩
    go_wp2
    go_ret
    exact ⟨rfl, hb1⟩
set_option maxRecDepth 100000 in
theorem slotsMany_lifted (os : Os) (started : os.Started) (H : Type) (enc : TypeId × Value → H) :
    ReturnsInHanded {} Try.checked os 12 .any (Rows.slotsManySpec.pre6 enc Try.prog Try.f12 Rows.slotsManyRow.domain false) (Rows.slotsManySpec.post enc Try.prog Try.f12 false true false false) := by
  haveI : DecidableEq Lit := fun a b => Classical.propDecidable (a = b)
  refine returnsInHanded_of_change_sized (C := Try.checked) Try.own started (by kernel_rfl) Try.func12
    (ChangeSpec.witness6 (enc := enc) (C := Try.checked) false ⟨#[], #[.string ⟨#[]⟩, .int .i64 0], []⟩ 8 (by kernel_rfl) (by kernel_rfl) (by kernel_rfl) (by kernel_rfl)) ?_
  intro W base args ds gs before hval0 hW hcnd hsz0 _
  have hval : ∀ (j : Nat) t v, Try.f12.params[j]? = some t → args[j]? = some v → Value.okWide Try.prog W .any base t v := hval0
  have hW' := hW
  obtain ⟨p, q, hA0, hV, rfl, hfz, hnd⟩ := hW
  have hA : DataW.TrodAll enc Try.prog W 0 (fun _ => true) true Try.f12.params.toList args.toList ds p := hA0
  rw [Try.params12] at hA hval
  obtain ⟨v0, v1, d0, d1, p0, p1, rfl, rfl, rfl, h0, h1⟩ := trodAll_two hA
  obtain ⟨rfl, rfl⟩ := trodVars_none hV
  have hsz : ∀ n ∈ DataW.weightsEach Try.prog [9, 3] [d0, d1], n ≤ reachBytes := fun n hn => by
    have := List.all_eq_true.1 hsz0 n (by rw [Try.params12]; exact hn)
    simpa using this
  obtain ⟨x0, rfl, _, _, w0⟩ := Go.ChangeMaps.open_string Try.underlying9 (hval 0 9 v0 rfl rfl) h0
  obtain ⟨x1, rfl, _, _, w1⟩ := open_int Try.underlying3 (hval 1 3 v1 rfl rfl) h1
  clear hA0 hval0
  refine (slotsMany_c x0 x1 W (by unfold maxLen at w0; omega) (i64_of w1)).mono fun e W' ⟨he, hb⟩ => ?_
  subst he
  exact ⟨_, rfl, post_true hW' hb Try.laidOut (by kernel_rfl) rfl rfl rfl rfl rfl Try.underlying4⟩

theorem slotsMany_holds : Rows.SlotsManySaid :=
  OpenClaim.holds_of_wide 12 Try.f12 rfl rfl rfl rfl rfl rfl rfl ⟨rfl, rfl, rfl, rfl, rfl⟩ rfl rfl rfl rfl rfl (by kernel_rfl) Try.func12 (by kernel_rfl)
    (of_decide_eq_true (by kernel_rfl)) (by unfold Func.isWrapper; first | (rw [if_pos (by decide +kernel)]; kernel_rfl) | (rw [if_neg (by decide +kernel)]; exact ⟨rfl, rfl⟩))
    (fun os started H enc _ => slotsMany_lifted os started H enc)
#print axioms slotsMany_holds
end Go.Proofs.Ythllhnjbddpeoaa
