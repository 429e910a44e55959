/-
  PROVED HERE: DiskFuse: with a fuse of n just n writes and syncs are done, and none behind that till it starts: for every steps, every fuse, every steps behind.
-/
import Derived.Test.YtnniiokpngdgkaaDiskRead
namespace Go.Proofs.Ytnniiokpngdgkaa
open Go.ChangeShapes Go.WideShapes Go.ChangeAt Go.RowKit Go.Maps Go.Shelf Go.Proofs

/-- how a write or a sync by a fuse ends. -/
structure Fz (D : Dk) (N j : Nat) : Prop where
  fu : D.fu = true
  le : D.le = (N : Int) - j
  de : D.de = false
  jn : j ≤ N
theorem Fz.burnB {D : Dk} {N j : Nat} (h : Fz D N j) : D.burnB = decide (j < N) := by
  unfold Dk.burnB
  rw [h.fu, h.le]
  have := h.jn
  by_cases hj : j < N
  · simp [hj]; omega
  · simp [hj]; omega
theorem Fz.burn {D : Dk} {N j : Nat} (h : Fz D N j) (hj : j < N) : D.burn = { D with le := D.le - 1 } := by
  unfold Dk.burn
  rw [if_pos h.fu, if_neg (by rw [h.le]; omega)]
theorem Fz.out {D : Dk} {N j : Nat} (h : Fz D N j) (hj : ¬ j < N) : D.burn = { D with de := true } := by
  unfold Dk.burn
  have := h.jn
  rw [if_pos h.fu, if_pos (by rw [h.le]; omega)]
theorem Fz.sync_yes {D : Dk} {N j : Nat} (h : Fz D N j) (hj : j < N) : D.syncE = 0 ∧ Fz D.sync N (j + 1) := by
  have h1 : D.syncE = 0 := by simp [Dk.syncE, h.de, h.burnB, hj]
  have h2 : D.sync = { D.burn with P := D.C.foldl setP D.P, C := [] } := by simp [Dk.sync, h.de, h.burnB, hj]
  refine ⟨h1, ?_⟩
  rw [h2, h.burn hj]
  exact ⟨h.fu, by simp only [h.le]; omega, h.de, hj⟩
theorem Fz.sync_no {D : Dk} {N j : Nat} (h : Fz D N j) (hj : ¬ j < N) : D.syncE = 42 ∧ D.sync.de = true := by
  have h1 : D.syncE = 42 := by simp [Dk.syncE, h.de, h.burnB, hj]
  have h2 : D.sync = D.burn := by simp [Dk.sync, h.de, h.burnB, hj]
  exact ⟨h1, by rw [h2, h.out hj]⟩
theorem Fz.write_yes {D : Dk} {N j : Nat} (h : Fz D N j) (hj : j < N) {a : Int} {s : ByteArray} (ha : isS a = true) (hs : s.size ≤ 512) : D.writeE a s = 0 ∧ Fz (D.write a s) N (j + 1) := by
  have h1 : D.writeE a s = 0 := by simp [Dk.writeE, h.de, h.burnB, hj, ha, hs]
  refine ⟨h1, ?_⟩
  rw [(write_done h1).1, h.burn hj]
  exact ⟨h.fu, by simp only [h.le]; omega, h.de, hj⟩
theorem Fz.write_no {D : Dk} {N j : Nat} (h : Fz D N j) (hj : ¬ j < N) {a : Int} {s : ByteArray} (ha : isS a = true) (hs : s.size ≤ 512) : D.writeE a s = 42 ∧ (D.write a s).de = true := by
  have hs' : ¬ 512 < s.size := by omega
  have h1 : D.writeE a s = 42 := by simp [Dk.writeE, h.de, h.burnB, hj, ha, hs']
  have h2 : D.write a s = D.burn := by simp [Dk.write, h.de, h.burnB, hj, ha, hs']
  exact ⟨h1, by rw [h2, h.out hj]⟩
theorem Fz.write_bad {D : Dk} {N j : Nat} (h : Fz D N j) {a : Int} {s : ByteArray} (hn : isS a = false ∨ 512 < s.size) : (D.writeE a s = 1 ∨ D.writeE a s = 10) ∧ D.write a s = D := by
  cases ha : isS a with
  | false => exact ⟨.inl (by simp [Dk.writeE, h.de, ha]), by simp [Dk.write, h.de, ha]⟩
  | true =>
    rw [ha] at hn
    have hs : 512 < s.size := hn.resolve_left (by simp)
    exact ⟨.inr (by simp [Dk.writeE, h.de, ha, hs]), by simp [Dk.write, h.de, ha, hs]⟩

/-- the number of a fuse. -/
def fuseN (n : Int) : Nat := (n % 18446744073709551616 % 100).toNat
theorem fuse_eq (n : Int) : wrap64 ((IntKind.u64.wrap n).tmod 100) = (fuseN n : Int) := by
  have h1 : IntKind.u64.wrap n = n % 18446744073709551616 := by simp [IntKind.wrap, IntKind.bits, IntKind.signed]
  have h2 := Int.emod_nonneg n (show (18446744073709551616 : Int) ≠ 0 by omega)
  rw [h1, Int.tmod_eq_emod_of_nonneg h2]
  have h3 : wrap64 (n % 18446744073709551616 % 100) = n % 18446744073709551616 % 100 := IntWalk.wrap64_in _ ⟨by omega, by omega⟩
  rw [h3]
  unfold fuseN
  omega
theorem fuseN_lt (n : Int) : fuseN n < 100 := by unfold fuseN; omega
abbrev sOn : ByteArray := ⟨#[111, 110]⟩
theorem pad_cut (s : ByteArray) : (pad s).extract 0 s.size = s := by
  apply bytes_ext
  simp only [ByteArray.data_extract, Array.toList_extract, List.extract_eq_take_drop, List.drop_zero, Nat.sub_zero, pad_data]
  rw [List.take_append_of_le_length (by rw [Array.length_toList]; exact Nat.le_refl _), List.take_of_length_le (by rw [Array.length_toList]; exact Nat.le_refl _)]

set_option maxRecDepth 100000 in
set_option maxHeartbeats 4000000 in
theorem diskFuse_c (A : Option Addr) (l : List St) (c : Nat) (n : Int) (A2 : Option Addr) (l2 : List St) (c2 : Nat) (w : World) (hA : CellsS w A l) (hl : l.length ≤ 9223372036854775807) (ho : ∀ u ∈ l, u.Ok w) (hn : I64 n) (hA2 : CellsS w A2 l2) (hl2 : l2.length ≤ 9223372036854775807) (ho2 : ∀ u ∈ l2, u.Ok w) [DecidableEq Lit] :
    Calls Try.prog 4 #[.slice A l.length c, .int .i64 n, .slice A2 l2.length c2] w fun e w' => e = .returned (.bool true) ∧ Below w.heap.size w w' := by
  have HO := hid ho
  have HA := hid hA
  have HO2 := hid ho2
  have HA2 := hid hA2
  clear ho hA ho2 hA2
  go_enter Try.func4, Try.ntmps4
  go_wp2_with (fail)
  refine (works_c w).mono ?_
  rintro e w1 ⟨rfl, hb⟩
  go_wp2_with (fail)
  refine (long_c A l c w1 (HA.out.below hb) hl fun u hu => ⟨(HO.out u hu).s, (HO.out u hu).kl⟩).mono ?_
  rintro e w2 ⟨⟨b, rfl, hfew⟩, hd⟩
  replace hb := below_dr hb hd
  cases b with
  | true =>
    clear hfew hd
    go_wp2_with (fail)
    refine (works_c w2).mono ?_
    rintro e w3 ⟨rfl, hb3⟩
    go_wp2
    go_ret
    exact ⟨rfl, below_next hb hb.size hb3⟩
  | false =>
    have hfl := hfew rfl
    clear hfew hd
    go_wp2_with (fail)
    refine (long_c A2 l2 c2 w2 (HA2.out.below hb) hl2 fun u hu => ⟨(HO2.out u hu).s, (HO2.out u hu).kl⟩).mono ?_
    rintro e w3 ⟨⟨b, rfl, hfew⟩, hd⟩
    replace hb := below_dr hb hd
    cases b with
    | true =>
      clear hfew hd
      go_wp2_with (fail)
      refine (works_c w3).mono ?_
      rintro e w4 ⟨rfl, hb4⟩
      go_wp2
      go_ret
      exact ⟨rfl, below_next hb hb.size hb4⟩
    | false =>
      have hfl2 := hfew rfl
      clear hfew hd
      go_wp2_with (fail)
      refine (after_c A l c w3 (HA.out.below hb) hfl fun u hu => Ok.below (HO.out u hu) hb).mono ?_
      rintro e w4 ⟨g, gm, v, rfl, hD, hB⟩
      rw [fuse_eq n]
      have hok := runs_ok (w := w) l HO.out
      have hNlt := fuseN_lt n
      generalize fuseN n = N at *
      generalize runs l = d at *
      go_wp2_with (fail)
      refine (start_c g gm v d _ hD).mono ?_
      rintro e w5 ⟨rfl, hD, hT⟩
      replace hB := hB.step Then.refl hT
      clear hT
      go_wp2_with (fail)
      refine (fuse_c g gm v d.start N _ hD ⟨by omega, by omega⟩).mono ?_
      rintro e w6 ⟨rfl, hD, hT⟩
      replace hB := hB.step Then.refl hT
      have hok2 : (d.start.fuse N).Ok l.length := hok.start.fuse_ ⟨by omega, by omega⟩
      have hF : Fz (d.start.fuse N) N 0 := ⟨by simp [Dk.fuse], by simp [Dk.fuse], rfl, Nat.zero_le _⟩
      clear hT hok
      generalize d.start.fuse N = d2 at *
      go_wp2
      go_loopw [8, 9] (fun j i wr => ∃ (k m : Nat) (v : Value) (D : Dk), i = .int .i64 k ∧ k ≤ l2.length ∧ j = .int .i64 m ∧ Dsk wr g gm v D ∧ D.Ok (l.length + k) ∧ Fz D N m ∧ Base w3 wr g gm v) (fun _ i _ => l2.length - (intOf i).toNat)
      case atStart => exact ⟨0, 0, v, d2, rfl, by omega, rfl, hD, hok2, hF, hB⟩
      case round =>
        obtain ⟨k, m, v, D, rfl, hk, rfl, hDr, hokr, hFr, hBr⟩ := hrel
        clear hD hok2 hF hB
        have hmN := hFr.jn
        have hbw := below_next hb hb.size hBr.b
        by_cases hlt : k < l2.length
        · obtain ⟨x, hx⟩ := get_of_lt hlt
          have hxo := HO2.out x (List.mem_of_getElem? hx)
          obtain ⟨b, off, rfl, d0, d1, d2, d3, d4⟩ := cellsS5 HA2.out hbw hx
          clear hx
          have hb7 := below_alloc wr (.cells #[.int .u8 x.kd, .int .i64 x.at_, .string x.s, .int .i64 x.n, .slice x.ka x.ks.length x.kc] 35)
          have hD7 := hDr.below hb7
          have hB7 := hBr.below hb7
          have HC := hid (do_c w3 g gm v D _ x _ hD7 hokr (by omega) hB7 (Ok.below hxo hb))
          have hok8 := hokr.step hxo
          obtain ⟨kd, a, s, n3, ka, ks, kc⟩ := x
          have hkd := hxo.kd
          simp only at hkd d0 d1 d2 d3 d4 HC hb7 hD7 hB7 hok8
          clear hxo
          by_cases q : 1 < kd
          · go_wp2
            go_roundw
            case rel => exact ⟨k + 1, m, v, D, by go_num, by omega, rfl, hD7, hokr.mono (by omega), hFr, hB7⟩
            case measure => simp [intOf]; omega
          · by_cases q1 : kd = 1
            · subst q1
              have hE := hid (show D.stepE ⟨1, a, s, n3, ka, ks, kc⟩ = D.syncE ∧ D.step ⟨1, a, s, n3, ka, ks, kc⟩ = D.sync from ⟨rfl, rfl⟩)
              go_wp2_with (fail)
              refine HC.out.mono ?_
              rintro e w8 ⟨v', rfl, hD8, hTh, hT⟩
              have hB8 := hB7.step hTh hT
              clear hTh hT HC
              rw [hE.out.1]
              rw [hE.out.2] at hD8 hok8
              clear hE
              by_cases hj : m < N
              · obtain ⟨e1, hF8⟩ := hFr.sync_yes hj
                rw [e1]
                clear e1
                go_wp2_with (fail)
                refine (dead_c g gm v' _ _ hD8).mono ?_
                rintro e _ ⟨rfl, rfl⟩
                rw [hF8.de]
                go_wp2
                go_roundw
                case rel => exact ⟨k + 1, m + 1, v', _, by go_num, by omega, by go_num, hD8, hok8, hF8, hB8⟩
                case measure => simp [intOf]; omega
              · obtain ⟨e1, hde⟩ := hFr.sync_no hj
                rw [e1]
                clear e1
                go_wp2_with (fail)
                refine (dead_c g gm v' _ _ hD8).mono ?_
                rintro e _ ⟨rfl, rfl⟩
                rw [hde]
                generalize D.sync = D8 at *
                go_wp2_with (fail)
                refine (start_c g gm v' D8 _ hD8).mono ?_
                rintro e w9 ⟨rfl, hD9, hT9⟩
                have hB9 := hB8.step Then.refl hT9
                have hok9 := hok8.start
                have hw0 : D8.start.writeE 0 sOn = 0 := by simp [Dk.writeE, Dk.start, isS, Dk.burnB, ByteArray.size]
                clear hT9 hD8 hB8 hde
                generalize D8.start = D9 at *
                go_wp2_with (fail)
                refine (write_c g gm v' D9 _ 0 sOn _ hD9 hok9 (by omega) ⟨by omega, by omega⟩ (by decide)).mono ?_
                rintro e w10 ⟨v10, rfl, hD10, hTh, hT⟩
                have hB10 := hB9.step hTh hT
                rw [hw0]
                have hR := hid (read_write hw0 0)
                have hok10 := hok9.write 0 sOn
                clear hTh hT
                go_wp2_with (fail)
                refine (read_c g gm v10 _ 0 _ hD10 ⟨by omega, by omega⟩ (by have := hok10.len; omega)).mono ?_
                rintro e w11 ⟨rfl, hb11⟩
                rw [show (D9.write 0 sOn).read 0 = pad sOn by rw [hR.out]; simp]
                have hp1 : (pad sOn).size = 512 := pad_size (by decide)
                have hp2 : (pad sOn).extract 0 2 = sOn := pad_cut sOn
                go_wp2
                go_ret
                exact ⟨ret_bool (by simp), below_next hb hb.size (hB10.below hb11).b⟩
            · obtain rfl : kd = 0 := by omega
              have hE := hid (show D.stepE ⟨0, a, s, n3, ka, ks, kc⟩ = D.writeE a s ∧ D.step ⟨0, a, s, n3, ka, ks, kc⟩ = D.write a s from ⟨rfl, rfl⟩)
              by_cases hf : (0 ≤ a ∧ a < 65536) ∧ s.size ≤ 512
              · obtain ⟨⟨f1, f2⟩, f3⟩ := hf
                have his := isS_iff.2 ⟨f1, f2⟩
                have HIS := hid his
                clear his
                go_wp2_with (fail)
                refine HC.out.mono ?_
                rintro e w8 ⟨v', rfl, hD8, hTh, hT⟩
                have hB8 := hB7.step hTh hT
                clear hTh hT HC
                rw [hE.out.1]
                rw [hE.out.2] at hD8 hok8
                clear hE
                by_cases hj : m < N
                · obtain ⟨e1, hF8⟩ := hFr.write_yes hj HIS.out f3
                  rw [e1]
                  clear e1
                  go_wp2_with (fail)
                  refine (dead_c g gm v' _ _ hD8).mono ?_
                  rintro e _ ⟨rfl, rfl⟩
                  rw [hF8.de]
                  go_wp2
                  go_roundw
                  case rel => exact ⟨k + 1, m + 1, v', _, by go_num, by omega, by go_num, hD8, hok8, hF8, hB8⟩
                  case measure => simp [intOf]; omega
                · obtain ⟨e1, hde⟩ := hFr.write_no hj HIS.out f3
                  rw [e1]
                  clear e1
                  go_wp2_with (fail)
                  refine (dead_c g gm v' _ _ hD8).mono ?_
                  rintro e _ ⟨rfl, rfl⟩
                  rw [hde]
                  generalize D.write a s = D8 at *
                  go_wp2_with (fail)
                  refine (start_c g gm v' D8 _ hD8).mono ?_
                  rintro e w9 ⟨rfl, hD9, hT9⟩
                  have hB9 := hB8.step Then.refl hT9
                  have hok9 := hok8.start
                  have hw0 : D8.start.writeE 0 sOn = 0 := by simp [Dk.writeE, Dk.start, isS, Dk.burnB, ByteArray.size]
                  clear hT9 hD8 hB8 hde
                  generalize D8.start = D9 at *
                  go_wp2_with (fail)
                  refine (write_c g gm v' D9 _ 0 sOn _ hD9 hok9 (by omega) ⟨by omega, by omega⟩ (by decide)).mono ?_
                  rintro e w10 ⟨v10, rfl, hD10, hTh, hT⟩
                  have hB10 := hB9.step hTh hT
                  rw [hw0]
                  have hR := hid (read_write hw0 0)
                  have hok10 := hok9.write 0 sOn
                  clear hTh hT
                  go_wp2_with (fail)
                  refine (read_c g gm v10 _ 0 _ hD10 ⟨by omega, by omega⟩ (by have := hok10.len; omega)).mono ?_
                  rintro e w11 ⟨rfl, hb11⟩
                  rw [show (D9.write 0 sOn).read 0 = pad sOn by rw [hR.out]; simp]
                  have hp1 : (pad sOn).size = 512 := pad_size (by decide)
                  have hp2 : (pad sOn).extract 0 2 = sOn := pad_cut sOn
                  go_wp2
                  go_ret
                  exact ⟨ret_bool (by simp), below_next hb hb.size (hB10.below hb11).b⟩
              · have hbad : isS a = false ∨ 512 < s.size := by
                  cases his : isS a with
                  | false => exact .inl rfl
                  | true =>
                    right
                    have := isS_iff.1 his
                    omega
                have HBD := hid hbad
                have hway : a < 0 ∨ (0 ≤ a ∧ 65536 ≤ a) ∨ ((0 ≤ a ∧ a < 65536) ∧ 512 < s.size) := by omega
                clear hbad hf
                rcases hway with f1 | ⟨f1, f2⟩ | ⟨⟨f1, f2⟩, f3⟩
                all_goals
                  go_wp2_with (fail)
                  refine HC.out.mono ?_
                  rintro e w8 ⟨v', rfl, hD8, hTh, hT⟩
                  have hB8 := hB7.step hTh hT
                  clear hTh hT HC
                  rw [hE.out.1]
                  obtain ⟨e1, e2⟩ := hFr.write_bad HBD.out
                  rw [hE.out.2, e2] at hD8 hok8
                  clear hE e2
                  rcases e1 with e1 | e1
                  all_goals
                    rw [e1]
                    clear e1
                    go_wp2_with (fail)
                    refine (dead_c g gm v' _ _ hD8).mono ?_
                    rintro e _ ⟨rfl, rfl⟩
                    rw [hFr.de]
                    go_wp2
                    go_roundw
                    case rel => exact ⟨k + 1, m, v', D, by go_num, by omega, rfl, hD8, hok8, hFr, hB8⟩
                    case measure => simp [intOf]; omega
        · obtain rfl : k = l2.length := by omega
          go_wp2
          go_ret
          exact ⟨rfl, hbw⟩
set_option maxRecDepth 100000 in
theorem diskFuse_lifted (os : Os) (started : os.Started) (H : Type) (enc : TypeId × Value → H) :
    ReturnsInHanded {} Try.checked os 4 .any (Rows.diskFuseSpec.pre6 enc Try.prog Try.f4 Rows.diskFuseRow.domain false) (Rows.diskFuseSpec.post enc Try.prog Try.f4 false true false false) := by
  haveI : DecidableEq Lit := fun a b => Classical.propDecidable (a = b)
  refine returnsInHanded_of_change_sized (C := Try.checked) Try.own started (by kernel_rfl) Try.func4
    (ChangeSpec.witness6 (enc := enc) (C := Try.checked) false ⟨#[], #[.slice none 0 0, .int .i64 0, .slice none 0 0], []⟩ 8 (by kernel_rfl) (by kernel_rfl) (by kernel_rfl) (by kernel_rfl)) ?_
  intro W base args ds gs before hval0 hW hcnd hsz0 _
  have hval : ∀ (j : Nat) t v, Try.f4.params[j]? = some t → args[j]? = some v → Value.okWide Try.prog W .any base t v := hval0
  have hW' := hW
  obtain ⟨p, q, hA0, hV, rfl, hfz, hnd⟩ := hW
  have hA : DataW.TrodAll enc Try.prog W 0 (fun _ => true) true Try.f4.params.toList args.toList ds p := hA0
  rw [Try.params4] at hA hval
  obtain ⟨v0, v1, v2, d0, d1, d2, p0, p1, p2, rfl, rfl, rfl, h0, h1, h2⟩ := trodAll_three hA
  obtain ⟨rfl, rfl⟩ := trodVars_none hV
  have hsz : ∀ n ∈ DataW.weightsEach Try.prog [22, 3, 22] [d0, d1, d2], n ≤ reachBytes := fun n hn => by
    have := List.all_eq_true.1 hsz0 n (by rw [Try.params4]; exact hn)
    simpa using this
  obtain ⟨_, k0⟩ := one_ofV Try.underlying22 (hval 0 22 v0 rfl rfl) h0
  obtain ⟨A0, x0, c0, rfl, a0, b0, e0⟩ := steps_at k0 (fun n hn => hsz n (DataW.weights_mem_each (j := 0) rfl rfl n hn))
  obtain ⟨x1, rfl, _, _, w1⟩ := open_int Try.underlying3 (hval 1 3 v1 rfl rfl) h1
  obtain ⟨_, k2⟩ := one_ofV Try.underlying22 (hval 2 22 v2 rfl rfl) h2
  obtain ⟨A2, x2, c2, rfl, a2, b2, e2⟩ := steps_at k2 (fun n hn => hsz n (DataW.weights_mem_each (j := 2) rfl rfl n hn))
  clear hA0 hval0
  refine (diskFuse_c A0 x0 c0 x1 A2 x2 c2 W a0 b0 e0 (i64_of w1) a2 b2 e2).mono fun e W' ⟨he, hb⟩ => ?_
  subst he
  exact ⟨_, rfl, post_true hW' hb Try.laidOut (by kernel_rfl) rfl rfl rfl rfl rfl Try.underlying4⟩

theorem diskFuse_holds : Rows.DiskFuseSaid :=
  OpenClaim.holds_of_wide 4 Try.f4 rfl rfl rfl rfl rfl rfl rfl ⟨rfl, rfl, rfl, rfl, rfl⟩ rfl rfl rfl rfl rfl (by kernel_rfl) Try.func4 (by kernel_rfl)
    (of_decide_eq_true (by kernel_rfl)) (by unfold Func.isWrapper; first | (rw [if_pos (by decide +kernel)]; kernel_rfl) | (rw [if_neg (by decide +kernel)]; exact ⟨rfl, rfl⟩))
    (fun os started H enc _ => diskFuse_lifted os started H enc)
#print axioms diskFuse_holds
end Go.Proofs.Ytnniiokpngdgkaa
