/-
  PROVED HERE: DiskSynced: what was on the platter stays till a sync, or a crash; behind a sync it is what was read ahead of it, also behind whatever crash: for every steps, what is kept, how many bytes.
-/
import Derived.Test.YthllhnjbddpeoaaDkQ
namespace Go.Proofs.Ythllhnjbddpeoaa
open Go.ChangeShapes Go.WideShapes Go.ChangeAt Go.RowKit Go.Maps Go.Shelf Go.Proofs

theorem Dsk.ne_cells {w : World} {g gm b : Nat} {v : Value} {d : Dk} {cur : Array Value} {e : TypeId} {fz : Nat × Nat} (h : Dsk w g gm v d) (hb : w.heap[b]? = some (.cells cur e fz)) (h1 : e ≠ 85) (h2 : e ≠ 80) : b ≠ g ∧ b ≠ gm ∧ v.ownBlock ≠ some b := by
  refine ⟨fun e1 => ?_, fun e1 => ?_, fun e1 => ?_⟩
  · subst e1
    have := h.row
    unfold Row1 at this
    rw [hb] at this
    simp only [Option.some.injEq, Obj.cells.injEq] at this
    exact h1 this.2.1
  · subst e1
    obtain ⟨es, clock, hm⟩ := h.map.isMap
    rw [hb] at hm
    cases hm
  · rcases h.own.2 with ⟨rfl, _⟩ | ⟨g2, cap, cur2, rfl, _, h3, _⟩
    · cases e1
    · simp only [Value.ownBlock, Option.some.injEq] at e1
      subst e1
      rw [hb] at h3
      simp only [Option.some.injEq, Obj.cells.injEq] at h3
      exact h2 h3.2.1
theorem Own.tch {w w' : World} {g gm base : Nat} {v u : Value} {d : Dk} {e : TypeId} {xs : List Value} (h : Own w base e u xs) (hD : Dsk w g gm v d) (hT : Tch w w' g gm v) (h1 : e ≠ 85) (h2 : e ≠ 80) : Own w' base e u xs := by
  refine ⟨h.1, ?_⟩
  rcases h.2 with hn | ⟨b, cap, cur, rfl, hb, hg, rest⟩
  · exact .inl hn
  · have hne := hD.ne_cells hg h1 h2
    exact .inr ⟨b, cap, cur, rfl, hb, (hT.block b (Array.getElem?_eq_some_iff.1 hg).1 hne.1 hne.2.1 hne.2.2).trans hg, rest⟩

theorem Own.slice_at {w : World} {base b o n c k : Nat} {e : TypeId} {xs : List Value} {v : Value} (h : Own w base e (.slice (some ⟨b, o, none⟩) n c) xs) (hx : xs[k]? = some v) : w.cell? ⟨b, o + k, none⟩ = some v := by
  obtain ⟨A, c', e, hc⟩ := h.form
  injection e with e1 e2 e3
  subst e1
  rcases hc with h0 | ⟨b', off', e, h5⟩
  · subst h0; simp at hx
  · simp only [Option.some.injEq, Addr.mk.injEq, and_true] at e
    obtain ⟨rfl, rfl⟩ := e
    exact h5 _ _ hx
theorem start_read {d : Dk} (h : d.C = []) (y : Int) : d.start.read y = d.plat y := by
  unfold Dk.read Dk.start lastC
  rw [h]
  rfl
theorem cells5_at {w : World} {b off : Nat} {l : List St} {k : Nat} {x : St} (h : CellsS w (some ⟨b, off, none⟩) l) (hx : l[k]? = some x) :
    w.cell? ⟨b, off + k * 5, none⟩ = some (.int .u8 x.kd) ∧ w.cell? ⟨b, off + k * 5 + 1, none⟩ = some (.int .i64 x.at_) ∧ w.cell? ⟨b, off + k * 5 + 2, none⟩ = some (.string x.s) ∧ w.cell? ⟨b, off + k * 5 + 3, none⟩ = some (.int .i64 x.n) ∧ w.cell? ⟨b, off + k * 5 + 4, none⟩ = some (.slice x.ka x.ks.length x.kc) := by
  obtain ⟨b', off', e, h5⟩ := h.at_ hx
  simp only [Option.some.injEq, Addr.mk.injEq, and_true] at e
  obtain ⟨rfl, rfl⟩ := e
  exact h5

set_option maxRecDepth 100000 in
set_option maxHeartbeats 4000000 in
theorem diskSynced_c (A : Option Addr) (l : List St) (c : Nat) (A1 : Option Addr) (ks : List Bool) (c1 : Nat) (n : Int) (w : World) (hA : CellsS w A l) (hl : l.length ≤ 9223372036854775807) (ho : ∀ u ∈ l, u.Ok w) (hA1 : Cells w A1 (ks.map Value.bool)) (hks : ks.length ≤ 140737488355327) (hn : I64 n) [DecidableEq Lit] :
    Calls Try.prog 6 #[.slice A l.length c, .slice A1 ks.length c1, .int .i64 n] w fun e w' => e = .returned (.bool true) ∧ Below w.heap.size w w' := by
  have HO := hid ho
  have HA := hid hA
  have HA1 := hid hA1
  clear ho hA hA1
  go_enter Try.func6, Try.ntmps6
  go_wp2_with (fail)
  refine (works_c w).mono ?_
  rintro e w1 ⟨rfl, hb⟩
  go_wp2_with (fail)
  refine (long_c A l c w1 (HA.out.below hb) hl fun u hu => ⟨(HO.out u hu).s, (HO.out u hu).kl⟩).mono ?_
  rintro e w2 ⟨⟨b, rfl, hfew⟩, hd⟩
  replace hb := below_dr hb hd
  cases b with
  | true =>
    clear hfew hd
    go_wp2_with (fail)
    refine (works_c w2).mono ?_
    rintro e w3 ⟨rfl, hb3⟩
    go_wp2
    go_ret
    exact ⟨rfl, below_next hb hb.size hb3⟩
  | false =>
    have hfl := hfew rfl
    clear hfew hd
    by_cases h6 : 1000 < ks.length
    · go_wp2_with (fail)
      refine (works_c w2).mono ?_
      rintro e w3 ⟨rfl, hb3⟩
      go_wp2
      go_ret
      exact ⟨rfl, below_next hb hb.size hb3⟩
    · go_wp2_with (fail)
      refine (dnew_c w2).mono ?_
      rintro e w3 ⟨g, gm, rfl, hD, hg, hgm, hb3⟩
      have hB : Base w2 w3 g gm (.slice none 0 0) := ⟨hb3, hg, hgm, (fun b h => by cases h)⟩
      clear hg hgm
      have hb4 := below_next hb hb.size hb3
      clear hb3
      go_wp2_with (fail)
      refine (sectors_c A l c w3 (HA.out.below hb4) (by omega)).mono ?_
      rintro e w4 ⟨v4, rfl, hOw, hb5⟩
      replace hD := hD.below hb5
      replace hB := hB.below hb5
      obtain ⟨A4, c4, rfl, hC4⟩ := hOw.form
      obtain ⟨b4, o4, rfl, -⟩ := hC4.at_map (l := secs l) (k := 0) (x := 0) rfl
      have hsl : ((secs l).map (Value.int .i64)).length = l.length + 3 := by rw [List.length_map, secs_len]
      have HSI := hid (secs_i64 HO.out)
      rw [hsl] at hOw ⊢
      clear hC4 hb5 hsl
      go_wp2
      go_loopw [9] (fun i wr => ∃ (k : Nat) (v : Value), i = .int .i64 k ∧ k ≤ l.length ∧ Dsk wr g gm v (runs (l.take k)) ∧ Base w2 wr g gm v ∧ Own wr w3.heap.size 3 (.slice (some ⟨b4, o4, none⟩) (l.length + 3) c4) ((secs l).map (Value.int .i64))) (fun i _ => l.length - (intOf i).toNat)
      case atStart => exact ⟨0, _, rfl, by omega, hD, hB, hOw⟩
      case round =>
        obtain ⟨k, v, rfl, hk, hDr, hBr, hOr⟩ := hrel
        clear hD hB hOw
        have hbw := below_next hb hb.size hBr.b
        by_cases hlt : k < l.length
        · obtain ⟨x, hx⟩ := get_of_lt hlt
          have hxo := HO.out x (List.mem_of_getElem? hx)
          obtain ⟨y, hy⟩ := get_of_lt (l := secs l) (k := k) (by rw [secs_len]; omega)
          have hyi := HSI.out y (List.mem_of_getElem? hy)
          have q5 := Own.slice_at hOr (k := k) (v := .int .i64 y) (by rw [List.getElem?_map, hy]; rfl)
          obtain ⟨b, off, rfl, d0, d1, d2, d3, d4⟩ := cellsS5 HA.out hbw hx
          have hok := runs_ok (w := w) (l.take k) fun u hu => HO.out u (List.mem_of_mem_take hu)
          have hkl : (l.take k).length ≤ 200 := by have := List.length_take_le' k l; omega
          have HS := hid (show runs (l.take (k + 1)) = (runs (l.take k)).step x by rw [take_snoc hx, runs_snoc])
          generalize runs (l.take k) = d at *
          have hm1 : ((k : Int)).tmod ((l.length : Int) + 3) = k := by rw [Int.tmod_eq_emod_of_nonneg (by omega), Int.emod_eq_of_lt (by omega) (by omega)]
          have HX := hid hx
          clear hy
          have HOK := hid hok
          clear hx hok
          go_wp2_with (fail)
          refine (platter_c g gm v d y wr hDr hyi).mono ?_
          rintro e w5 ⟨rfl, hb5⟩
          have hD5 := hDr.below hb5
          have hB5 := hBr.below hb5
          have hO5 := hOr.keep fun g hg => (hb5.block g (hOr.block g hg).2)
          obtain ⟨d0, d1, d2, d3, d4⟩ := cells5_at (HA.out.below (below_next hbw hbw.size hb5)) HX.out
          have HC := hid (do_c w2 g gm v d _ x _ hD5 HOK.out (by omega) hB5 (Ok.below hxo hb))
          go_wp2_with (fail)
          refine HC.out.mono ?_
          rintro e w6 ⟨v', rfl, hD6, hTh, hT⟩
          have hB6 := hB5.step hTh hT
          have hO6 := hO5.tch hD5 hT (by decide) (by decide)
          obtain ⟨d0, d1, d2, d3, d4⟩ := cells5_at (HA.out.below (below_next hb hb.size hB6.b)) HX.out
          clear HC hT hTh hDr hBr hOr hD5 hB5 hO5
          by_cases h1 : x.kd = 1
          · go_wp2
            go_roundw
            case rel => exact ⟨k + 1, v', by go_num, by omega, by rw [HS.out]; exact hD6, hB6, hO6⟩
            case measure => simp [intOf]; omega
          · by_cases h3 : x.kd = 3
            · go_wp2
              go_roundw
              case rel => exact ⟨k + 1, v', by go_num, by omega, by rw [HS.out]; exact hD6, hB6, hO6⟩
              case measure => simp [intOf]; omega
            · go_wp2_with (fail)
              refine (platter_c g gm v' _ y w6 hD6 hyi).mono ?_
              rintro e w7 ⟨rfl, hb7⟩
              rw [step_plat d x h1 h3 y]
              have hD7 := hD6.below hb7
              have hB7 := hB6.below hb7
              have hO7 := hO6.keep fun g hg => (hb7.block g (hO6.block g hg).2)
              go_wp2
              go_roundw
              case rel => exact ⟨k + 1, v', by go_num, by omega, by rw [HS.out]; exact hD7, hB7, hO7⟩
              case measure => simp [intOf]; omega
        · obtain rfl : k = l.length := by omega
          rw [List.take_length] at hDr
          have hok := runs_ok (w := w) l fun u hu => HO.out u hu
          generalize runs l = dr at *
          go_wp2_with (fail)
          refine (start_c g gm v dr wr hDr).mono ?_
          rintro e wS ⟨rfl, hDS, hTS⟩
          replace hBr := hBr.step Then.refl hTS
          replace hOr := hOr.tch hDr hTS (by decide) (by decide)
          replace hok := hok.start
          have HSY := hid (fun x => sync_plat hok (by rfl) (by rfl) x)
          clear hDr hTS
          generalize dr.start = d at *
          have HOK := hid hok
          have hdl : d.C.length ≤ 1000000 := by have := hok.len; omega
          clear hok
          have hbS := below_next hb hb.size hBr.b
          go_wp2
          go_loopw [12, 13] (fun u i wq => ∃ k : Nat, i = .int .i64 k ∧ k ≤ l.length + 3 ∧ Own wq wS.heap.size 9 u (((secs l).take k).map fun a => Value.string (d.read a)) ∧ Below wS.heap.size wS wq) (fun _ i _ => l.length + 3 - (intOf i).toNat)
          case atStart => exact ⟨0, rfl, by omega, ⟨rfl, .inl ⟨rfl, rfl⟩⟩, Below.refl _ _⟩
          case round =>
            obtain ⟨k, rfl, hk, hU, hbq⟩ := hrel
            have hDq := hDS.below hbq
            by_cases hlt : k < l.length + 3
            · obtain ⟨y, hy⟩ := get_of_lt (l := secs l) (k := k) (by rw [secs_len]; omega)
              have hyi := HSI.out y (List.mem_of_getElem? hy)
              have hOq := hOr.keep fun g hg => (hbq.block g (hOr.block g hg).2)
              have q5 := Own.slice_at hOq (k := k) (v := .int .i64 y) (by rw [List.getElem?_map, hy]; rfl)
              have hs : ((secs l).take k).map (fun a => Value.string (d.read a)) ++ [Value.string (d.read y)] = ((secs l).take (k + 1)).map fun a => Value.string (d.read a) := by rw [take_snoc hy]; simp
              have hl2 : (((secs l).take k).map fun a => Value.string (d.read a)).length = k := by
                rw [List.length_map, List.length_take, secs_len]; omega
              have HSL := hid (⟨hs, hl2⟩ : _ ∧ _)
              have hsz := hbq.size
              clear hs hl2 hy
              go_wp2_with (fail)
              refine (read_c g gm v d y wr hDq hyi hdl).mono ?_
              rintro e w7 ⟨rfl, hb7⟩
              have hU7 := hU.keep fun g hg => (hb7.block g (hU.block g hg).2)
              have hsz7 := hb7.size
              have hbq7 := below_next hbq hbq.size hb7
              clear hU
              go_wp2_with (at_builtin; refine wpList_push elt_str w7 rfl _ _ rfl wS.heap.size hU7 rfl (.string (d.read y)) rfl rfl (by rw [HSL.out.2]; omega) (by rw [HSL.out.2]; omega) (by omega) ?_; intro v' w8 hown8 hk8 hb8; rw [HSL.out.1] at hown8)
              go_roundw
              case rel => exact ⟨k + 1, by go_num, by omega, hown8, hbq7.trans hb8⟩
              case measure => simp [intOf]; omega
            · obtain rfl : k = l.length + 3 := by omega
              rw [List.take_of_length_le (by rw [secs_len]; omega)] at hU
              have hBq := hBr.below hbq
              have hOq := hOr.keep fun g hg => (hbq.block g (hOr.block g hg).2)
              obtain ⟨A6, c6, rfl, hC6⟩ := hU.form
              obtain ⟨b6, o6, rfl, -⟩ := hC6.at_map (l := secs l) (k := 0) (x := 0) rfl
              have hsl : ((secs l).map fun a => Value.string (d.read a)).length = l.length + 3 := by rw [List.length_map, secs_len]
              rw [hsl] at hU ⊢
              clear hC6 hsl hDS hBr hOr hbq
              go_wp2_with (fail)
              refine (sync_c g gm v d _ wr hDq HOK.out (by omega)).mono ?_
              rintro e wA ⟨v2, rfl, hDA, hTh, hTA⟩
              have hBA := hBq.step hTh hTA
              have hOA := hOq.tch hDq hTA (by decide) (by decide)
              have hUA := hU.tch hDq hTA (by decide) (by decide)
              clear hBq hOq hU hDq hTh hTA
              rw [(HSY.out 0).1]
              have HC0 := hid (HSY.out 0).2.1
              have HPL := hid (fun x => (HSY.out x).2.2.1)
              have HOK2 := hid HOK.out.sync
              clear HSY
              go_wp2_with (fail)
              refine (waits_c g gm v2 d.sync wA hDA).mono ?_
              rintro e _ ⟨rfl, rfl⟩
              rw [HC0.out]
              go_wp2_with (fail)
              refine (crash_c w2 g gm v2 d.sync _ A1 ks c1 n wA hDA HOK2.out (by omega) hBA (HA1.out.below hb) (by omega) hn).mono ?_
              rintro e wC ⟨v3, rfl, hDC, hTh2, hTC⟩
              have hBC := hBA.step hTh2 hTC
              have HOC := hid (hOA.tch hDA hTC (by decide) (by decide))
              have HUC := hid (hUA.tch hDA hTC (by decide) (by decide))
              have HPC := hid (fun x => (crash_none HC0.out ks n x).trans (HPL.out x))
              have HCC := hid (show (d.sync.crash ks n).C = [] from rfl)
              clear hBA hOA hUA hDA hTh2 hTC
              generalize d.sync.crash ks n = D3 at *
              go_wp2
              go_loopw [14] (fun i wq => ∃ k : Nat, i = .int .i64 k ∧ k ≤ l.length + 3 ∧ Below wC.heap.size wC wq) (fun i _ => l.length + 3 - (intOf i).toNat)
              case atStart => exact ⟨0, rfl, by omega, Below.refl _ _⟩
              case round =>
                obtain ⟨k, rfl, hk, hbq⟩ := hrel
                by_cases hlt : k < l.length + 3
                · obtain ⟨y, hy⟩ := get_of_lt (l := secs l) (k := k) (by rw [secs_len]; omega)
                  have hyi := HSI.out y (List.mem_of_getElem? hy)
                  have HQ := hid (fun wx (hbx : Below wC.heap.size wC wx) => (⟨Own.slice_at (HOC.out.keep fun g hg => (hbx.block g (HOC.out.block g hg).2)) (k := k) (v := .int .i64 y) (by rw [List.getElem?_map, hy]; rfl), Own.slice_at (HUC.out.keep fun g hg => (hbx.block g (HUC.out.block g hg).2)) (k := k) (v := .string (d.read y)) (by rw [List.getElem?_map, hy]; rfl)⟩ : _ ∧ _))
                  clear hy
                  go_wp2_with (fail)
                  refine Rgd.wp_region (l := [_, _, _, _, _, _, _, _, _, _]) (tail := [_]) (Rgd.keep wr [] [(0, 0), (0, 0), (0, 0), (0, 0), (0, 0), (0, 0), (0, 0), (0, 0), (0, 0), (0, 0)]) [some 109, some 110, some 111, some 112, some 113, some 114, some 115, some 116, some 117, some 118, some 119] 139 rfl [[], [], [], [1, 2], [1, 2, 3], [0, 1, 2, 3, 4], [], [], [6, 7], [6, 7, 8]] (by kernel_rfl) (by kernel_rfl) (by kernel_rfl) (by kernel_rfl) (by kernel_rfl) rfl (Rgd.keep_fair) (Rgd.keep_start _) ?_
                  refine' Rgd.op_is _ [] 0 0 rfl rfl rfl (by kernel_rfl) ?_ ?_
                  rotate_left
                  · intro p wx hp1 hp2 hb
                    obtain rfl : p = 0 := by omega
                    refine Rgd.from_nil fun T hT => ?_
                    go_wp2
                    refine hT _ _ rfl (by first | exact Rgd.Keep.refl _ | exact below_of_dr hw2 | exact hw2 | exact (Below.refl _ _).alloc (Nat.le_refl _) _) ?_
                    simp only [Rgd.last, List.getElem?_toArray, List.getElem?_cons_succ, List.getElem?_cons_zero, Option.getD_some]
                    rfl
                  refine' Rgd.op_is _ [] 0 0 rfl rfl rfl (by kernel_rfl) ?_ ?_
                  rotate_left
                  · intro p wx hp1 hp2 hb
                    obtain rfl : p = 0 := by omega
                    refine Rgd.from_nil fun T hT => ?_
                    go_wp2
                    refine hT _ _ rfl (by first | exact Rgd.Keep.refl _ | exact below_of_dr hw2 | exact hw2 | exact (Below.refl _ _).alloc (Nat.le_refl _) _) ?_
                    simp only [Rgd.last, List.getElem?_toArray, List.getElem?_cons_succ, List.getElem?_cons_zero, Option.getD_some]
                    rfl
                  refine' Rgd.op_is _ [] 0 0 rfl rfl rfl (by kernel_rfl) ?_ ?_
                  rotate_left
                  · intro p wx hp1 hp2 hb
                    obtain rfl : p = 0 := by omega
                    refine Rgd.from_nil fun T hT => ?_
                    go_wp2
                    refine hT _ _ rfl (by first | exact Rgd.Keep.refl _ | exact below_of_dr hw2 | exact hw2 | exact (Below.refl _ _).alloc (Nat.le_refl _) _) ?_
                    simp only [Rgd.last, List.getElem?_toArray, List.getElem?_cons_succ, List.getElem?_cons_zero, Option.getD_some]
                    rfl
                  refine' Rgd.op_is _ [1, 2] 0 0 rfl rfl rfl (by kernel_rfl) ?_ ?_
                  rotate_left
                  · intro p wx hp1 hp2 hb
                    obtain rfl : p = 0 := by omega
                    refine Rgd.from_is (some 110) rfl rfl ?_
                    refine Rgd.from_is (some 111) rfl rfl ?_
                    refine Rgd.from_nil fun T hT => ?_
                    go_wp2
                    refine hT _ _ rfl (by first | exact Rgd.Keep.refl _ | exact below_of_dr hw2 | exact hw2 | exact (Below.refl _ _).alloc (Nat.le_refl _) _) ?_
                    simp only [Rgd.last, List.getElem?_toArray, List.getElem?_cons_succ, List.getElem?_cons_zero, Option.getD_some]
                    rfl
                  refine Rgd.op_is (.int .i64 y) [3] 0 0 rfl rfl rfl (by kernel_rfl) ?_ ?_
                  · intro p wx hp1 hp2 hb
                    obtain rfl : p = 0 := by omega
                    refine Rgd.from_is (some 112) rfl rfl ?_
                    refine Rgd.from_nil fun T hT => ?_
                    have q5 := (HQ.out wx (below_next hbq hbq.size hb)).1
                    go_wp2
                    exact hT _ _ rfl (by first | exact Rgd.Keep.refl _ | exact below_of_dr hw2 | exact hw2 | exact (Below.refl _ _).alloc (Nat.le_refl _) _) (by first | rfl | exact congrArg _ (by decide))
                  refine Rgd.op_is (.string (d.read y)) [0, 4] 0 0 rfl rfl rfl (by kernel_rfl) ?_ ?_
                  · intro p wx hp1 hp2 hb
                    obtain rfl : p = 0 := by omega
                    refine Rgd.from_is (some 109) rfl rfl ?_
                    refine Rgd.from_is (some 113) rfl rfl ?_
                    refine Rgd.from_nil fun T hT => ?_
                    go_wp2_with (fail)
                    refine (platter_c g gm v3 D3 y _ (hDC.below (below_next hbq hbq.size hb)) hyi).mono ?_
                    rintro e wy ⟨rfl, hk⟩
                    go_wp2
                    exact hT _ _ rfl hk (by simp [Rgd.last, HPC.out])
                  refine' Rgd.op_is _ [] 0 0 rfl rfl rfl (by kernel_rfl) ?_ ?_
                  rotate_left
                  · intro p wx hp1 hp2 hb
                    obtain rfl : p = 0 := by omega
                    refine Rgd.from_nil fun T hT => ?_
                    go_wp2
                    refine hT _ _ rfl (by first | exact Rgd.Keep.refl _ | exact below_of_dr hw2 | exact hw2 | exact (Below.refl _ _).alloc (Nat.le_refl _) _) ?_
                    simp only [Rgd.last, List.getElem?_toArray, List.getElem?_cons_succ, List.getElem?_cons_zero, Option.getD_some]
                    rfl
                  refine' Rgd.op_is _ [] 0 0 rfl rfl rfl (by kernel_rfl) ?_ ?_
                  rotate_left
                  · intro p wx hp1 hp2 hb
                    obtain rfl : p = 0 := by omega
                    refine Rgd.from_nil fun T hT => ?_
                    go_wp2
                    refine hT _ _ rfl (by first | exact Rgd.Keep.refl _ | exact below_of_dr hw2 | exact hw2 | exact (Below.refl _ _).alloc (Nat.le_refl _) _) ?_
                    simp only [Rgd.last, List.getElem?_toArray, List.getElem?_cons_succ, List.getElem?_cons_zero, Option.getD_some]
                    rfl
                  refine' Rgd.op_is _ [6, 7] 0 0 rfl rfl rfl (by kernel_rfl) ?_ ?_
                  rotate_left
                  · intro p wx hp1 hp2 hb
                    obtain rfl : p = 0 := by omega
                    refine Rgd.from_is (some 115) rfl rfl ?_
                    refine Rgd.from_is (some 116) rfl rfl ?_
                    refine Rgd.from_nil fun T hT => ?_
                    go_wp2
                    refine hT _ _ rfl (by first | exact Rgd.Keep.refl _ | exact below_of_dr hw2 | exact hw2 | exact (Below.refl _ _).alloc (Nat.le_refl _) _) ?_
                    simp only [Rgd.last, List.getElem?_toArray, List.getElem?_cons_succ, List.getElem?_cons_zero, Option.getD_some]
                    rfl
                  refine Rgd.op_is (.string (d.read y)) [8] 0 0 rfl rfl rfl (by kernel_rfl) ?_ ?_
                  · intro p wx hp1 hp2 hb
                    obtain rfl : p = 0 := by omega
                    refine Rgd.from_is (some 117) rfl rfl ?_
                    refine Rgd.from_nil fun T hT => ?_
                    have q6 := (HQ.out wx (below_next hbq hbq.size hb)).2
                    go_wp2
                    exact hT _ _ rfl (by first | exact Rgd.Keep.refl _ | exact below_of_dr hw2 | exact hw2 | exact (Below.refl _ _).alloc (Nat.le_refl _) _) (by first | rfl | exact congrArg _ (by decide))
                  refine Rgd.walk_nil [0, 1, 2, 3, 4, 5, 6, 7, 8, 9] (by kernel_rfl) ?_
                  intro wx hb
                  refine Rgd.from_is (some 109) rfl rfl ?_
                  refine Rgd.from_is (some 110) rfl rfl ?_
                  refine Rgd.from_is (some 111) rfl rfl ?_
                  refine Rgd.from_is (some 112) rfl rfl ?_
                  refine Rgd.from_is (some 113) rfl rfl ?_
                  refine Rgd.from_is (some 114) rfl rfl ?_
                  refine Rgd.from_is (some 115) rfl rfl ?_
                  refine Rgd.from_is (some 116) rfl rfl ?_
                  refine Rgd.from_is (some 117) rfl rfl ?_
                  refine Rgd.from_is (some 118) rfl rfl ?_
                  refine Rgd.from_nil ?_
                  simp only [List.map, Act.put, List.setIfInBounds_toArray, List.set_cons_zero, List.set_cons_succ]
                  have hbq2 := below_next hbq hbq.size hb
                  go_wp2
                  go_roundw
                  case rel => exact ⟨k + 1, by go_num, by omega, hbq2⟩
                  case measure => simp [intOf]; omega
                · have hDr3 := hDC.below hbq
                  have hBr3 := hBC.below hbq
                  have hOr3 := HOC.out.keep fun g hg => (hbq.block g (HOC.out.block g hg).2)
                  have hUr3 := HUC.out.keep fun g hg => (hbq.block g (HUC.out.block g hg).2)
                  clear hDC hBC hbq
                  go_wp2_with (fail)
                  refine (start_c g gm v3 D3 wr hDr3).mono ?_
                  rintro e wE ⟨rfl, hDE, hTE⟩
                  have hBE := hBr3.step Then.refl hTE
                  have HOE := hid (hOr3.tch hDr3 hTE (by decide) (by decide))
                  have HUE := hid (hUr3.tch hDr3 hTE (by decide) (by decide))
                  have HRE := hid (fun y => (start_read HCC.out y).trans (HPC.out y))
                  have HCE := hid (show D3.start.C.length ≤ 1000000 by show D3.C.length ≤ _; rw [HCC.out]; decide)
                  clear hDr3 hBr3 hOr3 hUr3 hTE
                  generalize D3.start = D4 at *
                  go_wp2
                  go_loopw [15] (fun i wq => ∃ k : Nat, i = .int .i64 k ∧ k ≤ l.length + 3 ∧ Below wE.heap.size wE wq) (fun i _ => l.length + 3 - (intOf i).toNat)
                  case atStart => exact ⟨0, rfl, by omega, Below.refl _ _⟩
                  case round =>
                    obtain ⟨k, rfl, hk, hbq⟩ := hrel
                    by_cases hlt : k < l.length + 3
                    · obtain ⟨y, hy⟩ := get_of_lt (l := secs l) (k := k) (by rw [secs_len]; omega)
                      have hyi := HSI.out y (List.mem_of_getElem? hy)
                      have HQ := hid (fun wx (hbx : Below wE.heap.size wE wx) => (⟨Own.slice_at (HOE.out.keep fun g hg => (hbx.block g (HOE.out.block g hg).2)) (k := k) (v := .int .i64 y) (by rw [List.getElem?_map, hy]; rfl), Own.slice_at (HUE.out.keep fun g hg => (hbx.block g (HUE.out.block g hg).2)) (k := k) (v := .string (d.read y)) (by rw [List.getElem?_map, hy]; rfl)⟩ : _ ∧ _))
                      clear hy
                      go_wp2_with (fail)
                      refine Rgd.wp_region (l := [_, _, _, _, _, _, _, _, _, _]) (tail := [_]) (Rgd.keep wr [] [(0, 0), (0, 0), (0, 0), (0, 0), (0, 0), (0, 0), (0, 0), (0, 0), (0, 0), (0, 0)]) [some 128, some 129, some 130, some 131, some 132, some 133, some 134, some 135, some 136, some 137, some 138] 139 rfl [[], [], [], [1, 2], [1, 2, 3], [0, 1, 2, 3, 4], [], [], [6, 7], [6, 7, 8]] (by kernel_rfl) (by kernel_rfl) (by kernel_rfl) (by kernel_rfl) (by kernel_rfl) rfl (Rgd.keep_fair) (Rgd.keep_start _) ?_
                      refine' Rgd.op_is _ [] 0 0 rfl rfl rfl (by kernel_rfl) ?_ ?_
                      rotate_left
                      · intro p wx hp1 hp2 hb
                        obtain rfl : p = 0 := by omega
                        refine Rgd.from_nil fun T hT => ?_
                        go_wp2
                        refine hT _ _ rfl (by first | exact Rgd.Keep.refl _ | exact below_of_dr hw2 | exact hw2 | exact (Below.refl _ _).alloc (Nat.le_refl _) _) ?_
                        simp only [Rgd.last, List.getElem?_toArray, List.getElem?_cons_succ, List.getElem?_cons_zero, Option.getD_some]
                        rfl
                      refine' Rgd.op_is _ [] 0 0 rfl rfl rfl (by kernel_rfl) ?_ ?_
                      rotate_left
                      · intro p wx hp1 hp2 hb
                        obtain rfl : p = 0 := by omega
                        refine Rgd.from_nil fun T hT => ?_
                        go_wp2
                        refine hT _ _ rfl (by first | exact Rgd.Keep.refl _ | exact below_of_dr hw2 | exact hw2 | exact (Below.refl _ _).alloc (Nat.le_refl _) _) ?_
                        simp only [Rgd.last, List.getElem?_toArray, List.getElem?_cons_succ, List.getElem?_cons_zero, Option.getD_some]
                        rfl
                      refine' Rgd.op_is _ [] 0 0 rfl rfl rfl (by kernel_rfl) ?_ ?_
                      rotate_left
                      · intro p wx hp1 hp2 hb
                        obtain rfl : p = 0 := by omega
                        refine Rgd.from_nil fun T hT => ?_
                        go_wp2
                        refine hT _ _ rfl (by first | exact Rgd.Keep.refl _ | exact below_of_dr hw2 | exact hw2 | exact (Below.refl _ _).alloc (Nat.le_refl _) _) ?_
                        simp only [Rgd.last, List.getElem?_toArray, List.getElem?_cons_succ, List.getElem?_cons_zero, Option.getD_some]
                        rfl
                      refine' Rgd.op_is _ [1, 2] 0 0 rfl rfl rfl (by kernel_rfl) ?_ ?_
                      rotate_left
                      · intro p wx hp1 hp2 hb
                        obtain rfl : p = 0 := by omega
                        refine Rgd.from_is (some 129) rfl rfl ?_
                        refine Rgd.from_is (some 130) rfl rfl ?_
                        refine Rgd.from_nil fun T hT => ?_
                        go_wp2
                        refine hT _ _ rfl (by first | exact Rgd.Keep.refl _ | exact below_of_dr hw2 | exact hw2 | exact (Below.refl _ _).alloc (Nat.le_refl _) _) ?_
                        simp only [Rgd.last, List.getElem?_toArray, List.getElem?_cons_succ, List.getElem?_cons_zero, Option.getD_some]
                        rfl
                      refine Rgd.op_is (.int .i64 y) [3] 0 0 rfl rfl rfl (by kernel_rfl) ?_ ?_
                      · intro p wx hp1 hp2 hb
                        obtain rfl : p = 0 := by omega
                        refine Rgd.from_is (some 131) rfl rfl ?_
                        refine Rgd.from_nil fun T hT => ?_
                        have q5 := (HQ.out wx (below_next hbq hbq.size hb)).1
                        go_wp2
                        exact hT _ _ rfl (by first | exact Rgd.Keep.refl _ | exact below_of_dr hw2 | exact hw2 | exact (Below.refl _ _).alloc (Nat.le_refl _) _) (by first | rfl | exact congrArg _ (by decide))
                      refine Rgd.op_is (.string (d.read y)) [0, 4] 0 0 rfl rfl rfl (by kernel_rfl) ?_ ?_
                      · intro p wx hp1 hp2 hb
                        obtain rfl : p = 0 := by omega
                        refine Rgd.from_is (some 128) rfl rfl ?_
                        refine Rgd.from_is (some 132) rfl rfl ?_
                        refine Rgd.from_nil fun T hT => ?_
                        go_wp2_with (fail)
                        refine (read_c g gm v3 D4 y _ (hDE.below (below_next hbq hbq.size hb)) hyi HCE.out).mono ?_
                        rintro e wy ⟨rfl, hk⟩
                        go_wp2
                        exact hT _ _ rfl hk (by simp [Rgd.last, HRE.out])
                      refine' Rgd.op_is _ [] 0 0 rfl rfl rfl (by kernel_rfl) ?_ ?_
                      rotate_left
                      · intro p wx hp1 hp2 hb
                        obtain rfl : p = 0 := by omega
                        refine Rgd.from_nil fun T hT => ?_
                        go_wp2
                        refine hT _ _ rfl (by first | exact Rgd.Keep.refl _ | exact below_of_dr hw2 | exact hw2 | exact (Below.refl _ _).alloc (Nat.le_refl _) _) ?_
                        simp only [Rgd.last, List.getElem?_toArray, List.getElem?_cons_succ, List.getElem?_cons_zero, Option.getD_some]
                        rfl
                      refine' Rgd.op_is _ [] 0 0 rfl rfl rfl (by kernel_rfl) ?_ ?_
                      rotate_left
                      · intro p wx hp1 hp2 hb
                        obtain rfl : p = 0 := by omega
                        refine Rgd.from_nil fun T hT => ?_
                        go_wp2
                        refine hT _ _ rfl (by first | exact Rgd.Keep.refl _ | exact below_of_dr hw2 | exact hw2 | exact (Below.refl _ _).alloc (Nat.le_refl _) _) ?_
                        simp only [Rgd.last, List.getElem?_toArray, List.getElem?_cons_succ, List.getElem?_cons_zero, Option.getD_some]
                        rfl
                      refine' Rgd.op_is _ [6, 7] 0 0 rfl rfl rfl (by kernel_rfl) ?_ ?_
                      rotate_left
                      · intro p wx hp1 hp2 hb
                        obtain rfl : p = 0 := by omega
                        refine Rgd.from_is (some 134) rfl rfl ?_
                        refine Rgd.from_is (some 135) rfl rfl ?_
                        refine Rgd.from_nil fun T hT => ?_
                        go_wp2
                        refine hT _ _ rfl (by first | exact Rgd.Keep.refl _ | exact below_of_dr hw2 | exact hw2 | exact (Below.refl _ _).alloc (Nat.le_refl _) _) ?_
                        simp only [Rgd.last, List.getElem?_toArray, List.getElem?_cons_succ, List.getElem?_cons_zero, Option.getD_some]
                        rfl
                      refine Rgd.op_is (.string (d.read y)) [8] 0 0 rfl rfl rfl (by kernel_rfl) ?_ ?_
                      · intro p wx hp1 hp2 hb
                        obtain rfl : p = 0 := by omega
                        refine Rgd.from_is (some 136) rfl rfl ?_
                        refine Rgd.from_nil fun T hT => ?_
                        have q6 := (HQ.out wx (below_next hbq hbq.size hb)).2
                        go_wp2
                        exact hT _ _ rfl (by first | exact Rgd.Keep.refl _ | exact below_of_dr hw2 | exact hw2 | exact (Below.refl _ _).alloc (Nat.le_refl _) _) (by first | rfl | exact congrArg _ (by decide))
                      refine Rgd.walk_nil [0, 1, 2, 3, 4, 5, 6, 7, 8, 9] (by kernel_rfl) ?_
                      intro wx hb
                      refine Rgd.from_is (some 128) rfl rfl ?_
                      refine Rgd.from_is (some 129) rfl rfl ?_
                      refine Rgd.from_is (some 130) rfl rfl ?_
                      refine Rgd.from_is (some 131) rfl rfl ?_
                      refine Rgd.from_is (some 132) rfl rfl ?_
                      refine Rgd.from_is (some 133) rfl rfl ?_
                      refine Rgd.from_is (some 134) rfl rfl ?_
                      refine Rgd.from_is (some 135) rfl rfl ?_
                      refine Rgd.from_is (some 136) rfl rfl ?_
                      refine Rgd.from_is (some 137) rfl rfl ?_
                      refine Rgd.from_nil ?_
                      simp only [List.map, Act.put, List.setIfInBounds_toArray, List.set_cons_zero, List.set_cons_succ]
                      have hbq2 := below_next hbq hbq.size hb
                      go_wp2
                      go_roundw
                      case rel => exact ⟨k + 1, by go_num, by omega, hbq2⟩
                      case measure => simp [intOf]; omega
                    · go_wp2
                      go_ret
                      exact ⟨rfl, below_next hb hb.size (hBE.below hbq).b⟩
set_option maxRecDepth 100000 in
theorem diskSynced_lifted (os : Os) (started : os.Started) (H : Type) (enc : TypeId × Value → H) :
    ReturnsInHanded {} Try.checked os 6 .any (Rows.diskSyncedSpec.pre6 enc Try.prog Try.f6 Rows.diskSyncedRow.domain false) (Rows.diskSyncedSpec.post enc Try.prog Try.f6 false true false false) := by
  haveI : DecidableEq Lit := fun a b => Classical.propDecidable (a = b)
  refine returnsInHanded_of_change_sized (C := Try.checked) Try.own started (by kernel_rfl) Try.func6
    (ChangeSpec.witness6 (enc := enc) (C := Try.checked) false ⟨#[], #[.slice none 0 0, .slice none 0 0, .int .i64 0], []⟩ 8 (by kernel_rfl) (by kernel_rfl) (by kernel_rfl) (by kernel_rfl)) ?_
  intro W base args ds gs before hval0 hW hcnd hsz0 _
  have hval : ∀ (j : Nat) t v, Try.f6.params[j]? = some t → args[j]? = some v → Value.okWide Try.prog W .any base t v := hval0
  have hW' := hW
  obtain ⟨p, q, hA0, hV, rfl, hfz, hnd⟩ := hW
  have hA : DataW.TrodAll enc Try.prog W 0 (fun _ => true) true Try.f6.params.toList args.toList ds p := hA0
  rw [Try.params6] at hA hval
  obtain ⟨v0, v1, v2, d0, d1, d2, p0, p1, p2, rfl, rfl, rfl, h0, h1, h2⟩ := trodAll_three hA
  obtain ⟨rfl, rfl⟩ := trodVars_none hV
  have hsz : ∀ n ∈ DataW.weightsEach Try.prog [22, 33, 3] [d0, d1, d2], n ≤ reachBytes := fun n hn => by
    have := List.all_eq_true.1 hsz0 n (by rw [Try.params6]; exact hn)
    simpa using this
  obtain ⟨_, k0⟩ := one_ofV Try.underlying22 (hval 0 22 v0 rfl rfl) h0
  obtain ⟨A0, x0, c0, rfl, a0, b0, e0⟩ := steps_at k0 (fun n hn => hsz n (DataW.weights_mem_each (j := 0) rfl rfl n hn))
  obtain ⟨_, k1⟩ := one_ofV Try.underlying33 (hval 1 33 v1 rfl rfl) h1
  obtain ⟨A1, x1, c1, rfl, a1, b1⟩ := bools_at k1 (fun n hn => hsz n (DataW.weights_mem_each (j := 1) rfl rfl n hn))
  obtain ⟨x2, rfl, _, _, w2⟩ := open_int Try.underlying3 (hval 2 3 v2 rfl rfl) h2
  clear hA0 hval0
  refine (diskSynced_c A0 x0 c0 A1 x1 c1 x2 W a0 b0 e0 a1 b1 (i64_of w2)).mono fun e W' ⟨he, hb⟩ => ?_
  subst he
  exact ⟨_, rfl, post_true hW' hb Try.laidOut (by kernel_rfl) rfl rfl rfl rfl rfl Try.underlying4⟩

theorem diskSynced_holds : Rows.DiskSyncedSaid :=
  OpenClaim.holds_of_wide 6 Try.f6 rfl rfl rfl rfl rfl rfl rfl ⟨rfl, rfl, rfl, rfl, rfl⟩ rfl rfl rfl rfl rfl (by kernel_rfl) Try.func6 (by kernel_rfl)
    (of_decide_eq_true (by kernel_rfl)) (by unfold Func.isWrapper; first | (rw [if_pos (by decide +kernel)]; kernel_rfl) | (rw [if_neg (by decide +kernel)]; exact ⟨rfl, rfl⟩))
    (fun os started H enc _ => diskSynced_lifted os started H enc)
#print axioms diskSynced_holds
end Go.Proofs.Ythllhnjbddpeoaa
