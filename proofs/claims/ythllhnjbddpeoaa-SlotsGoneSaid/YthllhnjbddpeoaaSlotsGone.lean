/-
  Behind a Write that was done, on any disk, the place that was written has its head, its text, and 00s; behind a Twice both places have: for any steps and any text.
-/
import Derived.Test.YthllhnjbddpeoaaSoE
import Derived.Test.YthllhnjbddpeoaaSoP
import Derived.Test.YthllhnjbddpeoaaSoD
namespace Go.Proofs.Ythllhnjbddpeoaa
open Go Go.RowKit Go.Maps Go.Shelf Go.Proofs Go.ChangeShapes Go.WideShapes Go.ChangeAt

theorem cellsq_at {w : World} {b off : Nat} {L : List Sp} (h : CellsPq w (some ⟨b, off, none⟩) L) {i : Nat} {v : Sp} (hv : L[i]? = some v) :
    w.cell? ⟨b, off + i * 5, none⟩ = some (.int .u8 v.kd) ∧ w.cell? ⟨b, off + i * 5 + 1, none⟩ = some (.string v.s) ∧ w.cell? ⟨b, off + i * 5 + 2, none⟩ = some (.int .i64 v.n) ∧ w.cell? ⟨b, off + i * 5 + 3, none⟩ = some (.slice v.ksA v.ks.length v.ksC) ∧ w.cell? ⟨b, off + i * 5 + 4, none⟩ = some (.int .i64 v.at_) := by
  obtain ⟨b', off', e, h⟩ := h.at_ hv
  cases e
  exact h
theorem write_C (d : Dk) (a : Int) (s : ByteArray) : (d.write a s).C.length ≤ d.C.length + 1 := by
  have h := d.burn_PC.2
  unfold Dk.write
  split
  · omega
  · split
    · split
      · omega
      · split
        · simp
        · rw [h]; omega
    · omega
theorem sync_C (d : Dk) : d.sync.C.length ≤ d.C.length := by
  have h := d.burn_PC.2
  unfold Dk.sync
  split
  · omega
  · split
    · exact Nat.zero_le _
    · rw [h]; omega
/-- one Write, that is done. -/
theorem gone_once {d : Dk} {s : ByteArray} {m : Nat} (hok : d.Ok m) (hL : Live d) (hf : d.fu = false) (hs : s.size ≤ roomN) (hage : d.age ≠ maxN) :
    ∃ d', d.slw s = (0, d') ∧ d'.Ok (2 * m + 100000) ∧ d'.has s ((d.age : Int) + 1) = true ∧ d'.C = [] ∧ (CleanP d'.P 0 (d.age + 1) s ∨ CleanP d'.P 32768 (d.age + 1) s) := by
  have h := slw_ok hL hs hage (.inl hf)
  have h2 := h.has
  have h4 := hok.slw s
  have h6 := (h.wrote).clean (a := d.age + 1)
  obtain ⟨he, hC, _, _, _, _, _, _⟩ := h
  obtain ⟨⟨e, d'⟩, hd⟩ : ∃ x, d.slw s = x := ⟨_, rfl⟩
  rw [hd] at he hC h2 h4 h6
  simp only at he hC h2 h4 h6
  subst he
  refine ⟨d', hd, h4, h2, hC, ?_⟩
  rcases place_pl d with e | e <;> rw [e] at h6
  · exact .inl h6
  · exact .inr h6
/-- two. -/
theorem gone_twice {d : Dk} {s : ByteArray} {m : Nat} (hok : d.Ok m) (hL : Live d) (hf : d.fu = false) (hs : s.size ≤ roomN) (hage : d.age + 2 ≤ maxN) :
    ∃ d', d.twice s = (0, d') ∧ d'.Ok (2 * (2 * m + 100000) + 100000) ∧ d'.has s ((d.age : Int) + 2) = true ∧ (CleanP d'.P 0 (d.age + 1) s ∧ CleanP d'.P 32768 (d.age + 2) s ∨ CleanP d'.P 0 (d.age + 2) s ∧ CleanP d'.P 32768 (d.age + 1) s) := by
  have h := slw_ok hL hs (by omega) (.inl hf)
  have hage1 := h.age
  have hok1 := hok.slw s
  have hl1 := h.live hf
  have hcl := (h.wrote).clean (a := d.age + 1)
  obtain ⟨he, hC, hfu, _, _, hnew, _, _⟩ := h
  obtain ⟨⟨e, d1⟩, hd⟩ : ∃ x, d.slw s = x := ⟨_, rfl⟩
  rw [hd] at he hC hfu hnew hage1 hok1 hl1 hcl
  simp only at he hC hfu hnew hage1 hok1 hl1 hcl
  subst he
  have hpl : d1.place = 32768 - d.place := by
    unfold Dk.place
    rw [hage1, if_pos (by omega), hnew]
    rfl
  have k := slw_ok hl1 hs (by omega) (.inl (hfu.trans hf))
  have k2 := k.has
  have kok := hok1.slw s
  have kcl := (k.wrote).clean (a := d1.age + 1)
  have kout := k.wrote.out
  obtain ⟨ke, _, _, _, _, _, _, _⟩ := k
  have ht : d.twice s = d1.slw s := by unfold Dk.twice; rw [hd]; rfl
  obtain ⟨⟨e, d2⟩, hd2⟩ : ∃ x, d1.slw s = x := ⟨_, rfl⟩
  rw [hd2] at ke k2 kok kcl kout ht
  simp only at ke k2 kok kcl kout
  subst ke
  rw [hpl, hage1] at kcl
  rw [hpl] at kout
  rw [hage1] at k2
  have hvw : ∀ a, vw d1.pc a = getP d1.P a := fun a => by
    have : d1.pc = (d1.P, []) := by unfold Dk.pc; rw [hC]
    rw [this]; rfl
  have hsec := secs_le hs
  have hp := place_pl d
  have old : CleanP d2.P d.place (d.age + 1) s := by
    have ho : ∀ a, d.place ≤ a → a < d.place + 32768 → getP d2.P a = getP d1.P a := fun a h1 h2 => by
      rw [kout a (by rcases hp with e | e <;> rw [e] at h1 h2 ⊢ <;> omega), hvw]
    exact ⟨by rw [ho _ (by omega) (by omega)]; exact hcl.head, fun j hj => by rw [ho _ (by omega) (by omega)]; exact hcl.chunk j hj, fun x h1 h2 => by rw [ho _ (by omega) (by omega)]; exact hcl.rest x h1 h2⟩
  refine ⟨d2, ht, kok, ?_, ?_⟩
  · rw [show ((d.age : Int) + 2) = ((d.age + 1 : Nat) : Int) + 1 by omega]; exact k2
  · rcases hp with e | e <;> rw [e] at kcl old
    · exact .inl ⟨old, kcl⟩
    · exact .inr ⟨kcl, old⟩
theorem twice_full {d : Dk} {s : ByteArray} {m : Nat} (hok : d.Ok m) (hL : Live d) (hf : d.fu = false) (hs : s.size ≤ roomN) (hage : maxN < d.age + 2) : (d.twice s).1 = 41 := by
  have hle := age_le d
  by_cases h : d.age = maxN
  · have e41 : d.slw s = (41, d) := by
      unfold Dk.slw
      rw [hL.de, if_neg (show ¬ roomN < s.size by omega), if_pos h]; rfl
    unfold Dk.twice
    rw [e41, if_neg (by simp)]
  · obtain ⟨d1, h1⟩ := slw_next hok hL hf hs h
    have h2 := h1.age
    have e41 : d1.slw s = (41, d1) := by
      unfold Dk.slw
      rw [h1.live.de, if_neg (show ¬ roomN < s.size by omega), if_pos (show d1.age = maxN by omega)]; rfl
    unfold Dk.twice
    rw [h1.e, if_pos rfl, e41]

set_option maxRecDepth 100000 in
set_option maxHeartbeats 8000000 in
theorem slotsGone_c (A : Option Addr) (l : List Sp) (c : Nat) (s : ByteArray) (tw : Bool) (w : World) (hA : CellsPq w A l) (hl : l.length ≤ 9223372036854775807) (ho : ∀ u ∈ l, u.Ok w) (hs0 : s.size ≤ 9223372036854775807) [DecidableEq Lit] :
    Calls Try.prog 14 #[.slice A l.length c, .string s, .bool tw] w fun e w' => e = .returned (.bool true) ∧ Below w.heap.size w w' := by
  have HO := hid ho
  have HA := hid hA
  have HAW := hid (fun w' : World => awake_c w')
  clear ho hA
  go_enter Try.func14, Try.ntmps14
  go_wp2_with (fail)
  refine (longP_c A l c w HA.out hl fun u hu => ⟨(HO.out u hu).s, (HO.out u hu).ksL⟩).mono ?_
  rintro e w1 ⟨⟨b, rfl, hfew⟩, hd⟩
  have hb1 : Below w.heap.size w w1 := below_of_dr hd
  cases b with
  | true =>
    clear hfew hd
    go_wp2_with (fail)
    refine (HAW.out w1).mono ?_
    rintro e w2 ⟨rfl, hb2⟩
    go_wp2
    go_ret
    exact ⟨rfl, below_next hb1 hb1.size hb2⟩
  | false =>
    obtain ⟨hfl, hfs⟩ := hfew rfl
    have HFS := hid hfs
    clear hfew hd hfs
    by_cases hsz : 5000 < s.size
    · go_wp2_with (fail)
      refine (HAW.out w1).mono ?_
      rintro e w2 ⟨rfl, hb2⟩
      go_wp2
      go_ret
      exact ⟨rfl, below_next hb1 hb1.size hb2⟩
    · go_wp2_with (fail)
      refine (HAW.out w1).mono ?_
      rintro e w2 ⟨rfl, hb2⟩
      have hb3 := below_next hb1 hb1.size hb2
      clear hb1 hb2
      go_wp2_with (fail)
      refine (dnew_c w2).mono ?_
      rintro e w3 ⟨g, gm, rfl, hD, hg, hgm, hb4⟩
      have hB : Base w w3 g gm (.slice none 0 0) := ⟨below_next hb3 hb3.size hb4, Nat.le_trans hb3.size hg, Nat.le_trans hb3.size hgm, fun b h => by cases h⟩
      clear hb3 hb4 hg hgm
      go_wp2_with (fail)
      go_loopw [8] (fun vi wr => ∃ (k : Nat) (v : Value) (d : Dk), vi = .int .i64 k ∧ k ≤ l.length ∧ Dsk wr g gm v d ∧ Base w wr g gm v ∧ Hid (d.Ok 164000 ∧ d.C.length ≤ 98303 + k)) (fun i _ => l.length - (intOf i).toNat)
      case atStart => exact ⟨0, _, dk0, rfl, by omega, hD, hB, hid ⟨dk0_ok.mono (by omega), by decide⟩⟩
      case round =>
        obtain ⟨k, v, d, rfl, hk, hD, hB, HI⟩ := hrel
        by_cases hlt : k < l.length
        · obtain ⟨x, hx⟩ := get_of_lt hlt
          have hxo := HO.out x (List.mem_of_getElem? hx)
          have hxs := HFS.out x (List.mem_of_getElem? hx)
          have HX := hid hx
          obtain ⟨bb, off, rfl, q0, q1, q2, q3, q4⟩ := CellsPq.at_ (HA.out.below hB.b) hx
          have HCELL := hid (fun wx (hbx : Below wr.heap.size wr wx) => cellsq_at (HA.out.below (below_next hB.b hB.b.size hbx)) HX.out)
          have HKS := hid (⟨hxo.ks, hxo.ksL⟩ : _ ∧ _)
          have hxn : I64 x.n := hxo.n
          have hxa : I64 x.at_ := hxo.at_
          have FIN := hid (fun (wz : World) (v' : Value) (d' : Dk) (m : Nat) (hD' : Dsk wz g gm v' d') (hok : d'.Ok m) (hC : d'.C.length ≤ 98303 + (k + 1)) => show d'.Ok 164000 from (hD'.cap hok hC).mono (by omega))
          clear hx hxo
          by_cases k0 : x.kd = 0
          · rw [k0] at q0
            have HC := hid (slw_c g gm v d 164000 x.s wr hD HI.out.1 (by omega) (by omega))
            have HOK := hid (HI.out.1.slw x.s)
            have HCC := hid (slw_C (s := x.s) HI.out.1.fuse (show d.C.length ≤ 98303 + (k + 1) by have := HI.out.2; omega) (by omega))
            clear HI
            go_wp2_with (fail)
            refine HC.out.mono ?_
            rintro e w5 ⟨v5, rfl, hD', hTh, hT⟩
            have hB5 := hB.step hTh hT
            have hD5 := hD'
            clear hD hB hTh hT hD' HC
            go_wp2
            go_roundw
            case rel => exact ⟨k + 1, _, _, by go_num, by omega, hD5, hB5, hid ⟨FIN.out _ _ _ _ hD5 HOK.out HCC.out, HCC.out⟩⟩
            case measure => simp [intOf]; omega
          · have p0 : (x.kd == 0) = false := by simpa using k0
            by_cases k1 : x.kd = 1
            · rw [k1] at q0
              clear p0
              have HC := hid (twice2_c g gm v d 164000 98400 x.s wr hD HI.out.1 (by omega) (by have := HI.out.2; omega) (by omega) (by omega) (by omega))
              have HOK := hid ((twice_C (s := x.s) HI.out.1 HI.out.2 (by omega)).2)
              have HCC := hid ((twice_C (s := x.s) HI.out.1 (show d.C.length ≤ 98303 + (k + 1) by have := HI.out.2; omega) (by omega)).1)
              clear HI
              go_wp2_with (fail)
              refine HC.out.mono ?_
              rintro e w5 ⟨v5, rfl, hD', hTh, hT⟩
              have hB5 := hB.step hTh hT
              have hD5 := hD'
              clear hD hB hTh hT hD' HC
              go_wp2
              go_roundw
              case rel => exact ⟨k + 1, _, _, by go_num, by omega, hD5, hB5, hid ⟨FIN.out _ _ _ _ hD5 HOK.out HCC.out, HCC.out⟩⟩
              case measure => simp [intOf]; omega
            · have p1 : (x.kd == 1) = false := by simpa using k1
              by_cases k2 : x.kd = 2
              · rw [k2] at q0
                clear p0 p1
                have HC := hid (fuse_c g gm v d x.n wr hD hxn)
                have HOK := hid ((HI.out.1.fuse_ ⟨hxn.1, by have := hxn.2; omega⟩ : (d.fuse x.n).Ok 164000))
                have HCC := hid (show (d.fuse x.n).C.length ≤ 98303 + (k + 1) by have := HI.out.2; show d.C.length ≤ _; omega)
                clear HI
                go_wp2_with (fail)
                refine HC.out.mono ?_
                rintro e w5 ⟨rfl, hD', hT⟩
                have hTh : Then wr v v := Then.refl
                have hB5 := hB.step hTh hT
                have hD5 := hD'
                clear hD hB hTh hT hD' HC
                go_wp2
                go_roundw
                case rel => exact ⟨k + 1, _, _, by go_num, by omega, hD5, hB5, hid ⟨FIN.out _ _ _ _ hD5 HOK.out HCC.out, HCC.out⟩⟩
                case measure => simp [intOf]; omega
              · have p2 : (x.kd == 2) = false := by simpa using k2
                by_cases k3 : x.kd = 3
                · rw [k3] at q0
                  clear p0 p1 p2
                  go_wp2_with (fail)
                  refine Rgd.wp_region (l := [_, _, _, _, _, _, _, _, _, _, _]) (tail := [_]) (Rgd.keep wr [] [(0, 0), (0, 0), (0, 0), (0, 0), (0, 0), (0, 0), (0, 0), (0, 0), (0, 0), (0, 0), (0, 0)]) [some 65, some 66, some 67, some 68, some 69, some 70, some 71, some 72, some 73, some 74, some 75, some 76] 169 rfl [[], [], [], [1, 2], [1, 2, 3], [1, 2, 3, 4], [], [], [6, 7], [6, 7, 8], [6, 7, 8, 9]] (by kernel_rfl) (by kernel_rfl) (by kernel_rfl) (by kernel_rfl) (by kernel_rfl) rfl (Rgd.keep_fair) (Rgd.keep_start _) ?_
                  refine' Rgd.op_is _ [] 0 0 rfl rfl rfl (by kernel_rfl) ?_ ?_
                  rotate_left
                  · intro p wx hp1 hp2 hb
                    obtain rfl : p = 0 := by omega
                    refine Rgd.from_nil fun T hT => ?_
                    go_wp2
                    refine hT _ _ rfl (by first | exact Rgd.Keep.refl _ | exact below_of_dr hw2 | exact hw2 | exact (Below.refl _ _).alloc (Nat.le_refl _) _) ?_
                    simp only [Rgd.last, List.getElem?_toArray, List.getElem?_cons_succ, List.getElem?_cons_zero, Option.getD_some]
                    rfl
                  refine' Rgd.op_is _ [] 0 0 rfl rfl rfl (by kernel_rfl) ?_ ?_
                  rotate_left
                  · intro p wx hp1 hp2 hb
                    obtain rfl : p = 0 := by omega
                    refine Rgd.from_nil fun T hT => ?_
                    go_wp2
                    refine hT _ _ rfl (by first | exact Rgd.Keep.refl _ | exact below_of_dr hw2 | exact hw2 | exact (Below.refl _ _).alloc (Nat.le_refl _) _) ?_
                    simp only [Rgd.last, List.getElem?_toArray, List.getElem?_cons_succ, List.getElem?_cons_zero, Option.getD_some]
                    rfl
                  refine' Rgd.op_is _ [] 0 0 rfl rfl rfl (by kernel_rfl) ?_ ?_
                  rotate_left
                  · intro p wx hp1 hp2 hb
                    obtain rfl : p = 0 := by omega
                    refine Rgd.from_nil fun T hT => ?_
                    go_wp2
                    refine hT _ _ rfl (by first | exact Rgd.Keep.refl _ | exact below_of_dr hw2 | exact hw2 | exact (Below.refl _ _).alloc (Nat.le_refl _) _) ?_
                    simp only [Rgd.last, List.getElem?_toArray, List.getElem?_cons_succ, List.getElem?_cons_zero, Option.getD_some]
                    rfl
                  refine' Rgd.op_is _ [1, 2] 0 0 rfl rfl rfl (by kernel_rfl) ?_ ?_
                  rotate_left
                  · intro p wx hp1 hp2 hb
                    obtain rfl : p = 0 := by omega
                    refine Rgd.from_is (some 66) rfl rfl ?_
                    refine Rgd.from_is (some 67) rfl rfl ?_
                    refine Rgd.from_nil fun T hT => ?_
                    go_wp2
                    refine hT _ _ rfl (by first | exact Rgd.Keep.refl _ | exact below_of_dr hw2 | exact hw2 | exact (Below.refl _ _).alloc (Nat.le_refl _) _) ?_
                    simp only [Rgd.last, List.getElem?_toArray, List.getElem?_cons_succ, List.getElem?_cons_zero, Option.getD_some]
                    rfl
                  refine' Rgd.op_is _ [3] 0 0 rfl rfl rfl (by kernel_rfl) ?_ ?_
                  rotate_left
                  · intro p wx hp1 hp2 hb
                    obtain rfl : p = 0 := by omega
                    refine Rgd.from_is (some 68) rfl rfl ?_
                    refine Rgd.from_nil fun T hT => ?_
                    go_wp2
                    refine hT _ _ rfl (by first | exact Rgd.Keep.refl _ | exact below_of_dr hw2 | exact hw2 | exact (Below.refl _ _).alloc (Nat.le_refl _) _) ?_
                    simp only [Rgd.last, List.getElem?_toArray, List.getElem?_cons_succ, List.getElem?_cons_zero, Option.getD_some]
                    rfl
                  refine Rgd.op_is (.slice x.ksA x.ks.length x.ksC) [4] 0 0 rfl rfl rfl (by kernel_rfl) ?_ ?_
                  · intro p wx hp1 hp2 hb
                    obtain rfl : p = 0 := by omega
                    refine Rgd.from_is (some 69) rfl rfl ?_
                    refine Rgd.from_nil fun T hT => ?_
                    have q := (HCELL.out wx hb).2.2.2.1
                    go_wp2
                    exact hT _ _ rfl (by first | exact Rgd.Keep.refl _ | exact below_of_dr hw2 | exact hw2 | exact (Below.refl _ _).alloc (Nat.le_refl _) _) (by first | rfl | exact congrArg _ (by decide))
                  refine' Rgd.op_is _ [] 0 0 rfl rfl rfl (by kernel_rfl) ?_ ?_
                  rotate_left
                  · intro p wx hp1 hp2 hb
                    obtain rfl : p = 0 := by omega
                    refine Rgd.from_nil fun T hT => ?_
                    go_wp2
                    refine hT _ _ rfl (by first | exact Rgd.Keep.refl _ | exact below_of_dr hw2 | exact hw2 | exact (Below.refl _ _).alloc (Nat.le_refl _) _) ?_
                    simp only [Rgd.last, List.getElem?_toArray, List.getElem?_cons_succ, List.getElem?_cons_zero, Option.getD_some]
                    rfl
                  refine' Rgd.op_is _ [] 0 0 rfl rfl rfl (by kernel_rfl) ?_ ?_
                  rotate_left
                  · intro p wx hp1 hp2 hb
                    obtain rfl : p = 0 := by omega
                    refine Rgd.from_nil fun T hT => ?_
                    go_wp2
                    refine hT _ _ rfl (by first | exact Rgd.Keep.refl _ | exact below_of_dr hw2 | exact hw2 | exact (Below.refl _ _).alloc (Nat.le_refl _) _) ?_
                    simp only [Rgd.last, List.getElem?_toArray, List.getElem?_cons_succ, List.getElem?_cons_zero, Option.getD_some]
                    rfl
                  refine' Rgd.op_is _ [6, 7] 0 0 rfl rfl rfl (by kernel_rfl) ?_ ?_
                  rotate_left
                  · intro p wx hp1 hp2 hb
                    obtain rfl : p = 0 := by omega
                    refine Rgd.from_is (some 71) rfl rfl ?_
                    refine Rgd.from_is (some 72) rfl rfl ?_
                    refine Rgd.from_nil fun T hT => ?_
                    go_wp2
                    refine hT _ _ rfl (by first | exact Rgd.Keep.refl _ | exact below_of_dr hw2 | exact hw2 | exact (Below.refl _ _).alloc (Nat.le_refl _) _) ?_
                    simp only [Rgd.last, List.getElem?_toArray, List.getElem?_cons_succ, List.getElem?_cons_zero, Option.getD_some]
                    rfl
                  refine' Rgd.op_is _ [8] 0 0 rfl rfl rfl (by kernel_rfl) ?_ ?_
                  rotate_left
                  · intro p wx hp1 hp2 hb
                    obtain rfl : p = 0 := by omega
                    refine Rgd.from_is (some 73) rfl rfl ?_
                    refine Rgd.from_nil fun T hT => ?_
                    go_wp2
                    refine hT _ _ rfl (by first | exact Rgd.Keep.refl _ | exact below_of_dr hw2 | exact hw2 | exact (Below.refl _ _).alloc (Nat.le_refl _) _) ?_
                    simp only [Rgd.last, List.getElem?_toArray, List.getElem?_cons_succ, List.getElem?_cons_zero, Option.getD_some]
                    rfl
                  refine Rgd.op_is (.int .i64 x.at_) [9] 0 0 rfl rfl rfl (by kernel_rfl) ?_ ?_
                  · intro p wx hp1 hp2 hb
                    obtain rfl : p = 0 := by omega
                    refine Rgd.from_is (some 74) rfl rfl ?_
                    refine Rgd.from_nil fun T hT => ?_
                    have q := (HCELL.out wx hb).2.2.2.2
                    go_wp2
                    exact hT _ _ rfl (by first | exact Rgd.Keep.refl _ | exact below_of_dr hw2 | exact hw2 | exact (Below.refl _ _).alloc (Nat.le_refl _) _) (by first | rfl | exact congrArg _ (by decide))
                  refine Rgd.walk_nil [0, 1, 2, 3, 4, 5, 6, 7, 8, 9, 10] (by kernel_rfl) ?_
                  intro wx hb
                  refine Rgd.from_is (some 65) rfl rfl ?_
                  refine Rgd.from_is (some 66) rfl rfl ?_
                  refine Rgd.from_is (some 67) rfl rfl ?_
                  refine Rgd.from_is (some 68) rfl rfl ?_
                  refine Rgd.from_is (some 69) rfl rfl ?_
                  refine Rgd.from_is (some 70) rfl rfl ?_
                  refine Rgd.from_is (some 71) rfl rfl ?_
                  refine Rgd.from_is (some 72) rfl rfl ?_
                  refine Rgd.from_is (some 73) rfl rfl ?_
                  refine Rgd.from_is (some 74) rfl rfl ?_
                  refine Rgd.from_is (some 75) rfl rfl ?_
                  refine Rgd.from_nil ?_
                  simp only [List.map, Act.put, List.setIfInBounds_toArray, List.set_cons_zero, List.set_cons_succ]
                  have hb : Below wr.heap.size wr wx := hb
                  have hDx := hD.below hb
                  have hBx := hB.below hb
                  clear hD hB
                  have HC := hid (crash_any_c g gm v d 164000 x.ksA x.ks x.ksC x.at_ wx hDx HI.out.1 (by omega) (fun wz hT => HKS.out.1.below (hT.past hBx.b hBx.b.size hBx.g hBx.gm hBx.v)) (by have := HKS.out.2; omega) hxa)
                  have HOK := hid (HI.out.1.crash x.ks x.at_)
                  have HCC := hid (show (d.crash x.ks x.at_).C.length ≤ 98303 + (k + 1) by show 0 ≤ _; omega)
                  clear HI
                  go_wp2_with (fail)
                  refine HC.out.mono ?_
                  rintro e w5 ⟨v5, rfl, hD', hTh, hT⟩
                  have hB5 := hBx.step hTh hT
                  have hD5 := hD'
                  clear hDx hBx hTh hT hD' HC
                  go_wp2
                  go_roundw
                  case rel => exact ⟨k + 1, _, _, by go_num, by omega, hD5, hB5, hid ⟨FIN.out _ _ _ _ hD5 HOK.out HCC.out, HCC.out⟩⟩
                  case measure => simp [intOf]; omega
                · have p3 : (x.kd == 3) = false := by simpa using k3
                  by_cases k4 : x.kd = 4
                  · rw [k4] at q0
                    clear p0 p1 p2 p3
                    have HC := hid (start_c g gm v d wr hD)
                    have HOK := hid ((HI.out.1.start : d.start.Ok 164000))
                    have HCC := hid (show d.start.C.length ≤ 98303 + (k + 1) by have := HI.out.2; show d.C.length ≤ _; omega)
                    clear HI
                    go_wp2_with (fail)
                    refine HC.out.mono ?_
                    rintro e w5 ⟨rfl, hD', hT⟩
                    have hTh : Then wr v v := Then.refl
                    have hB5 := hB.step hTh hT
                    have hD5 := hD'
                    clear hD hB hTh hT hD' HC
                    go_wp2
                    go_roundw
                    case rel => exact ⟨k + 1, _, _, by go_num, by omega, hD5, hB5, hid ⟨FIN.out _ _ _ _ hD5 HOK.out HCC.out, HCC.out⟩⟩
                    case measure => simp [intOf]; omega
                  · have p4 : (x.kd == 4) = false := by simpa using k4
                    by_cases k5 : x.kd = 5
                    · rw [k5] at q0
                      clear p0 p1 p2 p3 p4
                      go_wp2_with (fail)
                      refine Rgd.wp_region (l := [_, _, _, _, _, _, _, _, _, _, _]) (tail := [_]) (Rgd.keep wr [] [(0, 0), (0, 0), (0, 0), (0, 0), (0, 0), (0, 0), (0, 0), (0, 0), (0, 0), (0, 0), (0, 0)]) [some 83, some 84, some 85, some 86, some 87, some 88, some 89, some 90, some 91, some 92, some 93, some 94] 169 rfl [[], [], [], [1, 2], [1, 2, 3], [1, 2, 3, 4], [], [], [6, 7], [6, 7, 8], [6, 7, 8, 9]] (by kernel_rfl) (by kernel_rfl) (by kernel_rfl) (by kernel_rfl) (by kernel_rfl) rfl (Rgd.keep_fair) (Rgd.keep_start _) ?_
                      refine' Rgd.op_is _ [] 0 0 rfl rfl rfl (by kernel_rfl) ?_ ?_
                      rotate_left
                      · intro p wx hp1 hp2 hb
                        obtain rfl : p = 0 := by omega
                        refine Rgd.from_nil fun T hT => ?_
                        go_wp2
                        refine hT _ _ rfl (by first | exact Rgd.Keep.refl _ | exact below_of_dr hw2 | exact hw2 | exact (Below.refl _ _).alloc (Nat.le_refl _) _) ?_
                        simp only [Rgd.last, List.getElem?_toArray, List.getElem?_cons_succ, List.getElem?_cons_zero, Option.getD_some]
                        rfl
                      refine' Rgd.op_is _ [] 0 0 rfl rfl rfl (by kernel_rfl) ?_ ?_
                      rotate_left
                      · intro p wx hp1 hp2 hb
                        obtain rfl : p = 0 := by omega
                        refine Rgd.from_nil fun T hT => ?_
                        go_wp2
                        refine hT _ _ rfl (by first | exact Rgd.Keep.refl _ | exact below_of_dr hw2 | exact hw2 | exact (Below.refl _ _).alloc (Nat.le_refl _) _) ?_
                        simp only [Rgd.last, List.getElem?_toArray, List.getElem?_cons_succ, List.getElem?_cons_zero, Option.getD_some]
                        rfl
                      refine' Rgd.op_is _ [] 0 0 rfl rfl rfl (by kernel_rfl) ?_ ?_
                      rotate_left
                      · intro p wx hp1 hp2 hb
                        obtain rfl : p = 0 := by omega
                        refine Rgd.from_nil fun T hT => ?_
                        go_wp2
                        refine hT _ _ rfl (by first | exact Rgd.Keep.refl _ | exact below_of_dr hw2 | exact hw2 | exact (Below.refl _ _).alloc (Nat.le_refl _) _) ?_
                        simp only [Rgd.last, List.getElem?_toArray, List.getElem?_cons_succ, List.getElem?_cons_zero, Option.getD_some]
                        rfl
                      refine' Rgd.op_is _ [1, 2] 0 0 rfl rfl rfl (by kernel_rfl) ?_ ?_
                      rotate_left
                      · intro p wx hp1 hp2 hb
                        obtain rfl : p = 0 := by omega
                        refine Rgd.from_is (some 84) rfl rfl ?_
                        refine Rgd.from_is (some 85) rfl rfl ?_
                        refine Rgd.from_nil fun T hT => ?_
                        go_wp2
                        refine hT _ _ rfl (by first | exact Rgd.Keep.refl _ | exact below_of_dr hw2 | exact hw2 | exact (Below.refl _ _).alloc (Nat.le_refl _) _) ?_
                        simp only [Rgd.last, List.getElem?_toArray, List.getElem?_cons_succ, List.getElem?_cons_zero, Option.getD_some]
                        rfl
                      refine' Rgd.op_is _ [3] 0 0 rfl rfl rfl (by kernel_rfl) ?_ ?_
                      rotate_left
                      · intro p wx hp1 hp2 hb
                        obtain rfl : p = 0 := by omega
                        refine Rgd.from_is (some 86) rfl rfl ?_
                        refine Rgd.from_nil fun T hT => ?_
                        go_wp2
                        refine hT _ _ rfl (by first | exact Rgd.Keep.refl _ | exact below_of_dr hw2 | exact hw2 | exact (Below.refl _ _).alloc (Nat.le_refl _) _) ?_
                        simp only [Rgd.last, List.getElem?_toArray, List.getElem?_cons_succ, List.getElem?_cons_zero, Option.getD_some]
                        rfl
                      refine Rgd.op_is (.int .i64 x.at_) [4] 0 0 rfl rfl rfl (by kernel_rfl) ?_ ?_
                      · intro p wx hp1 hp2 hb
                        obtain rfl : p = 0 := by omega
                        refine Rgd.from_is (some 87) rfl rfl ?_
                        refine Rgd.from_nil fun T hT => ?_
                        have q := (HCELL.out wx hb).2.2.2.2
                        go_wp2
                        exact hT _ _ rfl (by first | exact Rgd.Keep.refl _ | exact below_of_dr hw2 | exact hw2 | exact (Below.refl _ _).alloc (Nat.le_refl _) _) (by first | rfl | exact congrArg _ (by decide))
                      refine' Rgd.op_is _ [] 0 0 rfl rfl rfl (by kernel_rfl) ?_ ?_
                      rotate_left
                      · intro p wx hp1 hp2 hb
                        obtain rfl : p = 0 := by omega
                        refine Rgd.from_nil fun T hT => ?_
                        go_wp2
                        refine hT _ _ rfl (by first | exact Rgd.Keep.refl _ | exact below_of_dr hw2 | exact hw2 | exact (Below.refl _ _).alloc (Nat.le_refl _) _) ?_
                        simp only [Rgd.last, List.getElem?_toArray, List.getElem?_cons_succ, List.getElem?_cons_zero, Option.getD_some]
                        rfl
                      refine' Rgd.op_is _ [] 0 0 rfl rfl rfl (by kernel_rfl) ?_ ?_
                      rotate_left
                      · intro p wx hp1 hp2 hb
                        obtain rfl : p = 0 := by omega
                        refine Rgd.from_nil fun T hT => ?_
                        go_wp2
                        refine hT _ _ rfl (by first | exact Rgd.Keep.refl _ | exact below_of_dr hw2 | exact hw2 | exact (Below.refl _ _).alloc (Nat.le_refl _) _) ?_
                        simp only [Rgd.last, List.getElem?_toArray, List.getElem?_cons_succ, List.getElem?_cons_zero, Option.getD_some]
                        rfl
                      refine' Rgd.op_is _ [6, 7] 0 0 rfl rfl rfl (by kernel_rfl) ?_ ?_
                      rotate_left
                      · intro p wx hp1 hp2 hb
                        obtain rfl : p = 0 := by omega
                        refine Rgd.from_is (some 89) rfl rfl ?_
                        refine Rgd.from_is (some 90) rfl rfl ?_
                        refine Rgd.from_nil fun T hT => ?_
                        go_wp2
                        refine hT _ _ rfl (by first | exact Rgd.Keep.refl _ | exact below_of_dr hw2 | exact hw2 | exact (Below.refl _ _).alloc (Nat.le_refl _) _) ?_
                        simp only [Rgd.last, List.getElem?_toArray, List.getElem?_cons_succ, List.getElem?_cons_zero, Option.getD_some]
                        rfl
                      refine' Rgd.op_is _ [8] 0 0 rfl rfl rfl (by kernel_rfl) ?_ ?_
                      rotate_left
                      · intro p wx hp1 hp2 hb
                        obtain rfl : p = 0 := by omega
                        refine Rgd.from_is (some 91) rfl rfl ?_
                        refine Rgd.from_nil fun T hT => ?_
                        go_wp2
                        refine hT _ _ rfl (by first | exact Rgd.Keep.refl _ | exact below_of_dr hw2 | exact hw2 | exact (Below.refl _ _).alloc (Nat.le_refl _) _) ?_
                        simp only [Rgd.last, List.getElem?_toArray, List.getElem?_cons_succ, List.getElem?_cons_zero, Option.getD_some]
                        rfl
                      refine Rgd.op_is (.string x.s) [9] 0 0 rfl rfl rfl (by kernel_rfl) ?_ ?_
                      · intro p wx hp1 hp2 hb
                        obtain rfl : p = 0 := by omega
                        refine Rgd.from_is (some 92) rfl rfl ?_
                        refine Rgd.from_nil fun T hT => ?_
                        have q := (HCELL.out wx hb).2.1
                        go_wp2
                        exact hT _ _ rfl (by first | exact Rgd.Keep.refl _ | exact below_of_dr hw2 | exact hw2 | exact (Below.refl _ _).alloc (Nat.le_refl _) _) (by first | rfl | exact congrArg _ (by decide))
                      refine Rgd.walk_nil [0, 1, 2, 3, 4, 5, 6, 7, 8, 9, 10] (by kernel_rfl) ?_
                      intro wx hb
                      refine Rgd.from_is (some 83) rfl rfl ?_
                      refine Rgd.from_is (some 84) rfl rfl ?_
                      refine Rgd.from_is (some 85) rfl rfl ?_
                      refine Rgd.from_is (some 86) rfl rfl ?_
                      refine Rgd.from_is (some 87) rfl rfl ?_
                      refine Rgd.from_is (some 88) rfl rfl ?_
                      refine Rgd.from_is (some 89) rfl rfl ?_
                      refine Rgd.from_is (some 90) rfl rfl ?_
                      refine Rgd.from_is (some 91) rfl rfl ?_
                      refine Rgd.from_is (some 92) rfl rfl ?_
                      refine Rgd.from_is (some 93) rfl rfl ?_
                      refine Rgd.from_nil ?_
                      simp only [List.map, Act.put, List.setIfInBounds_toArray, List.set_cons_zero, List.set_cons_succ]
                      have hb : Below wr.heap.size wr wx := hb
                      have hDx := hD.below hb
                      have hBx := hB.below hb
                      clear hD hB
                      have HC := hid (write_c g gm v d 164000 x.at_ x.s wx hDx HI.out.1 (by omega) hxa (by omega))
                      have HOK := hid (HI.out.1.write x.at_ x.s)
                      have HCC := hid (show (d.write x.at_ x.s).C.length ≤ 98303 + (k + 1) by have := HI.out.2; have := write_C d x.at_ x.s; omega)
                      clear HI
                      go_wp2_with (fail)
                      refine HC.out.mono ?_
                      rintro e w5 ⟨v5, rfl, hD', hTh, hT⟩
                      have hB5 := hBx.step hTh hT
                      have hD5 := hD'
                      clear hDx hBx hTh hT hD' HC
                      go_wp2
                      go_roundw
                      case rel => exact ⟨k + 1, _, _, by go_num, by omega, hD5, hB5, hid ⟨FIN.out _ _ _ _ hD5 HOK.out HCC.out, HCC.out⟩⟩
                      case measure => simp [intOf]; omega
                    · have p5 : (x.kd == 5) = false := by simpa using k5
                      clear k0 k1 k2 k3 k4 k5
                      have HC := hid (sync_c g gm v d 164000 wr hD HI.out.1 (by omega))
                      have HOK := hid ((HI.out.1.sync : d.sync.Ok 164000))
                      have HCC := hid (show d.sync.C.length ≤ 98303 + (k + 1) by have := HI.out.2; have := sync_C d; omega)
                      clear HI
                      go_wp2_with (fail)
                      refine HC.out.mono ?_
                      rintro e w5 ⟨v5, rfl, hD', hTh, hT⟩
                      have hB5 := hB.step hTh hT
                      have hD5 := hD'
                      clear hD hB hTh hT hD' HC
                      go_wp2
                      go_roundw
                      case rel => exact ⟨k + 1, _, _, by go_num, by omega, hD5, hB5, hid ⟨FIN.out _ _ _ _ hD5 HOK.out HCC.out, HCC.out⟩⟩
                      case measure => simp [intOf]; omega
        · obtain rfl : k = l.length := by omega
          have HS := hid (start_c g gm v d wr hD)
          have hL : Live d.start := ⟨rfl, fun e => by have e : false = true := e; cases e⟩
          have HOK := hid (HI.out.1.start)
          have hfu : d.start.fu = false := rfl
          have hroom : s.size ≤ roomN := by unfold roomN; omega
          have hCs : d.start.C.length ≤ 98400 := by have := HI.out.2; show d.C.length ≤ _; omega
          clear HI
          go_wp2_with (fail)
          refine HS.out.mono ?_
          rintro e w4 ⟨rfl, hD4, hT4⟩
          have hB4 := hB.step Then.refl hT4
          clear HS hD hB hT4
          generalize d.start = D at *
          have hal := age_le D
          have hal2 : D.age ≤ 1099511627776 := hal
          have HAG := hid (ageD_c g gm v D 164000 w4 hD4 HOK.out (by omega))
          go_wp2_with (fail)
          refine HAG.out.mono ?_
          rintro e w5 ⟨rfl, hb5⟩
          have hD5 := hD4.below hb5
          have hB5 := hB4.below hb5
          clear HAG hD4 hB4 hb5 hal
          cases tw with
          | false =>
            have HC := hid (slw_c g gm v D 164000 s w5 hD5 HOK.out (by omega) hs0)
            by_cases hag : D.age = maxN
            · have e41 : D.slw s = (41, D) := by
                unfold Dk.slw
                rw [hL.de, if_neg (show ¬ roomN < s.size by omega), if_pos hag]; rfl
              rw [e41] at HC
              have hag2 : ((D.age : Int)) = 1099511627776 := by rw [hag]; rfl
              generalize (D.age : Int) = ag at *
              subst hag2
              clear e41 hag
              go_wp2_with (fail)
              refine HC.out.mono ?_
              rintro e w6 ⟨v6, rfl, hD6, hTh, hT⟩
              have hB6 := hB5.step hTh hT
              go_wp2
              go_ret
              exact ⟨rfl, hB6.b⟩
            · obtain ⟨d2, e2, ok2, hh2, hC2, hcl⟩ := gone_once HOK.out hL hfu hroom hag
              have HH := hid hh2
              have HCLN := hid hcl
              rw [e2] at HC
              clear e2 hh2 hcl hL hfu
              go_wp2_with (fail)
              refine HC.out.mono ?_
              rintro e w6 ⟨v6, rfl, hD6, hTh, hT⟩
              have hB6 := hB5.step hTh hT
              clear HC hD5 hB5 hTh hT
              generalize D.age = ag at *
              have HW := hid (fun (wz : World) (hb : Below w6.heap.size w6 wz) => waits_c g gm v6 d2 wz (hD6.below hb))
              have HHC := hid (has_c g gm v6 d2 500000 s ((ag : Int) + 1) w6 hD6 (ok2.mono (by omega)) (by omega))
              rw [HH.out] at HHC
              have HCL := hid (fun (wz : World) (hb : Below w6.heap.size w6 wz) (p : Int) (hp : Pl p) => clean_c g gm v6 d2 500000 p (ag + 1) s wz (hD6.below hb) (ok2.mono (by omega)) (by omega) hp (by omega) (by omega))
              go_wp2_with (fail)
              refine HHC.out.mono ?_
              rintro e w7 ⟨rfl, hb7⟩
              have h0 := HCL.out w7 hb7 0 (.inl rfl)
              rw [show ((ag + 1 : Nat) : Int) = (ag : Int) + 1 by omega] at h0
              have H0 := hid h0
              clear h0 HHC
              go_wp2_with (fail)
              refine H0.out.mono ?_
              rintro e w8 ⟨b, rfl, hb, hb8⟩
              have hb9 := below_next hb7 hb7.size hb8
              clear H0 hb7 hb8
              cases b with
              | true =>
                have HWW := hid (HW.out w8 hb9)
                rw [hC2] at HWW
                go_wp2_with (fail)
                refine HWW.out.mono ?_
                rintro e _ ⟨rfl, rfl⟩
                go_wp2
                go_ret
                exact ⟨rfl, (hB6.below hb9).b⟩
              | false =>
                have hc2 : CleanP d2.P 32768 (ag + 1) s := by
                  rcases HCLN.out with h | h
                  · exact absurd (hb h) (by decide)
                  · exact h
                have h0 := HCL.out w8 hb9 32768 (.inr rfl)
                rw [show ((ag + 1 : Nat) : Int) = (ag : Int) + 1 by omega] at h0
                have H0 := hid h0
                have HC2 := hid hc2
                clear h0 hb hc2
                go_wp2_with (fail)
                refine H0.out.mono ?_
                rintro e wa ⟨b, rfl, hb, hba⟩
                obtain rfl := hb HC2.out
                have hbb := below_next hb9 hb9.size hba
                have HWW := hid (HW.out wa hbb)
                rw [hC2] at HWW
                clear hb hba H0
                go_wp2_with (fail)
                refine HWW.out.mono ?_
                rintro e _ ⟨rfl, rfl⟩
                go_wp2
                go_ret
                exact ⟨rfl, (hB6.below hbb).b⟩
          | true =>
            have HC := hid (twice2_c g gm v D 164000 98400 s w5 hD5 HOK.out (by omega) hCs (by omega) (by omega) hs0)
            by_cases hag : maxN < D.age + 2
            · have e41 := twice_full HOK.out hL hfu hroom hag
              rw [e41] at HC
              have hag2 : 1099511627776 < D.age + 2 := hag
              generalize D.twice s = R at *
              generalize D.age = ag at *
              clear e41 hag
              go_wp2_with (fail)
              refine HC.out.mono ?_
              rintro e w6 ⟨v6, rfl, hD6, hTh, hT⟩
              have hB6 := hB5.step hTh hT
              go_wp2
              go_ret
              exact ⟨by simp; omega, hB6.b⟩
            · obtain ⟨d2, e2, ok2, hh2, hcl⟩ := gone_twice HOK.out hL hfu hroom (by omega)
              have HH := hid hh2
              have HCLN := hid hcl
              rw [e2] at HC
              clear e2 hh2 hcl hL hfu
              go_wp2_with (fail)
              refine HC.out.mono ?_
              rintro e w6 ⟨v6, rfl, hD6, hTh, hT⟩
              have hB6 := hB5.step hTh hT
              have hag2 : D.age + 2 ≤ 1099511627776 := by unfold maxN at hag; omega
              clear HC hD5 hB5 hTh hT hag hal2
              generalize D.age = ag at *
              have ok3 : d2.Ok 1000000 := ok2.mono (by omega)
              have HHC := hid (has_c g gm v6 d2 1000000 s ((ag : Int) + 2) w6 hD6 ok3 (by omega))
              rw [HH.out] at HHC
              have HCL1 := hid (fun (wz : World) (hb : Below w6.heap.size w6 wz) (p : Int) (hp : Pl p) => by
                have h := clean_c g gm v6 d2 1000000 p (ag + 1) s wz (hD6.below hb) ok3 (by omega) hp (by omega) (by omega)
                rw [show ((ag + 1 : Nat) : Int) = (ag : Int) + 1 by omega] at h
                exact h)
              have HCL2 := hid (fun (wz : World) (hb : Below w6.heap.size w6 wz) (p : Int) (hp : Pl p) => by
                have h := clean_c g gm v6 d2 1000000 p (ag + 2) s wz (hD6.below hb) ok3 (by omega) hp (by omega) (by omega)
                rw [show ((ag + 2 : Nat) : Int) = (ag : Int) + 2 by omega] at h
                exact h)
              go_wp2_with (fail)
              refine HHC.out.mono ?_
              rintro e w7 ⟨rfl, hb7⟩
              have H0 := hid (HCL1.out w7 hb7 0 (.inl rfl))
              clear HHC ok2 ok3
              go_wp2_with (fail)
              refine H0.out.mono ?_
              rintro e w8 ⟨b1, rfl, hb1, hb8⟩
              have hb9 := below_next hb7 hb7.size hb8
              clear H0 hb7 hb8
              cases b1 with
              | true =>
                have H0 := hid (HCL2.out w8 hb9 32768 (.inr rfl))
                clear hb1
                go_wp2_with (fail)
                refine H0.out.mono ?_
                rintro e wa ⟨b2, rfl, hb2, hba⟩
                have hbb := below_next hb9 hb9.size hba
                clear H0 hb9 hba
                cases b2 with
                | true =>
                  go_wp2
                  go_ret
                  exact ⟨rfl, (hB6.below hbb).b⟩
                | false =>
                  have hc2 : CleanP d2.P 0 (ag + 2) s ∧ CleanP d2.P 32768 (ag + 1) s := by
                    rcases HCLN.out with h | h
                    · exact absurd (hb2 h.2) (by decide)
                    · exact h
                  have HC2 := hid hc2
                  have H3 := hid (HCL2.out wa hbb 0 (.inl rfl))
                  clear hc2 hb2
                  go_wp2_with (fail)
                  refine H3.out.mono ?_
                  rintro e wc ⟨b3, rfl, hb3, hbc⟩
                  obtain rfl := hb3 HC2.out.1
                  have hbd := below_next hbb hbb.size hbc
                  have H4 := hid (HCL1.out wc hbd 32768 (.inr rfl))
                  clear H3 hb3 hbc
                  go_wp2_with (fail)
                  refine H4.out.mono ?_
                  rintro e we ⟨b4, rfl, hb4, hbe⟩
                  obtain rfl := hb4 HC2.out.2
                  have hbf := below_next hbd hbd.size hbe
                  clear H4 hb4 hbe
                  go_wp2
                  go_ret
                  exact ⟨rfl, (hB6.below hbf).b⟩
              | false =>
                have hc2 : CleanP d2.P 0 (ag + 2) s ∧ CleanP d2.P 32768 (ag + 1) s := by
                  rcases HCLN.out with h | h
                  · exact absurd (hb1 h.1) (by decide)
                  · exact h
                have HC2 := hid hc2
                have H3 := hid (HCL2.out w8 hb9 0 (.inl rfl))
                clear hc2 hb1
                go_wp2_with (fail)
                refine H3.out.mono ?_
                rintro e wc ⟨b3, rfl, hb3, hbc⟩
                obtain rfl := hb3 HC2.out.1
                have hbd := below_next hb9 hb9.size hbc
                have H4 := hid (HCL1.out wc hbd 32768 (.inr rfl))
                clear H3 hb3 hbc
                go_wp2_with (fail)
                refine H4.out.mono ?_
                rintro e we ⟨b4, rfl, hb4, hbe⟩
                obtain rfl := hb4 HC2.out.2
                have hbf := below_next hbd hbd.size hbe
                clear H4 hb4 hbe
                go_wp2
                go_ret
                exact ⟨rfl, (hB6.below hbf).b⟩
set_option maxRecDepth 100000 in
theorem slotsGone_lifted (os : Os) (started : os.Started) (H : Type) (enc : TypeId × Value → H) :
    ReturnsInHanded {} Try.checked os 14 .any (Rows.slotsGoneSpec.pre6 enc Try.prog Try.f14 Rows.slotsGoneRow.domain false) (Rows.slotsGoneSpec.post enc Try.prog Try.f14 false true false false) := by
  haveI : DecidableEq Lit := fun a b => Classical.propDecidable (a = b)
  refine returnsInHanded_of_change_sized (C := Try.checked) Try.own started (by kernel_rfl) Try.func14
    (ChangeSpec.witness6 (enc := enc) (C := Try.checked) false ⟨#[], #[.slice none 0 0, .string ⟨#[]⟩, .bool false], []⟩ 8 (by kernel_rfl) (by kernel_rfl) (by kernel_rfl) (by kernel_rfl)) ?_
  intro W base args ds gs before hval0 hW hcnd hsz0 _
  have hval : ∀ (j : Nat) t v, Try.f14.params[j]? = some t → args[j]? = some v → Value.okWide Try.prog W .any base t v := hval0
  have hW' := hW
  obtain ⟨p, q, hA0, hV, rfl, hfz, hnd⟩ := hW
  have hA : DataW.TrodAll enc Try.prog W 0 (fun _ => true) true Try.f14.params.toList args.toList ds p := hA0
  rw [Try.params14] at hA hval
  obtain ⟨v0, v1, v2, d0, d1, d2, p0, p1, p2, rfl, rfl, rfl, h0, h1, h2⟩ := trodAll_three hA
  obtain ⟨rfl, rfl⟩ := trodVars_none hV
  have hsz : ∀ n ∈ DataW.weightsEach Try.prog [70, 9, 4] [d0, d1, d2], n ≤ reachBytes := fun n hn => by
    have := List.all_eq_true.1 hsz0 n (by rw [Try.params14]; exact hn)
    simpa using this
  obtain ⟨_, k0⟩ := one_ofV Try.underlying70 (hval 0 70 v0 rfl rfl) h0
  obtain ⟨A0, x0, c0, rfl, a0, b0, e0⟩ := slsteps_at k0 (fun n hn => hsz n (DataW.weights_mem_each (j := 0) rfl rfl n hn))
  obtain ⟨x1, rfl, _, _, w1⟩ := Go.ChangeMaps.open_string Try.underlying9 (hval 1 9 v1 rfl rfl) h1
  obtain ⟨x2, rfl, _⟩ := open_bool Try.underlying4 (hval 2 4 v2 rfl rfl) h2
  clear hA0 hval0
  refine (slotsGone_c A0 x0 c0 x1 x2 W a0 b0 e0 (by unfold maxLen at w1; omega) ).mono fun e W' ⟨he, hb⟩ => ?_
  subst he
  exact ⟨_, rfl, post_true hW' hb Try.laidOut (by kernel_rfl) rfl rfl rfl rfl rfl Try.underlying4⟩

theorem slotsGone_holds : Rows.SlotsGoneSaid :=
  OpenClaim.holds_of_wide 14 Try.f14 rfl rfl rfl rfl rfl rfl rfl ⟨rfl, rfl, rfl, rfl, rfl⟩ rfl rfl rfl rfl rfl (by kernel_rfl) Try.func14 (by kernel_rfl)
    (of_decide_eq_true (by kernel_rfl)) (by unfold Func.isWrapper; first | (rw [if_pos (by decide +kernel)]; kernel_rfl) | (rw [if_neg (by decide +kernel)]; exact ⟨rfl, rfl⟩))
    (fun os started H enc _ => slotsGone_lifted os started H enc)
#print axioms slotsGone_holds
end Go.Proofs.Ythllhnjbddpeoaa
