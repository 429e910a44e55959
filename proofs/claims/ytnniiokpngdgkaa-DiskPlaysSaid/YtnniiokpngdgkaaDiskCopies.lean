/-
  PROVED HERE: DiskCopies: what is done to a copy is not seen; nor the other way about; done to both the same comes of both: for every steps ahead, every behind.
-/
import Derived.Test.YtnniiokpngdgkaaDkU
import Derived.Test.YtnniiokpngdgkaaDiskSynced
namespace Go.Proofs.Ytnniiokpngdgkaa
open Go.ChangeShapes Go.WideShapes Go.ChangeAt Go.RowKit Go.Maps Go.Shelf Go.Proofs

theorem OwnI.len {w : World} {base : Nat} {v : Value} {xs : List Int} (h : OwnI w base v xs) : xs.length ≤ 9223372036854775807 := by
  rcases h.2 with ⟨_, h0⟩ | ⟨g, cap, cur, _, _, _, h1, h2, _⟩
  · omega
  · unfold maxLen at h2; omega

set_option maxRecDepth 100000 in
set_option maxHeartbeats 4000000 in
theorem diskCopies_c (A : Option Addr) (l : List St) (c : Nat) (A2 : Option Addr) (l2 : List St) (c2 : Nat) (w : World) (hA : CellsS w A l) (hl : l.length ≤ 9223372036854775807) (ho : ∀ u ∈ l, u.Ok w) (hA2 : CellsS w A2 l2) (hl2 : l2.length ≤ 9223372036854775807) (ho2 : ∀ u ∈ l2, u.Ok w) [DecidableEq Lit] :
    Calls Try.prog 9 #[.slice A l.length c, .slice A2 l2.length c2] w fun e w' => e = .returned (.bool true) ∧ Below w.heap.size w w' := by
  have HO := hid ho
  have HA := hid hA
  have HO2 := hid ho2
  have HA2 := hid hA2
  clear ho hA ho2 hA2
  go_enter Try.func9, Try.ntmps9
  go_wp2_with (fail)
  refine (works_c w).mono ?_
  rintro e w1 ⟨rfl, hb⟩
  go_wp2_with (fail)
  refine (long_c A l c w1 (HA.out.below hb) hl fun u hu => ⟨(HO.out u hu).s, (HO.out u hu).kl⟩).mono ?_
  rintro e w2 ⟨⟨b, rfl, hfew⟩, hd⟩
  replace hb := below_dr hb hd
  cases b with
  | true =>
    clear hfew hd
    go_wp2_with (fail)
    refine (works_c w2).mono ?_
    rintro e w3 ⟨rfl, hb3⟩
    go_wp2
    go_ret
    exact ⟨rfl, below_next hb hb.size hb3⟩
  | false =>
    have hfl := hfew rfl
    clear hfew hd
    go_wp2_with (fail)
    refine (long_c A2 l2 c2 w2 (HA2.out.below hb) hl2 fun u hu => ⟨(HO2.out u hu).s, (HO2.out u hu).kl⟩).mono ?_
    rintro e w3 ⟨⟨b, rfl, hfew⟩, hd⟩
    replace hb := below_dr hb hd
    cases b with
    | true =>
      clear hfew hd
      go_wp2_with (fail)
      refine (works_c w3).mono ?_
      rintro e w4 ⟨rfl, hb4⟩
      go_wp2
      go_ret
      exact ⟨rfl, below_next hb hb.size hb4⟩
    | false =>
      have hfl2 := hfew rfl
      clear hfew hd
      go_wp2_with (fail)
      refine (after_c A l c w3 (HA.out.below hb) hfl fun u hu => Ok.below (HO.out u hu) hb).mono ?_
      rintro e w4 ⟨g, gm, v, rfl, hD, hB⟩
      have HOK := hid (runs_ok (w := w) l HO.out)
      generalize runs l = d at *
      have hM : Many w3 w4 [⟨g, gm, v, d⟩] := Many.of hD hB
      clear hD hB
      go_wp2_with (fail)
      refine (copy_c g gm v d _ w4 (hM.at_ 0 rfl) HOK.out (by omega)).mono ?_
      rintro e w5 ⟨g1, gm1, v1, rfl, hD1, h1, h2, h3, hb5⟩
      replace hM := hM.add hD1 h1 h2 h3 hb5
      clear hD1 h1 h2 h3 hb5
      have hb5 := below_next hb hb.size hM.b
      have HAx := hid (HA.out.below hb5)
      have HA2x := hid (HA2.out.below hb5)
      have hrow0 : (w5.alloc (.cells #[] 35)).ownsRow w5.heap.size 35 5 (.slice (some ⟨w5.heap.size, 0, none⟩) 0 0) 0 [] := ⟨rfl, .inr ⟨_, 0, #[], rfl, Nat.le_refl _, row1_new w5 [] _, Nat.le_refl _, by decide, rfl, rfl⟩⟩
      have hba := below_alloc w5 (.cells #[] 35)
      have hsa : w5.heap.size ≤ (w5.alloc (.cells #[] 35)).heap.size := hba.size
      go_wp2_with (at_builtin; first
        | (refine wpList_append_St (w5.alloc (.cells #[] 35)) rfl _ _ rfl w5.heap.size _ 0 [] rfl hrow0 A l c rfl (HAx.out.below hba) (by omega) hsa ?_; intro v7 w7 hrow7 hg7; have hb7 := hba.grown hg7 hsa fun k e => (World.ownsRow.lt hrow0 k e).1)
        | (refine wpList_append_St w7 rfl _ _ rfl w5.heap.size v7 (0 + l.length) _ rfl hrow7 A2 l2 c2 rfl (HA2x.out.below hb7) (by omega) hb7.size ?_; intro v8 w8 hrow8 hg8; have hb8 := hb7.grown hg8 hb7.size fun k e => (World.ownsRow.lt hrow7 k e).1))
      have hrow9 : w8.ownsRow w5.heap.size 35 5 v8 (l ++ l2).length ((l ++ l2).flatMap scl) := by
        rw [List.length_append, List.flatMap_append]
        simpa using hrow8
      obtain ⟨A8, c8, rfl, hC8⟩ := cellsSt_of hrow9
      replace hM := hM.below hb8
      have hll : (l ++ l2).length ≤ 400 := by rw [List.length_append]; omega
      have HSI := hid (secs_i64 (w := w) (l := l ++ l2) fun u hu => (List.mem_append.1 hu).elim (HO.out u) (HO2.out u))
      clear hrow0 hba hsa hrow7 hg7 hb7 hrow8 hg8 hrow9 HAx HA2x hb8
      generalize hLL : l ++ l2 = ll at *
      clear hLL
      refine (sectors_c A8 ll c8 w8 hC8 (by omega)).mono ?_
      rintro e w9 ⟨v9, rfl, hO9, hb9⟩
      replace hM := hM.below hb9
      obtain ⟨A9, c9, rfl, hC9⟩ := hO9.form
      obtain ⟨b4, o4, rfl, -⟩ := hC9.at_map (l := secs ll) (k := 0) (x := 0) rfl
      have hsl : ((secs ll).map (Value.int .i64)).length = ll.length + 3 := by rw [List.length_map, secs_len]
      rw [hsl] at hO9 ⊢
      have HO9 := hid hO9
      clear hC9 hsl hb9 hC8 hO9
      have HOKD := hid HOK.out
      go_wp2
      go_loopw [8, 9] (fun u i wq => ∃ k : Nat, i = .int .i64 k ∧ k ≤ ll.length + 3 ∧ Own wq w9.heap.size 9 u (((secs ll).take k).map fun a => Value.string (d.read a ++ d.plat a)) ∧ Below w9.heap.size w9 wq) (fun _ i _ => ll.length + 3 - (intOf i).toNat)
      case atStart => exact ⟨0, rfl, by omega, ⟨rfl, .inl ⟨rfl, rfl⟩⟩, Below.refl _ _⟩
      case round =>
        obtain ⟨k, rfl, hk, hU, hbq⟩ := hrel
        by_cases hlt : k < ll.length + 3
        · obtain ⟨y, hy⟩ := get_of_lt (l := secs ll) (k := k) (by rw [secs_len]; omega)
          have hyi := HSI.out y (List.mem_of_getElem? hy)
          have hs : ((secs ll).take k).map (fun a => Value.string (d.read a ++ d.plat a)) ++ [Value.string (d.read y ++ d.plat y)] = ((secs ll).take (k + 1)).map fun a => Value.string (d.read a ++ d.plat a) := by rw [take_snoc hy]; simp
          have hl2 : (((secs ll).take k).map fun a => Value.string (d.read a ++ d.plat a)).length = k := by
            rw [List.length_map, List.length_take, secs_len]; omega
          have HSL := hid (⟨hs, hl2⟩ : _ ∧ _)
          have HQ := hid (fun wx (hbx : Below w9.heap.size w9 wx) => Own.slice_at (HO9.out.keep fun g hg => (hbx.block g (HO9.out.block g hg).2)) (k := k) (v := .int .i64 y) (by rw [List.getElem?_map, hy]; rfl))
          have hrs := read_size HOK.out y
          have hps := plat_size HOK.out y
          have hdl : d.C.length ≤ 1000000 := by have := HOK.out.len; omega
          have HU := hid hU
          clear hs hl2 hy hU
          go_wp2_with (fail)
          refine Rgd.wp_region (l := [_, _, _, _, _, _, _, _, _, _, _, _, _, _, _]) (tail := [_, _]) (Rgd.keep wr [] [(0, 0), (0, 0), (0, 0), (0, 0), (0, 0), (0, 0), (0, 0), (0, 0), (0, 0), (0, 0), (0, 0), (0, 0), (0, 0), (0, 0), (0, 0)]) [some 42, some 43, some 44, some 45, some 46, some 47, some 48, some 49, some 50, some 51, some 52, some 53, some 54, some 55, some 56, some 57, some 8] 165 rfl [[], [], [], [], [2, 3], [2, 3, 4], [1, 2, 3, 4, 5], [], [], [], [8, 9], [8, 9, 10], [1, 2, 3, 4, 5, 6, 7, 8, 9, 10, 11], [1, 2, 3, 4, 5, 6, 7, 8, 9, 10, 11, 12], [1, 2, 3, 4, 5, 6, 7, 8, 9, 10, 11, 12, 13]] (by kernel_rfl) (by kernel_rfl) (by kernel_rfl) (by kernel_rfl) (by kernel_rfl) rfl (Rgd.keep_fair) (Rgd.keep_start _) ?_
          refine' Rgd.op_is _ [] 0 0 rfl rfl rfl (by kernel_rfl) ?_ ?_
          rotate_left
          · intro p wx hp1 hp2 hb
            obtain rfl : p = 0 := by omega
            refine Rgd.from_nil fun T hT => ?_
            go_wp2
            refine hT _ _ rfl (by first | exact Rgd.Keep.refl _ | exact below_of_dr hw2 | exact hw2 | exact (Below.refl _ _).alloc (Nat.le_refl _) _) ?_
            simp only [Rgd.last, List.getElem?_toArray, List.getElem?_cons_succ, List.getElem?_cons_zero, Option.getD_some]
            rfl
          refine' Rgd.op_is _ [] 0 0 rfl rfl rfl (by kernel_rfl) ?_ ?_
          rotate_left
          · intro p wx hp1 hp2 hb
            obtain rfl : p = 0 := by omega
            refine Rgd.from_nil fun T hT => ?_
            go_wp2
            refine hT _ _ rfl (by first | exact Rgd.Keep.refl _ | exact below_of_dr hw2 | exact hw2 | exact (Below.refl _ _).alloc (Nat.le_refl _) _) ?_
            simp only [Rgd.last, List.getElem?_toArray, List.getElem?_cons_succ, List.getElem?_cons_zero, Option.getD_some]
            rfl
          refine' Rgd.op_is _ [] 0 0 rfl rfl rfl (by kernel_rfl) ?_ ?_
          rotate_left
          · intro p wx hp1 hp2 hb
            obtain rfl : p = 0 := by omega
            refine Rgd.from_nil fun T hT => ?_
            go_wp2
            refine hT _ _ rfl (by first | exact Rgd.Keep.refl _ | exact below_of_dr hw2 | exact hw2 | exact (Below.refl _ _).alloc (Nat.le_refl _) _) ?_
            simp only [Rgd.last, List.getElem?_toArray, List.getElem?_cons_succ, List.getElem?_cons_zero, Option.getD_some]
            rfl
          refine' Rgd.op_is _ [] 0 0 rfl rfl rfl (by kernel_rfl) ?_ ?_
          rotate_left
          · intro p wx hp1 hp2 hb
            obtain rfl : p = 0 := by omega
            refine Rgd.from_nil fun T hT => ?_
            go_wp2
            refine hT _ _ rfl (by first | exact Rgd.Keep.refl _ | exact below_of_dr hw2 | exact hw2 | exact (Below.refl _ _).alloc (Nat.le_refl _) _) ?_
            simp only [Rgd.last, List.getElem?_toArray, List.getElem?_cons_succ, List.getElem?_cons_zero, Option.getD_some]
            rfl
          refine' Rgd.op_is _ [2, 3] 0 0 rfl rfl rfl (by kernel_rfl) ?_ ?_
          rotate_left
          · intro p wx hp1 hp2 hb
            obtain rfl : p = 0 := by omega
            refine Rgd.from_is (some 44) rfl rfl ?_
            refine Rgd.from_is (some 45) rfl rfl ?_
            refine Rgd.from_nil fun T hT => ?_
            go_wp2
            refine hT _ _ rfl (by first | exact Rgd.Keep.refl _ | exact below_of_dr hw2 | exact hw2 | exact (Below.refl _ _).alloc (Nat.le_refl _) _) ?_
            simp only [Rgd.last, List.getElem?_toArray, List.getElem?_cons_succ, List.getElem?_cons_zero, Option.getD_some]
            rfl
          refine Rgd.op_is (.int .i64 y) [4] 0 0 rfl rfl rfl (by kernel_rfl) ?_ ?_
          · intro p wx hp1 hp2 hb
            obtain rfl : p = 0 := by omega
            refine Rgd.from_is (some 46) rfl rfl ?_
            refine Rgd.from_nil fun T hT => ?_
            have q5 := HQ.out wx (below_next hbq hbq.size hb)
            go_wp2
            exact hT _ _ rfl (by first | exact Rgd.Keep.refl _ | exact below_of_dr hw2 | exact hw2 | exact (Below.refl _ _).alloc (Nat.le_refl _) _) (by first | rfl | exact congrArg _ (by decide))
          refine Rgd.op_is (.string (d.read y)) [1, 5] 0 0 rfl rfl rfl (by kernel_rfl) ?_ ?_
          · intro p wx hp1 hp2 hb
            obtain rfl : p = 0 := by omega
            refine Rgd.from_is (some 43) rfl rfl ?_
            refine Rgd.from_is (some 47) rfl rfl ?_
            refine Rgd.from_nil fun T hT => ?_
            go_wp2_with (fail)
            refine (read_c g gm v d y _ ((hM.at_ 1 rfl).below (below_next hbq hbq.size hb)) hyi hdl).mono ?_
            rintro e wy ⟨rfl, hk⟩
            go_wp2
            exact hT _ _ rfl hk rfl
          refine' Rgd.op_is _ [] 0 0 rfl rfl rfl (by kernel_rfl) ?_ ?_
          rotate_left
          · intro p wx hp1 hp2 hb
            obtain rfl : p = 0 := by omega
            refine Rgd.from_nil fun T hT => ?_
            go_wp2
            refine hT _ _ rfl (by first | exact Rgd.Keep.refl _ | exact below_of_dr hw2 | exact hw2 | exact (Below.refl _ _).alloc (Nat.le_refl _) _) ?_
            simp only [Rgd.last, List.getElem?_toArray, List.getElem?_cons_succ, List.getElem?_cons_zero, Option.getD_some]
            rfl
          refine' Rgd.op_is _ [] 0 0 rfl rfl rfl (by kernel_rfl) ?_ ?_
          rotate_left
          · intro p wx hp1 hp2 hb
            obtain rfl : p = 0 := by omega
            refine Rgd.from_nil fun T hT => ?_
            go_wp2
            refine hT _ _ rfl (by first | exact Rgd.Keep.refl _ | exact below_of_dr hw2 | exact hw2 | exact (Below.refl _ _).alloc (Nat.le_refl _) _) ?_
            simp only [Rgd.last, List.getElem?_toArray, List.getElem?_cons_succ, List.getElem?_cons_zero, Option.getD_some]
            rfl
          refine' Rgd.op_is _ [] 0 0 rfl rfl rfl (by kernel_rfl) ?_ ?_
          rotate_left
          · intro p wx hp1 hp2 hb
            obtain rfl : p = 0 := by omega
            refine Rgd.from_nil fun T hT => ?_
            go_wp2
            refine hT _ _ rfl (by first | exact Rgd.Keep.refl _ | exact below_of_dr hw2 | exact hw2 | exact (Below.refl _ _).alloc (Nat.le_refl _) _) ?_
            simp only [Rgd.last, List.getElem?_toArray, List.getElem?_cons_succ, List.getElem?_cons_zero, Option.getD_some]
            rfl
          refine' Rgd.op_is _ [8, 9] 0 0 rfl rfl rfl (by kernel_rfl) ?_ ?_
          rotate_left
          · intro p wx hp1 hp2 hb
            obtain rfl : p = 0 := by omega
            refine Rgd.from_is (some 50) rfl rfl ?_
            refine Rgd.from_is (some 51) rfl rfl ?_
            refine Rgd.from_nil fun T hT => ?_
            go_wp2
            refine hT _ _ rfl (by first | exact Rgd.Keep.refl _ | exact below_of_dr hw2 | exact hw2 | exact (Below.refl _ _).alloc (Nat.le_refl _) _) ?_
            simp only [Rgd.last, List.getElem?_toArray, List.getElem?_cons_succ, List.getElem?_cons_zero, Option.getD_some]
            rfl
          refine Rgd.op_is (.int .i64 y) [10] 0 0 rfl rfl rfl (by kernel_rfl) ?_ ?_
          · intro p wx hp1 hp2 hb
            obtain rfl : p = 0 := by omega
            refine Rgd.from_is (some 52) rfl rfl ?_
            refine Rgd.from_nil fun T hT => ?_
            have q5 := HQ.out wx (below_next hbq hbq.size hb)
            go_wp2
            exact hT _ _ rfl (by first | exact Rgd.Keep.refl _ | exact below_of_dr hw2 | exact hw2 | exact (Below.refl _ _).alloc (Nat.le_refl _) _) (by first | rfl | exact congrArg _ (by decide))
          refine Rgd.op_is (.string (d.plat y)) [7, 11] 0 0 rfl rfl rfl (by kernel_rfl) ?_ ?_
          · intro p wx hp1 hp2 hb
            obtain rfl : p = 0 := by omega
            refine Rgd.from_is (some 49) rfl rfl ?_
            refine Rgd.from_is (some 53) rfl rfl ?_
            refine Rgd.from_nil fun T hT => ?_
            go_wp2_with (fail)
            refine (platter_c g gm v d y _ ((hM.at_ 1 rfl).below (below_next hbq hbq.size hb)) hyi).mono ?_
            rintro e wy ⟨rfl, hk⟩
            go_wp2
            exact hT _ _ rfl hk rfl
          refine Rgd.op_is (.string (d.read y ++ d.plat y)) [6, 12] 0 0 rfl rfl rfl (by kernel_rfl) ?_ ?_
          · intro p wx hp1 hp2 hb
            obtain rfl : p = 0 := by omega
            refine Rgd.from_is (some 48) rfl rfl ?_
            refine Rgd.from_is (some 54) rfl rfl ?_
            refine Rgd.from_nil fun T hT => ?_
            go_wp2
            exact hT _ _ rfl (by first | exact Rgd.Keep.refl _ | exact below_of_dr hw2 | exact hw2 | exact (Below.refl _ _).alloc (Nat.le_refl _) _) (by first | rfl | exact congrArg _ (by decide))
          refine Rgd.op_of (fun _ w u => ∃ b, u = .slice (some ⟨b, 0, none⟩) 1 1 ∧ Row1 w b 9 [.string (d.read y ++ d.plat y)]) [13] 0 0 rfl rfl ?_ ?_ rfl (by kernel_rfl) ?_ ?_
          · exact fun p w1 w2 v _ hk ⟨b, h1, h2⟩ => ⟨b, h1, h2.below hk⟩
          · exact fun p w1 w2 v h0 h1 => by simp [Rgd.keep] at h1
          · intro p wx hp1 hp2 hb
            obtain rfl : p = 0 := by omega
            refine Rgd.from_is (some 55) rfl rfl ?_
            refine Rgd.from_nil fun T hT => ?_
            go_wp2
            exact hT _ _ rfl (below_alloc _ _) ⟨_, rfl, row1_new _ [.string (d.read y ++ d.plat y)] _⟩
          refine Rgd.walk_nil [0, 1, 2, 3, 4, 5, 6, 7, 8, 9, 10, 11, 12, 13, 14] (by kernel_rfl) ?_
          intro wx hb
          refine Rgd.from_is (some 42) rfl rfl ?_
          refine Rgd.from_is (some 43) rfl rfl ?_
          refine Rgd.from_is (some 44) rfl rfl ?_
          refine Rgd.from_is (some 45) rfl rfl ?_
          refine Rgd.from_is (some 46) rfl rfl ?_
          refine Rgd.from_is (some 47) rfl rfl ?_
          refine Rgd.from_is (some 48) rfl rfl ?_
          refine Rgd.from_is (some 49) rfl rfl ?_
          refine Rgd.from_is (some 50) rfl rfl ?_
          refine Rgd.from_is (some 51) rfl rfl ?_
          refine Rgd.from_is (some 52) rfl rfl ?_
          refine Rgd.from_is (some 53) rfl rfl ?_
          refine Rgd.from_is (some 54) rfl rfl ?_
          refine Rgd.from_is (some 55) rfl rfl ?_
          refine Rgd.from_of (some 56) rfl rfl fun v56 h56 => ?_
          refine Rgd.from_nil ?_
          simp only [List.map, Act.put, List.setIfInBounds_toArray, List.set_cons_zero, List.set_cons_succ]
          obtain ⟨b, rfl, hrow⟩ := h56
          have hbx := below_next hbq hbq.size hb
          have hUx := HU.out.keep (w' := wx) fun g hg => hb.block g (HU.out.block g hg).2
          obtain ⟨i0, hi, hz0, hz1, hz2⟩ := elt_str.info
          refine wpList_append_own_at _ rfl _ _ 50 rfl w9.heap.size 9 i0 (.string ⟨#[]⟩) 1 16 elt_str.under hi hz0 hz1 hz2 rfl (by decide) _ _ _ rfl hUx ⟨b, 0, none⟩ 1 1 [.string (d.read y ++ d.plat y)] rfl rfl hrow.news (fun q hq => by simp at hq; subst hq; rfl) (by rw [HSL.out.2]; unfold maxLen; omega) (by rw [HSL.out.2]; omega) hbx.size ?_
          intro v' w' hown' hg' _ _
          have hb' := hbx.grown hg' hbx.size fun k e => (World.ownsRow.lt hUx k e).1
          rw [HSL.out.1] at hown'
          have hlen : (((secs ll).take (k + 1)).map fun a => Value.string (d.read a ++ d.plat a)).length = k + 1 := by
            rw [List.length_map, List.length_take, secs_len]; omega
          rw [HSL.out.2] at hown'
          have hU' : Own w' w9.heap.size 9 v' (((secs ll).take (k + 1)).map fun a => Value.string (d.read a ++ d.plat a)) := by
            unfold Own
            rw [hlen]
            exact hown'
          clear hown' hg' hUx hlen
          go_wp2
          go_roundw
          case rel => exact ⟨k + 1, by go_num, by omega, hU', hb'⟩
          case measure => simp [intOf]; omega
        · obtain rfl : k = ll.length + 3 := by omega
          rw [List.take_of_length_le (by rw [secs_len]; omega)] at hU
          have hO := HO9.out.keep fun g hg => (hbq.block g (HO9.out.block g hg).2)
          obtain ⟨A6, c6, rfl, hC6⟩ := hU.form
          obtain ⟨b6, o6, rfl, -⟩ := hC6.at_map (l := secs ll) (k := 0) (x := 0) rfl
          have hsl : ((secs ll).map fun a => Value.string (d.read a ++ d.plat a)).length = ll.length + 3 := by rw [List.length_map, secs_len]
          rw [hsl] at hU ⊢
          replace hM := hM.below hbq
          clear hC6 hsl hbq HO9
          go_wp2_with (fail)
          refine (waits_c g gm v d wr (hM.at_ 1 rfl)).mono ?_
          rintro e _ ⟨rfl, rfl⟩
          go_wp2
          go_loopw [11] (fun i wq => ∃ (k : Nat) (v1 : Value), i = .int .i64 k ∧ k ≤ l2.length ∧ Many w3 wq [⟨g1, gm1, v1, runsF d (l2.take k)⟩, ⟨g, gm, v, d⟩] ∧ Own wq w8.heap.size 3 (.slice (some ⟨b4, o4, none⟩) (ll.length + 3) c9) ((secs ll).map (Value.int .i64)) ∧ Own wq w9.heap.size 9 (.slice (some ⟨b6, o6, none⟩) (ll.length + 3) c6) ((secs ll).map fun a => Value.string (d.read a ++ d.plat a))) (fun i _ => l2.length - (intOf i).toNat)
          case atStart => exact ⟨0, v1, rfl, by omega, hM, hO, hU⟩
          case round =>
            obtain ⟨k, v1, rfl, hk, hMr, hOr, hUr⟩ := hrel
            clear hM hO hU
            by_cases hlt : k < l2.length
            · obtain ⟨x, hx⟩ := get_of_lt hlt
              have hxo := HO2.out x (List.mem_of_getElem? hx)
              obtain ⟨b, off, rfl, d0, d1, d2, d3, d4⟩ := cellsS5 HA2.out (below_next hb hb.size hMr.b) hx
              have hkl : (l2.take k).length ≤ 200 := by have := List.length_take_le' k l2; omega
              have HS := hid (show runsF d (l2.take (k + 1)) = (runsF d (l2.take k)).step x by rw [take_snoc hx, runsF_snoc])
              have HC := hid (do_c w3 g1 gm1 v1 _ _ x _ (hMr.at_ 0 rfl) (runsF_ok (w := w) (l2.take k) HOK.out fun u hu => HO2.out u (List.mem_of_mem_take hu)) (by omega) (hMr.base_ 0 rfl) (Ok.below hxo hb))
              clear hx hkl hxo
              go_wp2_with (fail)
              refine HC.out.mono ?_
              rintro e w6 ⟨v', rfl, hD6, hTh, hT⟩
              have hO' := hOr.tch (hMr.at_ 0 rfl) hT (by decide) (by decide)
              have hU' := hUr.tch (hMr.at_ 0 rfl) hT (by decide) (by decide)
              have hM' := hMr.set 0 rfl hD6 hTh hT
              clear HC hD6 hTh hT hMr hOr hUr
              go_wp2
              go_roundw
              case rel => exact ⟨k + 1, v', by go_num, by omega, by rw [HS.out]; exact hM', hO', hU'⟩
              case measure => simp [intOf]; omega
            · obtain rfl : k = l2.length := by omega
              rw [List.take_length] at hMr
              have HOE := hid hOr
              have HUE := hid hUr
              clear hOr hUr
              generalize hwE : wr = wE at *
              clear hwE
              go_wp2
              go_loopw [12] (fun i wq => ∃ k : Nat, i = .int .i64 k ∧ k ≤ ll.length + 3 ∧ Below wE.heap.size wE wq) (fun i _ => ll.length + 3 - (intOf i).toNat)
              case atStart => exact ⟨0, rfl, by omega, Below.refl _ _⟩
              case round =>
                obtain ⟨k, rfl, hk, hbq⟩ := hrel
                by_cases hlt : k < ll.length + 3
                · obtain ⟨y, hy⟩ := get_of_lt (l := secs ll) (k := k) (by rw [secs_len]; omega)
                  have hyi := HSI.out y (List.mem_of_getElem? hy)
                  have HQ := hid (fun wx (hbx : Below wE.heap.size wE wx) => (⟨Own.slice_at (HOE.out.keep fun g hg => (hbx.block g (HOE.out.block g hg).2)) (k := k) (v := .int .i64 y) (by rw [List.getElem?_map, hy]; rfl), Own.slice_at (HUE.out.keep fun g hg => (hbx.block g (HUE.out.block g hg).2)) (k := k) (v := .string (d.read y ++ d.plat y)) (by rw [List.getElem?_map, hy]; rfl)⟩ : _ ∧ _))
                  have hrs := read_size HOK.out y
                  have hps := plat_size HOK.out y
                  have hdl : d.C.length ≤ 1000000 := by have := HOK.out.len; omega
                  clear hy
                  go_wp2_with (fail)
                  refine Rgd.wp_region (l := [_, _, _, _, _, _, _, _, _, _, _, _, _, _, _, _, _]) (tail := [_]) (Rgd.keep wr [] [(0, 0), (0, 0), (0, 0), (0, 0), (0, 0), (0, 0), (0, 0), (0, 0), (0, 0), (0, 0), (0, 0), (0, 0), (0, 0), (0, 0), (0, 0), (0, 0), (0, 0)]) [some 78, some 79, some 80, some 81, some 82, some 83, some 84, some 85, some 86, some 87, some 88, some 89, some 90, some 91, some 92, some 93, some 94, some 95] 165 rfl [[], [], [], [1, 2], [1, 2, 3], [0, 1, 2, 3, 4], [], [], [], [7, 8], [7, 8, 9], [0, 1, 2, 3, 4, 5, 6, 7, 8, 9, 10], [0, 1, 2, 3, 4, 5, 6, 7, 8, 9, 10, 11], [], [], [13, 14], [13, 14, 15]] (by kernel_rfl) (by kernel_rfl) (by kernel_rfl) (by kernel_rfl) (by kernel_rfl) rfl (Rgd.keep_fair) (Rgd.keep_start _) ?_
                  refine' Rgd.op_is _ [] 0 0 rfl rfl rfl (by kernel_rfl) ?_ ?_
                  rotate_left
                  · intro p wx hp1 hp2 hb
                    obtain rfl : p = 0 := by omega
                    refine Rgd.from_nil fun T hT => ?_
                    go_wp2
                    refine hT _ _ rfl (by first | exact Rgd.Keep.refl _ | exact below_of_dr hw2 | exact hw2 | exact (Below.refl _ _).alloc (Nat.le_refl _) _) ?_
                    simp only [Rgd.last, List.getElem?_toArray, List.getElem?_cons_succ, List.getElem?_cons_zero, Option.getD_some]
                    rfl
                  refine' Rgd.op_is _ [] 0 0 rfl rfl rfl (by kernel_rfl) ?_ ?_
                  rotate_left
                  · intro p wx hp1 hp2 hb
                    obtain rfl : p = 0 := by omega
                    refine Rgd.from_nil fun T hT => ?_
                    go_wp2
                    refine hT _ _ rfl (by first | exact Rgd.Keep.refl _ | exact below_of_dr hw2 | exact hw2 | exact (Below.refl _ _).alloc (Nat.le_refl _) _) ?_
                    simp only [Rgd.last, List.getElem?_toArray, List.getElem?_cons_succ, List.getElem?_cons_zero, Option.getD_some]
                    rfl
                  refine' Rgd.op_is _ [] 0 0 rfl rfl rfl (by kernel_rfl) ?_ ?_
                  rotate_left
                  · intro p wx hp1 hp2 hb
                    obtain rfl : p = 0 := by omega
                    refine Rgd.from_nil fun T hT => ?_
                    go_wp2
                    refine hT _ _ rfl (by first | exact Rgd.Keep.refl _ | exact below_of_dr hw2 | exact hw2 | exact (Below.refl _ _).alloc (Nat.le_refl _) _) ?_
                    simp only [Rgd.last, List.getElem?_toArray, List.getElem?_cons_succ, List.getElem?_cons_zero, Option.getD_some]
                    rfl
                  refine' Rgd.op_is _ [1, 2] 0 0 rfl rfl rfl (by kernel_rfl) ?_ ?_
                  rotate_left
                  · intro p wx hp1 hp2 hb
                    obtain rfl : p = 0 := by omega
                    refine Rgd.from_is (some 79) rfl rfl ?_
                    refine Rgd.from_is (some 80) rfl rfl ?_
                    refine Rgd.from_nil fun T hT => ?_
                    go_wp2
                    refine hT _ _ rfl (by first | exact Rgd.Keep.refl _ | exact below_of_dr hw2 | exact hw2 | exact (Below.refl _ _).alloc (Nat.le_refl _) _) ?_
                    simp only [Rgd.last, List.getElem?_toArray, List.getElem?_cons_succ, List.getElem?_cons_zero, Option.getD_some]
                    rfl
                  refine Rgd.op_is (.int .i64 y) [3] 0 0 rfl rfl rfl (by kernel_rfl) ?_ ?_
                  · intro p wx hp1 hp2 hb
                    obtain rfl : p = 0 := by omega
                    refine Rgd.from_is (some 81) rfl rfl ?_
                    refine Rgd.from_nil fun T hT => ?_
                    have q5 := (HQ.out wx (below_next hbq hbq.size hb)).1
                    go_wp2
                    exact hT _ _ rfl (by first | exact Rgd.Keep.refl _ | exact below_of_dr hw2 | exact hw2 | exact (Below.refl _ _).alloc (Nat.le_refl _) _) (by first | rfl | exact congrArg _ (by decide))
                  refine Rgd.op_is (.string (d.read y)) [0, 4] 0 0 rfl rfl rfl (by kernel_rfl) ?_ ?_
                  · intro p wx hp1 hp2 hb
                    obtain rfl : p = 0 := by omega
                    refine Rgd.from_is (some 78) rfl rfl ?_
                    refine Rgd.from_is (some 82) rfl rfl ?_
                    refine Rgd.from_nil fun T hT => ?_
                    go_wp2_with (fail)
                    refine (read_c g gm v d y _ ((hMr.at_ 1 rfl).below (below_next hbq hbq.size hb)) hyi hdl).mono ?_
                    rintro e wy ⟨rfl, hk⟩
                    go_wp2
                    exact hT _ _ rfl hk rfl
                  refine' Rgd.op_is _ [] 0 0 rfl rfl rfl (by kernel_rfl) ?_ ?_
                  rotate_left
                  · intro p wx hp1 hp2 hb
                    obtain rfl : p = 0 := by omega
                    refine Rgd.from_nil fun T hT => ?_
                    go_wp2
                    refine hT _ _ rfl (by first | exact Rgd.Keep.refl _ | exact below_of_dr hw2 | exact hw2 | exact (Below.refl _ _).alloc (Nat.le_refl _) _) ?_
                    simp only [Rgd.last, List.getElem?_toArray, List.getElem?_cons_succ, List.getElem?_cons_zero, Option.getD_some]
                    rfl
                  refine' Rgd.op_is _ [] 0 0 rfl rfl rfl (by kernel_rfl) ?_ ?_
                  rotate_left
                  · intro p wx hp1 hp2 hb
                    obtain rfl : p = 0 := by omega
                    refine Rgd.from_nil fun T hT => ?_
                    go_wp2
                    refine hT _ _ rfl (by first | exact Rgd.Keep.refl _ | exact below_of_dr hw2 | exact hw2 | exact (Below.refl _ _).alloc (Nat.le_refl _) _) ?_
                    simp only [Rgd.last, List.getElem?_toArray, List.getElem?_cons_succ, List.getElem?_cons_zero, Option.getD_some]
                    rfl
                  refine' Rgd.op_is _ [] 0 0 rfl rfl rfl (by kernel_rfl) ?_ ?_
                  rotate_left
                  · intro p wx hp1 hp2 hb
                    obtain rfl : p = 0 := by omega
                    refine Rgd.from_nil fun T hT => ?_
                    go_wp2
                    refine hT _ _ rfl (by first | exact Rgd.Keep.refl _ | exact below_of_dr hw2 | exact hw2 | exact (Below.refl _ _).alloc (Nat.le_refl _) _) ?_
                    simp only [Rgd.last, List.getElem?_toArray, List.getElem?_cons_succ, List.getElem?_cons_zero, Option.getD_some]
                    rfl
                  refine' Rgd.op_is _ [7, 8] 0 0 rfl rfl rfl (by kernel_rfl) ?_ ?_
                  rotate_left
                  · intro p wx hp1 hp2 hb
                    obtain rfl : p = 0 := by omega
                    refine Rgd.from_is (some 85) rfl rfl ?_
                    refine Rgd.from_is (some 86) rfl rfl ?_
                    refine Rgd.from_nil fun T hT => ?_
                    go_wp2
                    refine hT _ _ rfl (by first | exact Rgd.Keep.refl _ | exact below_of_dr hw2 | exact hw2 | exact (Below.refl _ _).alloc (Nat.le_refl _) _) ?_
                    simp only [Rgd.last, List.getElem?_toArray, List.getElem?_cons_succ, List.getElem?_cons_zero, Option.getD_some]
                    rfl
                  refine Rgd.op_is (.int .i64 y) [9] 0 0 rfl rfl rfl (by kernel_rfl) ?_ ?_
                  · intro p wx hp1 hp2 hb
                    obtain rfl : p = 0 := by omega
                    refine Rgd.from_is (some 87) rfl rfl ?_
                    refine Rgd.from_nil fun T hT => ?_
                    have q5 := (HQ.out wx (below_next hbq hbq.size hb)).1
                    go_wp2
                    exact hT _ _ rfl (by first | exact Rgd.Keep.refl _ | exact below_of_dr hw2 | exact hw2 | exact (Below.refl _ _).alloc (Nat.le_refl _) _) (by first | rfl | exact congrArg _ (by decide))
                  refine Rgd.op_is (.string (d.plat y)) [6, 10] 0 0 rfl rfl rfl (by kernel_rfl) ?_ ?_
                  · intro p wx hp1 hp2 hb
                    obtain rfl : p = 0 := by omega
                    refine Rgd.from_is (some 84) rfl rfl ?_
                    refine Rgd.from_is (some 88) rfl rfl ?_
                    refine Rgd.from_nil fun T hT => ?_
                    go_wp2_with (fail)
                    refine (platter_c g gm v d y _ ((hMr.at_ 1 rfl).below (below_next hbq hbq.size hb)) hyi).mono ?_
                    rintro e wy ⟨rfl, hk⟩
                    go_wp2
                    exact hT _ _ rfl hk rfl
                  refine Rgd.op_is (.string (d.read y ++ d.plat y)) [5, 11] 0 0 rfl rfl rfl (by kernel_rfl) ?_ ?_
                  · intro p wx hp1 hp2 hb
                    obtain rfl : p = 0 := by omega
                    refine Rgd.from_is (some 83) rfl rfl ?_
                    refine Rgd.from_is (some 89) rfl rfl ?_
                    refine Rgd.from_nil fun T hT => ?_
                    go_wp2
                    exact hT _ _ rfl (by first | exact Rgd.Keep.refl _ | exact below_of_dr hw2 | exact hw2 | exact (Below.refl _ _).alloc (Nat.le_refl _) _) (by first | rfl | exact congrArg _ (by decide))
                  refine' Rgd.op_is _ [] 0 0 rfl rfl rfl (by kernel_rfl) ?_ ?_
                  rotate_left
                  · intro p wx hp1 hp2 hb
                    obtain rfl : p = 0 := by omega
                    refine Rgd.from_nil fun T hT => ?_
                    go_wp2
                    refine hT _ _ rfl (by first | exact Rgd.Keep.refl _ | exact below_of_dr hw2 | exact hw2 | exact (Below.refl _ _).alloc (Nat.le_refl _) _) ?_
                    simp only [Rgd.last, List.getElem?_toArray, List.getElem?_cons_succ, List.getElem?_cons_zero, Option.getD_some]
                    rfl
                  refine' Rgd.op_is _ [] 0 0 rfl rfl rfl (by kernel_rfl) ?_ ?_
                  rotate_left
                  · intro p wx hp1 hp2 hb
                    obtain rfl : p = 0 := by omega
                    refine Rgd.from_nil fun T hT => ?_
                    go_wp2
                    refine hT _ _ rfl (by first | exact Rgd.Keep.refl _ | exact below_of_dr hw2 | exact hw2 | exact (Below.refl _ _).alloc (Nat.le_refl _) _) ?_
                    simp only [Rgd.last, List.getElem?_toArray, List.getElem?_cons_succ, List.getElem?_cons_zero, Option.getD_some]
                    rfl
                  refine' Rgd.op_is _ [13, 14] 0 0 rfl rfl rfl (by kernel_rfl) ?_ ?_
                  rotate_left
                  · intro p wx hp1 hp2 hb
                    obtain rfl : p = 0 := by omega
                    refine Rgd.from_is (some 91) rfl rfl ?_
                    refine Rgd.from_is (some 92) rfl rfl ?_
                    refine Rgd.from_nil fun T hT => ?_
                    go_wp2
                    refine hT _ _ rfl (by first | exact Rgd.Keep.refl _ | exact below_of_dr hw2 | exact hw2 | exact (Below.refl _ _).alloc (Nat.le_refl _) _) ?_
                    simp only [Rgd.last, List.getElem?_toArray, List.getElem?_cons_succ, List.getElem?_cons_zero, Option.getD_some]
                    rfl
                  refine Rgd.op_is (.string (d.read y ++ d.plat y)) [15] 0 0 rfl rfl rfl (by kernel_rfl) ?_ ?_
                  · intro p wx hp1 hp2 hb
                    obtain rfl : p = 0 := by omega
                    refine Rgd.from_is (some 93) rfl rfl ?_
                    refine Rgd.from_nil fun T hT => ?_
                    have q6 := (HQ.out wx (below_next hbq hbq.size hb)).2
                    go_wp2
                    exact hT _ _ rfl (by first | exact Rgd.Keep.refl _ | exact below_of_dr hw2 | exact hw2 | exact (Below.refl _ _).alloc (Nat.le_refl _) _) (by first | rfl | exact congrArg _ (by decide))
                  refine Rgd.walk_nil [0, 1, 2, 3, 4, 5, 6, 7, 8, 9, 10, 11, 12, 13, 14, 15, 16] (by kernel_rfl) ?_
                  intro wx hb
                  refine Rgd.from_is (some 78) rfl rfl ?_
                  refine Rgd.from_is (some 79) rfl rfl ?_
                  refine Rgd.from_is (some 80) rfl rfl ?_
                  refine Rgd.from_is (some 81) rfl rfl ?_
                  refine Rgd.from_is (some 82) rfl rfl ?_
                  refine Rgd.from_is (some 83) rfl rfl ?_
                  refine Rgd.from_is (some 84) rfl rfl ?_
                  refine Rgd.from_is (some 85) rfl rfl ?_
                  refine Rgd.from_is (some 86) rfl rfl ?_
                  refine Rgd.from_is (some 87) rfl rfl ?_
                  refine Rgd.from_is (some 88) rfl rfl ?_
                  refine Rgd.from_is (some 89) rfl rfl ?_
                  refine Rgd.from_is (some 90) rfl rfl ?_
                  refine Rgd.from_is (some 91) rfl rfl ?_
                  refine Rgd.from_is (some 92) rfl rfl ?_
                  refine Rgd.from_is (some 93) rfl rfl ?_
                  refine Rgd.from_is (some 94) rfl rfl ?_
                  refine Rgd.from_nil ?_
                  simp only [List.map, Act.put, List.setIfInBounds_toArray, List.set_cons_zero, List.set_cons_succ]
                  have hbq2 := below_next hbq hbq.size hb
                  go_wp2
                  go_roundw
                  case rel => exact ⟨k + 1, by go_num, by omega, hbq2⟩
                  case measure => simp [intOf]; omega
                · have hM := hMr.below hbq
                  have hO := HOE.out.keep fun g hg => (hbq.block g (HOE.out.block g hg).2)
                  clear hMr hbq HOE HUE
                  go_wp2_with (fail)
                  refine (waits_c g gm v d wr (hM.at_ 1 rfl)).mono ?_
                  rintro e _ ⟨rfl, rfl⟩
                  go_wp2
                  generalize hD1 : runsF d l2 = D at *
                  go_loopw [13] (fun i wq => ∃ (k : Nat) (v : Value), i = .int .i64 k ∧ k ≤ l2.length ∧ Many w3 wq [⟨g1, gm1, v1, D⟩, ⟨g, gm, v, runsF d (l2.take k)⟩] ∧ Own wq w8.heap.size 3 (.slice (some ⟨b4, o4, none⟩) (ll.length + 3) c9) ((secs ll).map (Value.int .i64))) (fun i _ => l2.length - (intOf i).toNat)
                  case atStart => exact ⟨0, v, rfl, by omega, hM, hO⟩
                  case round =>
                    obtain ⟨k, v, rfl, hk, hMr, hOr⟩ := hrel
                    clear hM hO
                    by_cases hlt : k < l2.length
                    · obtain ⟨x, hx⟩ := get_of_lt hlt
                      have hxo := HO2.out x (List.mem_of_getElem? hx)
                      obtain ⟨b, off, rfl, d0, d1, d2, d3, d4⟩ := cellsS5 HA2.out (below_next hb hb.size hMr.b) hx
                      have hkl : (l2.take k).length ≤ 200 := by have := List.length_take_le' k l2; omega
                      have HS := hid (show runsF d (l2.take (k + 1)) = (runsF d (l2.take k)).step x by rw [take_snoc hx, runsF_snoc])
                      have HC := hid (do_c w3 g gm v _ _ x _ (hMr.at_ 1 rfl) (runsF_ok (w := w) (l2.take k) HOK.out fun u hu => HO2.out u (List.mem_of_mem_take hu)) (by omega) (hMr.base_ 1 rfl) (Ok.below hxo hb))
                      clear hx hkl hxo
                      go_wp2_with (fail)
                      refine HC.out.mono ?_
                      rintro e w6 ⟨v', rfl, hD6, hTh, hT⟩
                      have hO' := hOr.tch (hMr.at_ 1 rfl) hT (by decide) (by decide)
                      have hM' := hMr.set 1 rfl hD6 hTh hT
                      clear HC hD6 hTh hT hMr hOr
                      go_wp2
                      go_roundw
                      case rel => exact ⟨k + 1, v', by go_num, by omega, by rw [HS.out]; exact hM', hO'⟩
                      case measure => simp [intOf]; omega
                    · obtain rfl : k = l2.length := by omega
                      rw [List.take_length, hD1] at hMr
                      have HOE := hid hOr
                      have HOKD2 := hid (show D.Ok (l.length + l2.length) by rw [← hD1]; exact runsF_ok (w := w) l2 HOK.out HO2.out)
                      clear hOr hD1
                      generalize hwG : wr = wG at *
                      clear hwG
                      go_wp2
                      go_loopw [14] (fun i wq => ∃ k : Nat, i = .int .i64 k ∧ k ≤ ll.length + 3 ∧ Below wG.heap.size wG wq) (fun i _ => ll.length + 3 - (intOf i).toNat)
                      case atStart => exact ⟨0, rfl, by omega, Below.refl _ _⟩
                      case round =>
                        obtain ⟨k, rfl, hk, hbq⟩ := hrel
                        by_cases hlt : k < ll.length + 3
                        · obtain ⟨y, hy⟩ := get_of_lt (l := secs ll) (k := k) (by rw [secs_len]; omega)
                          have hyi := HSI.out y (List.mem_of_getElem? hy)
                          have HQ := hid (fun wx (hbx : Below wG.heap.size wG wx) => Own.slice_at (HOE.out.keep fun g hg => (hbx.block g (HOE.out.block g hg).2)) (k := k) (v := .int .i64 y) (by rw [List.getElem?_map, hy]; rfl))
                          have hdl : D.C.length ≤ 1000000 := by have := HOKD2.out.len; omega
                          clear hy
                          go_wp2_with (fail)
                          refine Rgd.wp_region (l := [_, _, _, _, _, _, _, _, _, _, _, _, _, _, _, _, _, _, _, _, _, _, _, _, _, _, _]) (tail := [_]) (Rgd.keep wr [] [(0, 0), (0, 0), (0, 0), (0, 0), (0, 0), (0, 0), (0, 0), (0, 0), (0, 0), (0, 0), (0, 0), (0, 0), (0, 0), (0, 0), (0, 0), (0, 0), (0, 0), (0, 0), (0, 0), (0, 0), (0, 0), (0, 0), (0, 0), (0, 0), (0, 0), (0, 0), (0, 0)]) [some 118, some 119, some 120, some 121, some 122, some 123, some 124, some 125, some 126, some 127, some 128, some 129, some 130, some 131, some 132, some 133, some 134, some 135, some 136, some 137, some 138, some 139, some 140, some 141, some 142, some 143, some 144, some 145] 165 rfl [[], [], [], [1, 2], [1, 2, 3], [0, 1, 2, 3, 4], [], [], [], [7, 8], [7, 8, 9], [0, 1, 2, 3, 4, 5, 6, 7, 8, 9, 10], [0, 1, 2, 3, 4, 5, 6, 7, 8, 9, 10, 11], [0, 1, 2, 3, 4, 5, 6, 7, 8, 9, 10, 11, 12], [0, 1, 2, 3, 4, 5, 6, 7, 8, 9, 10, 11, 12, 13], [0, 1, 2, 3, 4, 5, 6, 7, 8, 9, 10, 11, 12, 13], [0, 1, 2, 3, 4, 5, 6, 7, 8, 9, 10, 11, 12, 13], [0, 1, 2, 3, 4, 5, 6, 7, 8, 9, 10, 11, 12, 13, 15, 16], [0, 1, 2, 3, 4, 5, 6, 7, 8, 9, 10, 11, 12, 13, 15, 16, 17], [0, 1, 2, 3, 4, 5, 6, 7, 8, 9, 10, 11, 12, 13, 14, 15, 16, 17, 18], [0, 1, 2, 3, 4, 5, 6, 7, 8, 9, 10, 11, 12, 13], [0, 1, 2, 3, 4, 5, 6, 7, 8, 9, 10, 11, 12, 13], [0, 1, 2, 3, 4, 5, 6, 7, 8, 9, 10, 11, 12, 13], [0, 1, 2, 3, 4, 5, 6, 7, 8, 9, 10, 11, 12, 13, 21, 22], [0, 1, 2, 3, 4, 5, 6, 7, 8, 9, 10, 11, 12, 13, 21, 22, 23], [0, 1, 2, 3, 4, 5, 6, 7, 8, 9, 10, 11, 12, 13, 14, 15, 16, 17, 18, 19, 20, 21, 22, 23, 24], [0, 1, 2, 3, 4, 5, 6, 7, 8, 9, 10, 11, 12, 13, 14, 15, 16, 17, 18, 19, 20, 21, 22, 23, 24, 25]] (by kernel_rfl) (by kernel_rfl) (by kernel_rfl) (by kernel_rfl) (by kernel_rfl) rfl (Rgd.keep_fair) (Rgd.keep_start _) ?_
                          refine' Rgd.op_is _ [] 0 0 rfl rfl rfl (by kernel_rfl) ?_ ?_
                          rotate_left
                          · intro p wx hp1 hp2 hb
                            obtain rfl : p = 0 := by omega
                            refine Rgd.from_nil fun T hT => ?_
                            go_wp2
                            refine hT _ _ rfl (by first | exact Rgd.Keep.refl _ | exact below_of_dr hw2 | exact hw2 | exact (Below.refl _ _).alloc (Nat.le_refl _) _) ?_
                            simp only [Rgd.last, List.getElem?_toArray, List.getElem?_cons_succ, List.getElem?_cons_zero, Option.getD_some]
                            rfl
                          refine' Rgd.op_is _ [] 0 0 rfl rfl rfl (by kernel_rfl) ?_ ?_
                          rotate_left
                          · intro p wx hp1 hp2 hb
                            obtain rfl : p = 0 := by omega
                            refine Rgd.from_nil fun T hT => ?_
                            go_wp2
                            refine hT _ _ rfl (by first | exact Rgd.Keep.refl _ | exact below_of_dr hw2 | exact hw2 | exact (Below.refl _ _).alloc (Nat.le_refl _) _) ?_
                            simp only [Rgd.last, List.getElem?_toArray, List.getElem?_cons_succ, List.getElem?_cons_zero, Option.getD_some]
                            rfl
                          refine' Rgd.op_is _ [] 0 0 rfl rfl rfl (by kernel_rfl) ?_ ?_
                          rotate_left
                          · intro p wx hp1 hp2 hb
                            obtain rfl : p = 0 := by omega
                            refine Rgd.from_nil fun T hT => ?_
                            go_wp2
                            refine hT _ _ rfl (by first | exact Rgd.Keep.refl _ | exact below_of_dr hw2 | exact hw2 | exact (Below.refl _ _).alloc (Nat.le_refl _) _) ?_
                            simp only [Rgd.last, List.getElem?_toArray, List.getElem?_cons_succ, List.getElem?_cons_zero, Option.getD_some]
                            rfl
                          refine' Rgd.op_is _ [1, 2] 0 0 rfl rfl rfl (by kernel_rfl) ?_ ?_
                          rotate_left
                          · intro p wx hp1 hp2 hb
                            obtain rfl : p = 0 := by omega
                            refine Rgd.from_is (some 119) rfl rfl ?_
                            refine Rgd.from_is (some 120) rfl rfl ?_
                            refine Rgd.from_nil fun T hT => ?_
                            go_wp2
                            refine hT _ _ rfl (by first | exact Rgd.Keep.refl _ | exact below_of_dr hw2 | exact hw2 | exact (Below.refl _ _).alloc (Nat.le_refl _) _) ?_
                            simp only [Rgd.last, List.getElem?_toArray, List.getElem?_cons_succ, List.getElem?_cons_zero, Option.getD_some]
                            rfl
                          refine Rgd.op_is (.int .i64 y) [3] 0 0 rfl rfl rfl (by kernel_rfl) ?_ ?_
                          · intro p wx hp1 hp2 hb
                            obtain rfl : p = 0 := by omega
                            refine Rgd.from_is (some 121) rfl rfl ?_
                            refine Rgd.from_nil fun T hT => ?_
                            have q5 := HQ.out wx (below_next hbq hbq.size hb)
                            go_wp2
                            exact hT _ _ rfl (by first | exact Rgd.Keep.refl _ | exact below_of_dr hw2 | exact hw2 | exact (Below.refl _ _).alloc (Nat.le_refl _) _) (by first | rfl | exact congrArg _ (by decide))
                          refine Rgd.op_is (.string (D.read y)) [0, 4] 0 0 rfl rfl rfl (by kernel_rfl) ?_ ?_
                          · intro p wx hp1 hp2 hb
                            obtain rfl : p = 0 := by omega
                            refine Rgd.from_is (some 118) rfl rfl ?_
                            refine Rgd.from_is (some 122) rfl rfl ?_
                            refine Rgd.from_nil fun T hT => ?_
                            go_wp2_with (fail)
                            refine (read_c g gm v D y _ ((hMr.at_ 1 rfl).below (below_next hbq hbq.size hb)) hyi hdl).mono ?_
                            rintro e wy ⟨rfl, hk⟩
                            go_wp2
                            exact hT _ _ rfl hk rfl
                          refine' Rgd.op_is _ [] 0 0 rfl rfl rfl (by kernel_rfl) ?_ ?_
                          rotate_left
                          · intro p wx hp1 hp2 hb
                            obtain rfl : p = 0 := by omega
                            refine Rgd.from_nil fun T hT => ?_
                            go_wp2
                            refine hT _ _ rfl (by first | exact Rgd.Keep.refl _ | exact below_of_dr hw2 | exact hw2 | exact (Below.refl _ _).alloc (Nat.le_refl _) _) ?_
                            simp only [Rgd.last, List.getElem?_toArray, List.getElem?_cons_succ, List.getElem?_cons_zero, Option.getD_some]
                            rfl
                          refine' Rgd.op_is _ [] 0 0 rfl rfl rfl (by kernel_rfl) ?_ ?_
                          rotate_left
                          · intro p wx hp1 hp2 hb
                            obtain rfl : p = 0 := by omega
                            refine Rgd.from_nil fun T hT => ?_
                            go_wp2
                            refine hT _ _ rfl (by first | exact Rgd.Keep.refl _ | exact below_of_dr hw2 | exact hw2 | exact (Below.refl _ _).alloc (Nat.le_refl _) _) ?_
                            simp only [Rgd.last, List.getElem?_toArray, List.getElem?_cons_succ, List.getElem?_cons_zero, Option.getD_some]
                            rfl
                          refine' Rgd.op_is _ [] 0 0 rfl rfl rfl (by kernel_rfl) ?_ ?_
                          rotate_left
                          · intro p wx hp1 hp2 hb
                            obtain rfl : p = 0 := by omega
                            refine Rgd.from_nil fun T hT => ?_
                            go_wp2
                            refine hT _ _ rfl (by first | exact Rgd.Keep.refl _ | exact below_of_dr hw2 | exact hw2 | exact (Below.refl _ _).alloc (Nat.le_refl _) _) ?_
                            simp only [Rgd.last, List.getElem?_toArray, List.getElem?_cons_succ, List.getElem?_cons_zero, Option.getD_some]
                            rfl
                          refine' Rgd.op_is _ [7, 8] 0 0 rfl rfl rfl (by kernel_rfl) ?_ ?_
                          rotate_left
                          · intro p wx hp1 hp2 hb
                            obtain rfl : p = 0 := by omega
                            refine Rgd.from_is (some 125) rfl rfl ?_
                            refine Rgd.from_is (some 126) rfl rfl ?_
                            refine Rgd.from_nil fun T hT => ?_
                            go_wp2
                            refine hT _ _ rfl (by first | exact Rgd.Keep.refl _ | exact below_of_dr hw2 | exact hw2 | exact (Below.refl _ _).alloc (Nat.le_refl _) _) ?_
                            simp only [Rgd.last, List.getElem?_toArray, List.getElem?_cons_succ, List.getElem?_cons_zero, Option.getD_some]
                            rfl
                          refine Rgd.op_is (.int .i64 y) [9] 0 0 rfl rfl rfl (by kernel_rfl) ?_ ?_
                          · intro p wx hp1 hp2 hb
                            obtain rfl : p = 0 := by omega
                            refine Rgd.from_is (some 127) rfl rfl ?_
                            refine Rgd.from_nil fun T hT => ?_
                            have q5 := HQ.out wx (below_next hbq hbq.size hb)
                            go_wp2
                            exact hT _ _ rfl (by first | exact Rgd.Keep.refl _ | exact below_of_dr hw2 | exact hw2 | exact (Below.refl _ _).alloc (Nat.le_refl _) _) (by first | rfl | exact congrArg _ (by decide))
                          refine Rgd.op_is (.string (D.read y)) [6, 10] 0 0 rfl rfl rfl (by kernel_rfl) ?_ ?_
                          · intro p wx hp1 hp2 hb
                            obtain rfl : p = 0 := by omega
                            refine Rgd.from_is (some 124) rfl rfl ?_
                            refine Rgd.from_is (some 128) rfl rfl ?_
                            refine Rgd.from_nil fun T hT => ?_
                            go_wp2_with (fail)
                            refine (read_c g1 gm1 v1 D y _ ((hMr.at_ 0 rfl).below (below_next hbq hbq.size hb)) hyi hdl).mono ?_
                            rintro e wy ⟨rfl, hk⟩
                            go_wp2
                            exact hT _ _ rfl hk rfl
                          refine Rgd.op_is (.bool false) [5, 11] 0 0 rfl rfl rfl (by kernel_rfl) ?_ ?_
                          · intro p wx hp1 hp2 hb
                            obtain rfl : p = 0 := by omega
                            refine Rgd.from_is (some 123) rfl rfl ?_
                            refine Rgd.from_is (some 129) rfl rfl ?_
                            refine Rgd.from_nil fun T hT => ?_
                            go_wp2
                            exact hT _ _ rfl (by first | exact Rgd.Keep.refl _ | exact below_of_dr hw2 | exact hw2 | exact (Below.refl _ _).alloc (Nat.le_refl _) _) (by first | rfl | exact congrArg _ (by decide))
                          refine Rgd.op_is (.bool false) [12] 0 0 rfl rfl rfl (by kernel_rfl) ?_ ?_
                          · intro p wx hp1 hp2 hb
                            obtain rfl : p = 0 := by omega
                            refine Rgd.from_is (some 130) rfl rfl ?_
                            refine Rgd.from_nil fun T hT => ?_
                            go_wp2
                            exact hT _ _ rfl (by first | exact Rgd.Keep.refl _ | exact below_of_dr hw2 | exact hw2 | exact (Below.refl _ _).alloc (Nat.le_refl _) _) (by first | rfl | exact congrArg _ (by decide))
                          refine' Rgd.op_is _ [] 0 0 rfl rfl rfl (by kernel_rfl) ?_ ?_
                          rotate_left
                          · intro p wx hp1 hp2 hb
                            obtain rfl : p = 0 := by omega
                            refine Rgd.from_nil fun T hT => ?_
                            go_wp2
                            refine hT _ _ rfl (by first | exact Rgd.Keep.refl _ | exact below_of_dr hw2 | exact hw2 | exact (Below.refl _ _).alloc (Nat.le_refl _) _) ?_
                            simp only [Rgd.last, List.getElem?_toArray, List.getElem?_cons_succ, List.getElem?_cons_zero, Option.getD_some]
                            rfl
                          refine' Rgd.op_is _ [] 0 0 rfl rfl rfl (by kernel_rfl) ?_ ?_
                          rotate_left
                          · intro p wx hp1 hp2 hb
                            obtain rfl : p = 0 := by omega
                            refine Rgd.from_nil fun T hT => ?_
                            go_wp2
                            refine hT _ _ rfl (by first | exact Rgd.Keep.refl _ | exact below_of_dr hw2 | exact hw2 | exact (Below.refl _ _).alloc (Nat.le_refl _) _) ?_
                            simp only [Rgd.last, List.getElem?_toArray, List.getElem?_cons_succ, List.getElem?_cons_zero, Option.getD_some]
                            rfl
                          refine' Rgd.op_is _ [] 0 0 rfl rfl rfl (by kernel_rfl) ?_ ?_
                          rotate_left
                          · intro p wx hp1 hp2 hb
                            obtain rfl : p = 0 := by omega
                            refine Rgd.from_nil fun T hT => ?_
                            go_wp2
                            refine hT _ _ rfl (by first | exact Rgd.Keep.refl _ | exact below_of_dr hw2 | exact hw2 | exact (Below.refl _ _).alloc (Nat.le_refl _) _) ?_
                            simp only [Rgd.last, List.getElem?_toArray, List.getElem?_cons_succ, List.getElem?_cons_zero, Option.getD_some]
                            rfl
                          refine' Rgd.op_is _ [15, 16] 0 0 rfl rfl rfl (by kernel_rfl) ?_ ?_
                          rotate_left
                          · intro p wx hp1 hp2 hb
                            obtain rfl : p = 0 := by omega
                            refine Rgd.from_is (some 133) rfl rfl ?_
                            refine Rgd.from_is (some 134) rfl rfl ?_
                            refine Rgd.from_nil fun T hT => ?_
                            go_wp2
                            refine hT _ _ rfl (by first | exact Rgd.Keep.refl _ | exact below_of_dr hw2 | exact hw2 | exact (Below.refl _ _).alloc (Nat.le_refl _) _) ?_
                            simp only [Rgd.last, List.getElem?_toArray, List.getElem?_cons_succ, List.getElem?_cons_zero, Option.getD_some]
                            rfl
                          refine Rgd.op_is (.int .i64 y) [17] 0 0 rfl rfl rfl (by kernel_rfl) ?_ ?_
                          · intro p wx hp1 hp2 hb
                            obtain rfl : p = 0 := by omega
                            refine Rgd.from_is (some 135) rfl rfl ?_
                            refine Rgd.from_nil fun T hT => ?_
                            have q5 := HQ.out wx (below_next hbq hbq.size hb)
                            go_wp2
                            exact hT _ _ rfl (by first | exact Rgd.Keep.refl _ | exact below_of_dr hw2 | exact hw2 | exact (Below.refl _ _).alloc (Nat.le_refl _) _) (by first | rfl | exact congrArg _ (by decide))
                          refine Rgd.op_is (.string (D.plat y)) [14, 18] 0 0 rfl rfl rfl (by kernel_rfl) ?_ ?_
                          · intro p wx hp1 hp2 hb
                            obtain rfl : p = 0 := by omega
                            refine Rgd.from_is (some 132) rfl rfl ?_
                            refine Rgd.from_is (some 136) rfl rfl ?_
                            refine Rgd.from_nil fun T hT => ?_
                            go_wp2_with (fail)
                            refine (platter_c g gm v D y _ ((hMr.at_ 1 rfl).below (below_next hbq hbq.size hb)) hyi).mono ?_
                            rintro e wy ⟨rfl, hk⟩
                            go_wp2
                            exact hT _ _ rfl hk rfl
                          refine' Rgd.op_is _ [] 0 0 rfl rfl rfl (by kernel_rfl) ?_ ?_
                          rotate_left
                          · intro p wx hp1 hp2 hb
                            obtain rfl : p = 0 := by omega
                            refine Rgd.from_nil fun T hT => ?_
                            go_wp2
                            refine hT _ _ rfl (by first | exact Rgd.Keep.refl _ | exact below_of_dr hw2 | exact hw2 | exact (Below.refl _ _).alloc (Nat.le_refl _) _) ?_
                            simp only [Rgd.last, List.getElem?_toArray, List.getElem?_cons_succ, List.getElem?_cons_zero, Option.getD_some]
                            rfl
                          refine' Rgd.op_is _ [] 0 0 rfl rfl rfl (by kernel_rfl) ?_ ?_
                          rotate_left
                          · intro p wx hp1 hp2 hb
                            obtain rfl : p = 0 := by omega
                            refine Rgd.from_nil fun T hT => ?_
                            go_wp2
                            refine hT _ _ rfl (by first | exact Rgd.Keep.refl _ | exact below_of_dr hw2 | exact hw2 | exact (Below.refl _ _).alloc (Nat.le_refl _) _) ?_
                            simp only [Rgd.last, List.getElem?_toArray, List.getElem?_cons_succ, List.getElem?_cons_zero, Option.getD_some]
                            rfl
                          refine' Rgd.op_is _ [] 0 0 rfl rfl rfl (by kernel_rfl) ?_ ?_
                          rotate_left
                          · intro p wx hp1 hp2 hb
                            obtain rfl : p = 0 := by omega
                            refine Rgd.from_nil fun T hT => ?_
                            go_wp2
                            refine hT _ _ rfl (by first | exact Rgd.Keep.refl _ | exact below_of_dr hw2 | exact hw2 | exact (Below.refl _ _).alloc (Nat.le_refl _) _) ?_
                            simp only [Rgd.last, List.getElem?_toArray, List.getElem?_cons_succ, List.getElem?_cons_zero, Option.getD_some]
                            rfl
                          refine' Rgd.op_is _ [21, 22] 0 0 rfl rfl rfl (by kernel_rfl) ?_ ?_
                          rotate_left
                          · intro p wx hp1 hp2 hb
                            obtain rfl : p = 0 := by omega
                            refine Rgd.from_is (some 139) rfl rfl ?_
                            refine Rgd.from_is (some 140) rfl rfl ?_
                            refine Rgd.from_nil fun T hT => ?_
                            go_wp2
                            refine hT _ _ rfl (by first | exact Rgd.Keep.refl _ | exact below_of_dr hw2 | exact hw2 | exact (Below.refl _ _).alloc (Nat.le_refl _) _) ?_
                            simp only [Rgd.last, List.getElem?_toArray, List.getElem?_cons_succ, List.getElem?_cons_zero, Option.getD_some]
                            rfl
                          refine Rgd.op_is (.int .i64 y) [23] 0 0 rfl rfl rfl (by kernel_rfl) ?_ ?_
                          · intro p wx hp1 hp2 hb
                            obtain rfl : p = 0 := by omega
                            refine Rgd.from_is (some 141) rfl rfl ?_
                            refine Rgd.from_nil fun T hT => ?_
                            have q5 := HQ.out wx (below_next hbq hbq.size hb)
                            go_wp2
                            exact hT _ _ rfl (by first | exact Rgd.Keep.refl _ | exact below_of_dr hw2 | exact hw2 | exact (Below.refl _ _).alloc (Nat.le_refl _) _) (by first | rfl | exact congrArg _ (by decide))
                          refine Rgd.op_is (.string (D.plat y)) [20, 24] 0 0 rfl rfl rfl (by kernel_rfl) ?_ ?_
                          · intro p wx hp1 hp2 hb
                            obtain rfl : p = 0 := by omega
                            refine Rgd.from_is (some 138) rfl rfl ?_
                            refine Rgd.from_is (some 142) rfl rfl ?_
                            refine Rgd.from_nil fun T hT => ?_
                            go_wp2_with (fail)
                            refine (platter_c g1 gm1 v1 D y _ ((hMr.at_ 0 rfl).below (below_next hbq hbq.size hb)) hyi).mono ?_
                            rintro e wy ⟨rfl, hk⟩
                            go_wp2
                            exact hT _ _ rfl hk rfl
                          refine Rgd.op_is (.bool false) [19, 25] 0 0 rfl rfl rfl (by kernel_rfl) ?_ ?_
                          · intro p wx hp1 hp2 hb
                            obtain rfl : p = 0 := by omega
                            refine Rgd.from_is (some 137) rfl rfl ?_
                            refine Rgd.from_is (some 143) rfl rfl ?_
                            refine Rgd.from_nil fun T hT => ?_
                            go_wp2
                            exact hT _ _ rfl (by first | exact Rgd.Keep.refl _ | exact below_of_dr hw2 | exact hw2 | exact (Below.refl _ _).alloc (Nat.le_refl _) _) (by first | rfl | exact congrArg _ (by decide))
                          refine Rgd.walk_nil [0, 1, 2, 3, 4, 5, 6, 7, 8, 9, 10, 11, 12, 13, 14, 15, 16, 17, 18, 19, 20, 21, 22, 23, 24, 25, 26] (by kernel_rfl) ?_
                          intro wx hb
                          refine Rgd.from_is (some 118) rfl rfl ?_
                          refine Rgd.from_is (some 119) rfl rfl ?_
                          refine Rgd.from_is (some 120) rfl rfl ?_
                          refine Rgd.from_is (some 121) rfl rfl ?_
                          refine Rgd.from_is (some 122) rfl rfl ?_
                          refine Rgd.from_is (some 123) rfl rfl ?_
                          refine Rgd.from_is (some 124) rfl rfl ?_
                          refine Rgd.from_is (some 125) rfl rfl ?_
                          refine Rgd.from_is (some 126) rfl rfl ?_
                          refine Rgd.from_is (some 127) rfl rfl ?_
                          refine Rgd.from_is (some 128) rfl rfl ?_
                          refine Rgd.from_is (some 129) rfl rfl ?_
                          refine Rgd.from_is (some 130) rfl rfl ?_
                          refine Rgd.from_is (some 131) rfl rfl ?_
                          refine Rgd.from_is (some 132) rfl rfl ?_
                          refine Rgd.from_is (some 133) rfl rfl ?_
                          refine Rgd.from_is (some 134) rfl rfl ?_
                          refine Rgd.from_is (some 135) rfl rfl ?_
                          refine Rgd.from_is (some 136) rfl rfl ?_
                          refine Rgd.from_is (some 137) rfl rfl ?_
                          refine Rgd.from_is (some 138) rfl rfl ?_
                          refine Rgd.from_is (some 139) rfl rfl ?_
                          refine Rgd.from_is (some 140) rfl rfl ?_
                          refine Rgd.from_is (some 141) rfl rfl ?_
                          refine Rgd.from_is (some 142) rfl rfl ?_
                          refine Rgd.from_is (some 143) rfl rfl ?_
                          refine Rgd.from_is (some 144) rfl rfl ?_
                          refine Rgd.from_nil ?_
                          simp only [List.map, Act.put, List.setIfInBounds_toArray, List.set_cons_zero, List.set_cons_succ]
                          have hbq2 := below_next hbq hbq.size hb
                          go_wp2
                          go_roundw
                          case rel => exact ⟨k + 1, by go_num, by omega, hbq2⟩
                          case measure => simp [intOf]; omega
                        · have hM := hMr.below hbq
                          clear hMr hbq HOE
                          go_wp2_with (fail)
                          refine (dead_c g gm v D wr (hM.at_ 1 rfl)).mono ?_
                          rintro e _ ⟨rfl, rfl⟩
                          go_wp2_with (fail)
                          refine (dead_c g1 gm1 v1 D wr (hM.at_ 0 rfl)).mono ?_
                          rintro e _ ⟨rfl, rfl⟩
                          go_wp2_with (fail)
                          refine (waits_c g gm v D wr (hM.at_ 1 rfl)).mono ?_
                          rintro e _ ⟨rfl, rfl⟩
                          go_wp2_with (fail)
                          refine (waits_c g1 gm1 v1 D wr (hM.at_ 0 rfl)).mono ?_
                          rintro e _ ⟨rfl, rfl⟩
                          go_wp2_with (fail)
                          refine (used_c g gm v D _ wr (hM.at_ 1 rfl) HOKD2.out (by omega)).mono ?_
                          rintro e wU ⟨v5, us, rfl, hu, hO5, hb5⟩
                          replace hM := hM.below hb5
                          go_wp2_with (fail)
                          refine (used_c g1 gm1 v1 D _ wU (hM.at_ 0 rfl) HOKD2.out (by omega)).mono ?_
                          rintro e wV ⟨v6, us6, rfl, hu6, hO6, hb6⟩
                          obtain rfl := uses_eq hu hu6
                          replace hM := hM.below hb6
                          replace hO5 := hO5.below hb6
                          have hlen := hO5.len
                          obtain ⟨A5, c5, rfl, hc5⟩ := hO5.cellsI
                          obtain ⟨A6, c6', rfl, hc6⟩ := hO6.cellsI
                          clear hu hu6 hb5 hb6 hO5 hO6
                          go_wp2_with (fail)
                          refine (ints_c A5 A6 us us c5 c6' wV hc5 hc6 hlen hlen).mono ?_
                          rintro e wW ⟨rfl, hdr⟩
                          rw [show decide (us = us) = true from decide_eq_true rfl]
                          replace hM := hM.dr hdr
                          go_wp2
                          go_ret
                          exact ⟨rfl, below_next hb hb.size hM.b⟩
set_option maxRecDepth 100000 in
theorem diskCopies_lifted (os : Os) (started : os.Started) (H : Type) (enc : TypeId × Value → H) :
    ReturnsInHanded {} Try.checked os 9 .any (Rows.diskCopiesSpec.pre6 enc Try.prog Try.f9 Rows.diskCopiesRow.domain false) (Rows.diskCopiesSpec.post enc Try.prog Try.f9 false true false false) := by
  haveI : DecidableEq Lit := fun a b => Classical.propDecidable (a = b)
  refine returnsInHanded_of_change_sized (C := Try.checked) Try.own started (by kernel_rfl) Try.func9
    (ChangeSpec.witness6 (enc := enc) (C := Try.checked) false ⟨#[], #[.slice none 0 0, .slice none 0 0], []⟩ 8 (by kernel_rfl) (by kernel_rfl) (by kernel_rfl) (by kernel_rfl)) ?_
  intro W base args ds gs before hval0 hW hcnd hsz0 _
  have hval : ∀ (j : Nat) t v, Try.f9.params[j]? = some t → args[j]? = some v → Value.okWide Try.prog W .any base t v := hval0
  have hW' := hW
  obtain ⟨p, q, hA0, hV, rfl, hfz, hnd⟩ := hW
  have hA : DataW.TrodAll enc Try.prog W 0 (fun _ => true) true Try.f9.params.toList args.toList ds p := hA0
  rw [Try.params9] at hA hval
  obtain ⟨v0, v1, d0, d1, p0, p1, rfl, rfl, rfl, h0, h1⟩ := trodAll_two hA
  obtain ⟨rfl, rfl⟩ := trodVars_none hV
  have hsz : ∀ n ∈ DataW.weightsEach Try.prog [22, 22] [d0, d1], n ≤ reachBytes := fun n hn => by
    have := List.all_eq_true.1 hsz0 n (by rw [Try.params9]; exact hn)
    simpa using this
  obtain ⟨_, k0⟩ := one_ofV Try.underlying22 (hval 0 22 v0 rfl rfl) h0
  obtain ⟨A0, x0, c0, rfl, a0, b0, e0⟩ := steps_at k0 (fun n hn => hsz n (DataW.weights_mem_each (j := 0) rfl rfl n hn))
  obtain ⟨_, k1⟩ := one_ofV Try.underlying22 (hval 1 22 v1 rfl rfl) h1
  obtain ⟨A1, x1, c1, rfl, a1, b1, e1⟩ := steps_at k1 (fun n hn => hsz n (DataW.weights_mem_each (j := 1) rfl rfl n hn))
  clear hA0 hval0
  refine (diskCopies_c A0 x0 c0 A1 x1 c1 W a0 b0 e0 a1 b1 e1).mono fun e W' ⟨he, hb⟩ => ?_
  subst he
  exact ⟨_, rfl, post_true hW' hb Try.laidOut (by kernel_rfl) rfl rfl rfl rfl rfl Try.underlying4⟩

theorem diskCopies_holds : Rows.DiskCopiesSaid :=
  OpenClaim.holds_of_wide 9 Try.f9 rfl rfl rfl rfl rfl rfl rfl ⟨rfl, rfl, rfl, rfl, rfl⟩ rfl rfl rfl rfl rfl (by kernel_rfl) Try.func9 (by kernel_rfl)
    (of_decide_eq_true (by kernel_rfl)) (by unfold Func.isWrapper; first | (rw [if_pos (by decide +kernel)]; kernel_rfl) | (rw [if_neg (by decide +kernel)]; exact ⟨rfl, rfl⟩))
    (fun os started H enc _ => diskCopies_lifted os started H enc)
#print axioms diskCopies_holds
end Go.Proofs.Ytnniiokpngdgkaa
