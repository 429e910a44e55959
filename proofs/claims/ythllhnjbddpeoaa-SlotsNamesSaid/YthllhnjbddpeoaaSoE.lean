/-
  Has a place its head, its text, and 00s, on the platter?
-/
import Derived.Test.YthllhnjbddpeoaaSoB
namespace Go.Proofs.Ythllhnjbddpeoaa
open Go Go.RowKit Go.Maps Go.Shelf Go.Proofs Go.ChangeShapes Go.WideShapes Go.ChangeAt

/-- what is to be seen of a place. -/
structure CleanP (P : List Pt) (p : Int) (a : Nat) (s : ByteArray) : Prop where
  head : getP P p = pad (headS a s.size)
  chunk : ∀ k : Nat, k < secs_of s.size → getP P (p + 1 + k) = pad (s.extract (512 * k) (512 * k + 512))
  rest : ∀ x, p + 1 + secs_of s.size ≤ x → x < p + 32768 → getP P x = blk
theorem Wrote.clean {x : Pc} {P : List Pt} {p : Int} {s : ByteArray} {a : Nat} (h : Wrote x p s (headS a s.size) (getP P)) : CleanP P p a s := ⟨h.head, h.chunk, h.rest⟩
theorem numsS_head {a n : Nat} (ha : a < 18446744073709551616) (hn : n < 18446744073709551616) : numsS [(a : Int), (n : Int), (a : Int)] = headS a n := by
  have h1 : u64n (a : Int) = a := by unfold u64n; omega
  have h2 : u64n (n : Int) = n := by unfold u64n; omega
  unfold numsS headS numsB
  simp only [List.flatMap_cons, List.flatMap_nil, h1, h2, List.append_nil, List.append_assoc]
theorem pad_cat (s : ByteArray) : s ++ zs (512 - s.size) = pad s := rfl
theorem extract_min (s : ByteArray) (a b : Nat) : s.extract a (min b s.size) = s.extract a b := by
  apply ByteArray.ext
  apply Array.toList_inj.1
  simp only [ByteArray.data_extract, Array.toList_extract, List.extract_eq_take_drop]
  have hl : (List.drop a s.data.toList).length = s.size - a := by rw [List.length_drop, ba_len]
  rcases Nat.le_total b s.size with h | h
  · rw [Nat.min_eq_left h]
  · rw [Nat.min_eq_right h, List.take_of_length_le (by omega), List.take_of_length_le (by omega)]
theorem pad_front {s : ByteArray} (_ : s.size ≤ 512) : (pad s).extract 0 s.size = s := by
  apply ByteArray.ext
  apply Array.toList_inj.1
  simp only [ByteArray.data_extract, Array.toList_extract, List.extract_eq_take_drop]
  rw [pad_data, List.drop_zero, Nat.sub_zero, List.take_append_of_le_length (by rw [ba_len]; omega), List.take_of_length_le (by rw [ba_len]; omega)]
/-- so many 00s behind one another. -/
def MadeZ (n : Nat) (w : World) (u : Value) : Prop := ∃ b, u = .slice (some ⟨b, 0, none⟩) n n ∧ Row1 w b 5 (List.replicate n (.int .u8 0))
theorem MadeZ.below {n : Nat} {w w' : World} {u : Value} (h : MadeZ n w u) (hb : Below w.heap.size w w') : MadeZ n w' u := by
  obtain ⟨b, h1, h2⟩ := h
  exact ⟨b, h1, h2.below hb⟩
set_option maxRecDepth 100000 in
set_option maxHeartbeats 4000000 in
theorem clean_c (g gm : Nat) (v : Value) (d : Dk) (m : Nat) (p : Int) (a : Nat) (s : ByteArray) (w : World) (h : Dsk w g gm v d) (hd : d.Ok m) (hm : m ≤ 1000000) (hp : Pl p) (ha : a ≤ 1000000000000000000) (hs : s.size ≤ 5000) [DecidableEq Lit] :
    Calls Try.prog 51 #[.pointer (some ⟨g, 0, none⟩), .int .i64 p, .int .i64 (a : Int), .string s] w fun e w' => ∃ b : Bool, e = .returned (.bool b) ∧ (CleanP d.P p a s → b = true) ∧ Below w.heap.size w w' := by
  have HPL := hid (fun w' (hb : Below w.heap.size w w') a' (ha' : I64 a') => platter_c g gm v d a' w' (h.below hb) ha')
  have HPU := hid (fun w' (hb : Below w.heap.size w w') => used_c g gm v d m w' (h.below hb) hd hm)
  have hp0 : 0 ≤ p ∧ p ≤ 32768 := by rcases hp with rfl | rfl <;> omega
  have HPI := hid (pl_is hp)
  have HOK := hid hd
  have HHD := hid (show numsS [(a : Int), (s.size : Int), (a : Int)] = headS a s.size from numsS_head (by omega) (by omega))
  have hHs : (headS a s.size).size = 24 := headS_size a s.size
  have HN := hid (numbers_c (some ⟨w.heap.size, 0, none⟩) [(a : Int), (s.size : Int), (a : Int)] 3 (w.alloc (.cells #[.int .i64 (a : Int), .int .i64 (s.size : Int), .int .i64 (a : Int)] 3)) (row1_new w [.int .i64 (a : Int), .int .i64 (s.size : Int), .int .i64 (a : Int)] 3).cells (by simp) (fun x hx => by
    simp only [List.mem_cons, List.not_mem_nil, or_false] at hx
    rcases hx with rfl | rfl | rfl <;> exact ⟨by omega, by omega⟩))
  have HH := hid (fun (hC : CleanP d.P p a s) => hC.head)
  have HCH := hid (fun (hC : CleanP d.P p a s) => hC.chunk)
  have HRE := hid (fun (hC : CleanP d.P p a s) => hC.rest)
  have hb0 := below_alloc w (.cells #[.int .i64 (a : Int), .int .i64 (s.size : Int), .int .i64 (a : Int)] 3)
  rw [HHD.out] at HN
  clear HHD hp hd h
  generalize CleanP d.P p a s = CP at *
  generalize headS a s.size = H at *
  go_enter Try.func51, Try.ntmps51
  go_wp2_with (fail)
  refine HN.out.mono ?_
  rintro e w1 ⟨rfl, hb1⟩
  have hb2 := below_next hb0 hb0.size hb1
  clear HN hb0 hb1
  go_wp2_with (fail)
  refine Rgd.wp_region (l := [_, _, _, _, _, _, _, _, _, _]) (tail := [_]) (Rgd.keep w1 [] [(0, 0), (0, 0), (0, 0), (0, 0), (0, 0), (0, 0), (0, 0), (0, 0), (0, 0), (0, 0)]) [some 22, some 23, some 24, some 25, some 26, some 27, some 28, some 29, some 30, some 31, some 32] 104 rfl [[], [], [0, 1], [], [], [4], [4, 5], [4, 5, 6], [4, 5, 6, 7], [3, 4, 5, 6, 7, 8]] (by kernel_rfl) (by kernel_rfl) (by kernel_rfl) (by kernel_rfl) (by kernel_rfl) rfl (Rgd.keep_fair) (Rgd.keep_start _) ?_
  refine' Rgd.op_is _ [] 0 0 rfl rfl rfl (by kernel_rfl) ?_ ?_
  rotate_left
  · intro p wx hp1 hp2 hb
    obtain rfl : p = 0 := by omega
    refine Rgd.from_nil fun T hT => ?_
    go_wp2
    refine hT _ _ rfl (by first | exact Rgd.Keep.refl _ | exact below_of_dr hw2 | exact hw2 | exact (Below.refl _ _).alloc (Nat.le_refl _) _) ?_
    simp only [Rgd.last, List.getElem?_toArray, List.getElem?_cons_succ, List.getElem?_cons_zero, Option.getD_some]
    rfl
  refine' Rgd.op_is _ [] 0 0 rfl rfl rfl (by kernel_rfl) ?_ ?_
  rotate_left
  · intro p wx hp1 hp2 hb
    obtain rfl : p = 0 := by omega
    refine Rgd.from_nil fun T hT => ?_
    go_wp2
    refine hT _ _ rfl (by first | exact Rgd.Keep.refl _ | exact below_of_dr hw2 | exact hw2 | exact (Below.refl _ _).alloc (Nat.le_refl _) _) ?_
    simp only [Rgd.last, List.getElem?_toArray, List.getElem?_cons_succ, List.getElem?_cons_zero, Option.getD_some]
    rfl
  refine Rgd.op_is (.string (getP d.P p)) [0, 1] 0 0 rfl rfl rfl (by kernel_rfl) ?_ ?_
  · intro p wx hp1 hp2 hb
    obtain rfl : p = 0 := by omega
    refine Rgd.from_is (some 22) rfl rfl ?_
    refine Rgd.from_is (some 23) rfl rfl ?_
    refine Rgd.from_nil fun T hT => ?_
    have hb : Below w1.heap.size w1 wx := hb
    go_wp2_with (fail)
    refine (HPL.out _ (below_next hb2 hb2.size hb) p ⟨by omega, by omega⟩).mono ?_
    rintro e wy ⟨rfl, hk⟩
    go_wp2
    exact hT _ _ rfl hk (by simp [Rgd.last, Dk.plat, HPI.out])
  refine' Rgd.op_is _ [] 0 0 rfl rfl rfl (by kernel_rfl) ?_ ?_
  rotate_left
  · intro p wx hp1 hp2 hb
    obtain rfl : p = 0 := by omega
    refine Rgd.from_nil fun T hT => ?_
    go_wp2
    refine hT _ _ rfl (by first | exact Rgd.Keep.refl _ | exact below_of_dr hw2 | exact hw2 | exact (Below.refl _ _).alloc (Nat.le_refl _) _) ?_
    simp only [Rgd.last, List.getElem?_toArray, List.getElem?_cons_succ, List.getElem?_cons_zero, Option.getD_some]
    rfl
  refine' Rgd.op_is _ [] 0 0 rfl rfl rfl (by kernel_rfl) ?_ ?_
  rotate_left
  · intro p wx hp1 hp2 hb
    obtain rfl : p = 0 := by omega
    refine Rgd.from_nil fun T hT => ?_
    go_wp2
    refine hT _ _ rfl (by first | exact Rgd.Keep.refl _ | exact below_of_dr hw2 | exact hw2 | exact (Below.refl _ _).alloc (Nat.le_refl _) _) ?_
    simp only [Rgd.last, List.getElem?_toArray, List.getElem?_cons_succ, List.getElem?_cons_zero, Option.getD_some]
    rfl
  refine Rgd.op_is (.int .i64 (24 : Int)) [4] 0 0 rfl rfl rfl (by kernel_rfl) ?_ ?_
  · intro p wx hp1 hp2 hb
    obtain rfl : p = 0 := by omega
    refine Rgd.from_is (some 26) rfl rfl ?_
    refine Rgd.from_nil fun T hT => ?_
    have hHs2 : ((H.size : Nat) : Int) = 24 := by omega
    go_wp2
    exact hT _ _ rfl (Rgd.Keep.refl _) (by simp [Rgd.last])
  refine Rgd.op_is (.int .i64 (488 : Int)) [5] 0 0 rfl rfl rfl (by kernel_rfl) ?_ ?_
  · intro p wx hp1 hp2 hb
    obtain rfl : p = 0 := by omega
    refine Rgd.from_is (some 27) rfl rfl ?_
    refine Rgd.from_nil fun T hT => ?_
    go_wp2
    exact hT _ _ rfl (by first | exact Rgd.Keep.refl _ | exact below_of_dr hw2 | exact hw2 | exact (Below.refl _ _).alloc (Nat.le_refl _) _) (by first | rfl | exact congrArg _ (by decide))
  refine Rgd.op_of (fun _ w u => MadeZ 488 w u) [6] 0 0 rfl rfl ?_ ?_ rfl (by kernel_rfl) ?_ ?_
  · exact fun p w1 w2 v _ hk h => h.below hk
  · exact fun p w1 w2 v h0 h1 => by simp [Rgd.keep] at h1
  · intro p wx hp1 hp2 hb
    obtain rfl : p = 0 := by omega
    refine Rgd.from_is (some 28) rfl rfl ?_
    refine Rgd.from_nil fun T hT => ?_
    have hb : Below w1.heap.size w1 wx := hb
    go_wp2_with (at_make; refine wpList_make_row elt_u8 _ rfl _ _ rfl .i64 .i64 (488 : Int) (488 : Int) 488 rfl rfl rfl rfl (by omega) (by omega) ?_; intro wy hr hsz hk)
    exact hT _ _ rfl hk ⟨_, rfl, hr⟩
  refine Rgd.op_is (.string (zs 488)) [7] 0 0 rfl rfl rfl (by kernel_rfl) ?_ ?_
  · intro p wx hp1 hp2 hb
    obtain rfl : p = 0 := by omega
    refine Rgd.from_of (some 29) rfl rfl fun v29 h29 => ?_
    refine Rgd.from_nil fun T hT => ?_
    obtain ⟨bz, rfl, hr⟩ := h29
    have hcv := conv_zeros hr
    go_wp2
    exact hT _ _ rfl (Rgd.Keep.refl _) (by simp [Rgd.last])
  refine Rgd.op_is (.string (H ++ zs 488)) [3, 8] 0 0 rfl rfl rfl (by kernel_rfl) ?_ ?_
  · intro p wx hp1 hp2 hb
    obtain rfl : p = 0 := by omega
    refine Rgd.from_is (some 25) rfl rfl ?_
    refine Rgd.from_is (some 30) rfl rfl ?_
    refine Rgd.from_nil fun T hT => ?_
    have hz := zs_size 488
    go_wp2
    exact hT _ _ rfl (Rgd.Keep.refl _) rfl
  refine Rgd.walk_nil [0, 1, 2, 3, 4, 5, 6, 7, 8, 9] (by kernel_rfl) ?_
  intro wx hb
  refine Rgd.from_is (some 22) rfl rfl ?_
  refine Rgd.from_is (some 23) rfl rfl ?_
  refine Rgd.from_is (some 24) rfl rfl ?_
  refine Rgd.from_is (some 25) rfl rfl ?_
  refine Rgd.from_is (some 26) rfl rfl ?_
  refine Rgd.from_is (some 27) rfl rfl ?_
  refine Rgd.from_is (some 28) rfl rfl ?_
  refine Rgd.from_of (some 29) rfl rfl fun v29 h29 => ?_
  refine Rgd.from_is (some 30) rfl rfl ?_
  refine Rgd.from_is (some 31) rfl rfl ?_
  refine Rgd.from_nil ?_
  simp only [List.map, Act.put, List.setIfInBounds_toArray, List.set_cons_zero, List.set_cons_succ]
  have hb3 : Below w.heap.size w wx := below_next hb2 hb2.size hb
  clear hb2 hb
  have hpadH : pad H = H ++ zs 488 := by unfold pad; rw [hHs]
  by_cases hq : getP d.P p = H ++ zs 488
  · have h2 := str_iff.2 hq
    go_wp2_with (fail)
    refine (HPU.out wx hb3).mono ?_
    rintro e w3 ⟨vu, us, rfl, hus, hOwn, hb4⟩
    obtain rfl := uses_eq hus (used_uses d)
    have hb5 := below_next hb3 hb3.size hb4
    have HM := hid (fun x (hx : x ∈ used d) => used_mem HOK.out hx)
    obtain ⟨A, cap, rfl, hcells⟩ := hOwn.cellsI
    have HCL := hid hcells
    have hul : (used d).length ≤ 1000000 := by have := used_len d; have := HOK.out.len; omega
    clear hus hOwn hcells hb4 hb3 HPU HH hpadH hq h2
    generalize used d = us at *
    go_wp2_with (fail)
    go_loopw [36] (fun i wr => ∃ k : Nat, i = .int .i64 (k : Int) ∧ k ≤ us.length ∧ Below w.heap.size w wr ∧ Below w3.heap.size w3 wr) (fun i _ => us.length - (intOf i).toNat)
    case atStart => exact ⟨0, rfl, by omega, hb5, Below.refl _ _⟩
    case round =>
      obtain ⟨k, rfl, hk, hbw, hbq⟩ := hrel
      by_cases hlt : k < us.length
      · obtain ⟨x, hx⟩ := get_of_lt hlt
        obtain ⟨b2, off2, e2, c0⟩ := (HCL.out.below hbq).at_map hx
        cases e2
        obtain ⟨hx0, hx1⟩ := HM.out x (List.mem_of_getElem? hx)
        clear hx
        by_cases q1 : x ≤ p
        · go_wp2
          go_roundw
          case rel => exact ⟨k + 1, by go_num, by omega, hbw, hbq⟩
          case measure => simp [intOf]; omega
        · by_cases q2 : p + 32768 ≤ x
          · go_wp2
            go_roundw
            case rel => exact ⟨k + 1, by go_num, by omega, hbw, hbq⟩
            case measure => simp [intOf]; omega
          · obtain ⟨j, rfl⟩ : ∃ j : Nat, x = p + 1 + (j : Int) := ⟨(x - p - 1).toNat, by omega⟩
            have hj : j < 32767 := by omega
            have hfr : (p + 1 + (j : Int) - p - 1) * 512 = ((512 * j : Nat) : Int) := by omega
            by_cases q3 : 512 * j < s.size
            · have HIS := hid (show isS (p + 1 + (j : Int)) = true from isS_iff.2 ⟨by omega, by omega⟩)
              go_wp2_with (fail)
              have hcut : s.extract (512 * j) (min (512 * (j : Int) + 512) (s.size : Int)).toNat = s.extract (512 * j) (512 * j + 512) := by
                rw [show (min (512 * (j : Int) + 512) (s.size : Int)).toNat = min (512 * j + 512) s.size by omega, extract_min]
              rw [hcut]
              have HTT := hid (fun hC : CP => show getP d.P (p + 1 + (j : Int)) = s.extract (512 * j) (512 * j + 512) ++ zs (512 - (s.extract (512 * j) (512 * j + 512)).size) from HCH.out hC j (by unfold secs_of; omega))
              have htz : (s.extract (512 * j) (512 * j + 512)).size ≤ 512 := by rw [ByteArray.size_extract]; omega
              clear hcut
              generalize s.extract (512 * j) (512 * j + 512) = t at *
              refine Rgd.wp_region (l := [_, _, _, _, _, _, _, _, _, _]) (tail := [_]) (Rgd.keep wr [] [(0, 0), (0, 0), (0, 0), (0, 0), (0, 0), (0, 0), (0, 0), (0, 0), (0, 0), (0, 0)]) [some 66, some 67, some 68, some 69, some 70, some 71, some 72, some 73, some 74, some 75, some 76] 104 rfl [[], [], [0, 1], [], [], [4], [4, 5], [4, 5, 6], [4, 5, 6, 7], [3, 4, 5, 6, 7, 8]] (by kernel_rfl) (by kernel_rfl) (by kernel_rfl) (by kernel_rfl) (by kernel_rfl) rfl (Rgd.keep_fair) (Rgd.keep_start _) ?_
              refine' Rgd.op_is _ [] 0 0 rfl rfl rfl (by kernel_rfl) ?_ ?_
              rotate_left
              · intro p wx hp1 hp2 hb
                obtain rfl : p = 0 := by omega
                refine Rgd.from_nil fun T hT => ?_
                go_wp2
                refine hT _ _ rfl (by first | exact Rgd.Keep.refl _ | exact below_of_dr hw2 | exact hw2 | exact (Below.refl _ _).alloc (Nat.le_refl _) _) ?_
                simp only [Rgd.last, List.getElem?_toArray, List.getElem?_cons_succ, List.getElem?_cons_zero, Option.getD_some]
                rfl
              refine' Rgd.op_is _ [] 0 0 rfl rfl rfl (by kernel_rfl) ?_ ?_
              rotate_left
              · intro p wx hp1 hp2 hb
                obtain rfl : p = 0 := by omega
                refine Rgd.from_nil fun T hT => ?_
                go_wp2
                refine hT _ _ rfl (by first | exact Rgd.Keep.refl _ | exact below_of_dr hw2 | exact hw2 | exact (Below.refl _ _).alloc (Nat.le_refl _) _) ?_
                simp only [Rgd.last, List.getElem?_toArray, List.getElem?_cons_succ, List.getElem?_cons_zero, Option.getD_some]
                rfl
              refine Rgd.op_is (.string (getP d.P (p + 1 + (j : Int)))) [0, 1] 0 0 rfl rfl rfl (by kernel_rfl) ?_ ?_
              · intro p wx hp1 hp2 hb
                obtain rfl : p = 0 := by omega
                refine Rgd.from_is (some 66) rfl rfl ?_
                refine Rgd.from_is (some 67) rfl rfl ?_
                refine Rgd.from_nil fun T hT => ?_
                have hb : Below wr.heap.size wr wx := hb
                go_wp2_with (fail)
                refine (HPL.out _ (below_next hbw hbw.size hb) (p + 1 + (j : Int)) ⟨by omega, by omega⟩).mono ?_
                rintro e wy ⟨rfl, hk⟩
                go_wp2
                exact hT _ _ rfl hk (by simp [Rgd.last, Dk.plat, HIS.out])
              refine' Rgd.op_is _ [] 0 0 rfl rfl rfl (by kernel_rfl) ?_ ?_
              rotate_left
              · intro p wx hp1 hp2 hb
                obtain rfl : p = 0 := by omega
                refine Rgd.from_nil fun T hT => ?_
                go_wp2
                refine hT _ _ rfl (by first | exact Rgd.Keep.refl _ | exact below_of_dr hw2 | exact hw2 | exact (Below.refl _ _).alloc (Nat.le_refl _) _) ?_
                simp only [Rgd.last, List.getElem?_toArray, List.getElem?_cons_succ, List.getElem?_cons_zero, Option.getD_some]
                rfl
              refine' Rgd.op_is _ [] 0 0 rfl rfl rfl (by kernel_rfl) ?_ ?_
              rotate_left
              · intro p wx hp1 hp2 hb
                obtain rfl : p = 0 := by omega
                refine Rgd.from_nil fun T hT => ?_
                go_wp2
                refine hT _ _ rfl (by first | exact Rgd.Keep.refl _ | exact below_of_dr hw2 | exact hw2 | exact (Below.refl _ _).alloc (Nat.le_refl _) _) ?_
                simp only [Rgd.last, List.getElem?_toArray, List.getElem?_cons_succ, List.getElem?_cons_zero, Option.getD_some]
                rfl
              refine Rgd.op_is (.int .i64 (t.size : Int)) [4] 0 0 rfl rfl rfl (by kernel_rfl) ?_ ?_
              · intro p wx hp1 hp2 hb
                obtain rfl : p = 0 := by omega
                refine Rgd.from_is (some 70) rfl rfl ?_
                refine Rgd.from_nil fun T hT => ?_
                go_wp2
                exact hT _ _ rfl (by first | exact Rgd.Keep.refl _ | exact below_of_dr hw2 | exact hw2 | exact (Below.refl _ _).alloc (Nat.le_refl _) _) (by first | rfl | exact congrArg _ (by decide))
              refine Rgd.op_is (.int .i64 ((512 - t.size : Nat) : Int)) [5] 0 0 rfl rfl rfl (by kernel_rfl) ?_ ?_
              · intro p wx hp1 hp2 hb
                obtain rfl : p = 0 := by omega
                refine Rgd.from_is (some 71) rfl rfl ?_
                refine Rgd.from_nil fun T hT => ?_
                go_wp2
                exact hT _ _ rfl (Rgd.Keep.refl _) (by simp [Rgd.last]; omega)
              refine Rgd.op_of (fun _ w u => MadeZ (512 - t.size) w u) [6] 0 0 rfl rfl ?_ ?_ rfl (by kernel_rfl) ?_ ?_
              · exact fun p w1 w2 v _ hk h => h.below hk
              · exact fun p w1 w2 v h0 h1 => by simp [Rgd.keep] at h1
              · intro p wx hp1 hp2 hb
                obtain rfl : p = 0 := by omega
                refine Rgd.from_is (some 72) rfl rfl ?_
                refine Rgd.from_nil fun T hT => ?_
                have hb : Below wr.heap.size wr wx := hb
                go_wp2_with (at_make; refine wpList_make_row elt_u8 _ rfl _ _ rfl .i64 .i64 ((512 - t.size : Nat) : Int) ((512 - t.size : Nat) : Int) (512 - t.size) rfl rfl rfl rfl (by omega) (by omega) ?_; intro wy hr hsz hk)
                exact hT _ _ rfl hk ⟨_, rfl, hr⟩
              refine Rgd.op_is (.string (zs (512 - t.size))) [7] 0 0 rfl rfl rfl (by kernel_rfl) ?_ ?_
              · intro p wx hp1 hp2 hb
                obtain rfl : p = 0 := by omega
                refine Rgd.from_of (some 73) rfl rfl fun v73 h73 => ?_
                refine Rgd.from_nil fun T hT => ?_
                obtain ⟨bz, rfl, hr⟩ := h73
                have hcv := conv_zeros hr
                go_wp2
                exact hT _ _ rfl (Rgd.Keep.refl _) (by simp [Rgd.last])
              refine Rgd.op_is (.string (t ++ zs (512 - t.size))) [3, 8] 0 0 rfl rfl rfl (by kernel_rfl) ?_ ?_
              · intro p wx hp1 hp2 hb
                obtain rfl : p = 0 := by omega
                refine Rgd.from_is (some 69) rfl rfl ?_
                refine Rgd.from_is (some 74) rfl rfl ?_
                refine Rgd.from_nil fun T hT => ?_
                have hz := zs_size (512 - t.size)
                go_wp2
                exact hT _ _ rfl (Rgd.Keep.refl _) rfl
              refine Rgd.walk_nil [0, 1, 2, 3, 4, 5, 6, 7, 8, 9] (by kernel_rfl) ?_
              intro wx hb
              refine Rgd.from_is (some 66) rfl rfl ?_
              refine Rgd.from_is (some 67) rfl rfl ?_
              refine Rgd.from_is (some 68) rfl rfl ?_
              refine Rgd.from_is (some 69) rfl rfl ?_
              refine Rgd.from_is (some 70) rfl rfl ?_
              refine Rgd.from_is (some 71) rfl rfl ?_
              refine Rgd.from_is (some 72) rfl rfl ?_
              refine Rgd.from_of (some 73) rfl rfl fun v73 h73 => ?_
              refine Rgd.from_is (some 74) rfl rfl ?_
              refine Rgd.from_is (some 75) rfl rfl ?_
              refine Rgd.from_nil ?_
              simp only [List.map, Act.put, List.setIfInBounds_toArray, List.set_cons_zero, List.set_cons_succ]
              have hb : Below wr.heap.size wr wx := hb
              have hbx := below_next hbw hbw.size hb
              by_cases hq : getP d.P (p + 1 + (j : Int)) = t ++ zs (512 - t.size)
              · have h2 := str_iff.2 hq
                go_wp2
                go_roundw
                case rel => exact ⟨k + 1, by go_num, by omega, hbx, below_next hbq hbq.size hb⟩
                case measure => simp [intOf]; omega
              · have h2 := str_no.2 hq
                go_wp2
                go_ret
                exact ⟨false, rfl, fun hC => absurd (HTT.out hC) hq, hbx⟩
            · have HIS := hid (show isS (p + 1 + (j : Int)) = true from isS_iff.2 ⟨by omega, by omega⟩)
              go_wp2_with (fail)
              have HTT := hid (fun hC : CP => show getP d.P (p + 1 + (j : Int)) = (⟨#[]⟩ : ByteArray) ++ zs (512 - (⟨#[]⟩ : ByteArray).size) from HRE.out hC (p + 1 + (j : Int)) (by unfold secs_of; omega) (by omega))
              have htz : (⟨#[]⟩ : ByteArray).size ≤ 512 := by decide
              generalize (⟨#[]⟩ : ByteArray) = t at *
              refine Rgd.wp_region (l := [_, _, _, _, _, _, _, _, _, _]) (tail := [_]) (Rgd.keep wr [] [(0, 0), (0, 0), (0, 0), (0, 0), (0, 0), (0, 0), (0, 0), (0, 0), (0, 0), (0, 0)]) [some 66, some 67, some 68, some 69, some 70, some 71, some 72, some 73, some 74, some 75, some 76] 104 rfl [[], [], [0, 1], [], [], [4], [4, 5], [4, 5, 6], [4, 5, 6, 7], [3, 4, 5, 6, 7, 8]] (by kernel_rfl) (by kernel_rfl) (by kernel_rfl) (by kernel_rfl) (by kernel_rfl) rfl (Rgd.keep_fair) (Rgd.keep_start _) ?_
              refine' Rgd.op_is _ [] 0 0 rfl rfl rfl (by kernel_rfl) ?_ ?_
              rotate_left
              · intro p wx hp1 hp2 hb
                obtain rfl : p = 0 := by omega
                refine Rgd.from_nil fun T hT => ?_
                go_wp2
                refine hT _ _ rfl (by first | exact Rgd.Keep.refl _ | exact below_of_dr hw2 | exact hw2 | exact (Below.refl _ _).alloc (Nat.le_refl _) _) ?_
                simp only [Rgd.last, List.getElem?_toArray, List.getElem?_cons_succ, List.getElem?_cons_zero, Option.getD_some]
                rfl
              refine' Rgd.op_is _ [] 0 0 rfl rfl rfl (by kernel_rfl) ?_ ?_
              rotate_left
              · intro p wx hp1 hp2 hb
                obtain rfl : p = 0 := by omega
                refine Rgd.from_nil fun T hT => ?_
                go_wp2
                refine hT _ _ rfl (by first | exact Rgd.Keep.refl _ | exact below_of_dr hw2 | exact hw2 | exact (Below.refl _ _).alloc (Nat.le_refl _) _) ?_
                simp only [Rgd.last, List.getElem?_toArray, List.getElem?_cons_succ, List.getElem?_cons_zero, Option.getD_some]
                rfl
              refine Rgd.op_is (.string (getP d.P (p + 1 + (j : Int)))) [0, 1] 0 0 rfl rfl rfl (by kernel_rfl) ?_ ?_
              · intro p wx hp1 hp2 hb
                obtain rfl : p = 0 := by omega
                refine Rgd.from_is (some 66) rfl rfl ?_
                refine Rgd.from_is (some 67) rfl rfl ?_
                refine Rgd.from_nil fun T hT => ?_
                have hb : Below wr.heap.size wr wx := hb
                go_wp2_with (fail)
                refine (HPL.out _ (below_next hbw hbw.size hb) (p + 1 + (j : Int)) ⟨by omega, by omega⟩).mono ?_
                rintro e wy ⟨rfl, hk⟩
                go_wp2
                exact hT _ _ rfl hk (by simp [Rgd.last, Dk.plat, HIS.out])
              refine' Rgd.op_is _ [] 0 0 rfl rfl rfl (by kernel_rfl) ?_ ?_
              rotate_left
              · intro p wx hp1 hp2 hb
                obtain rfl : p = 0 := by omega
                refine Rgd.from_nil fun T hT => ?_
                go_wp2
                refine hT _ _ rfl (by first | exact Rgd.Keep.refl _ | exact below_of_dr hw2 | exact hw2 | exact (Below.refl _ _).alloc (Nat.le_refl _) _) ?_
                simp only [Rgd.last, List.getElem?_toArray, List.getElem?_cons_succ, List.getElem?_cons_zero, Option.getD_some]
                rfl
              refine' Rgd.op_is _ [] 0 0 rfl rfl rfl (by kernel_rfl) ?_ ?_
              rotate_left
              · intro p wx hp1 hp2 hb
                obtain rfl : p = 0 := by omega
                refine Rgd.from_nil fun T hT => ?_
                go_wp2
                refine hT _ _ rfl (by first | exact Rgd.Keep.refl _ | exact below_of_dr hw2 | exact hw2 | exact (Below.refl _ _).alloc (Nat.le_refl _) _) ?_
                simp only [Rgd.last, List.getElem?_toArray, List.getElem?_cons_succ, List.getElem?_cons_zero, Option.getD_some]
                rfl
              refine Rgd.op_is (.int .i64 (t.size : Int)) [4] 0 0 rfl rfl rfl (by kernel_rfl) ?_ ?_
              · intro p wx hp1 hp2 hb
                obtain rfl : p = 0 := by omega
                refine Rgd.from_is (some 70) rfl rfl ?_
                refine Rgd.from_nil fun T hT => ?_
                go_wp2
                exact hT _ _ rfl (by first | exact Rgd.Keep.refl _ | exact below_of_dr hw2 | exact hw2 | exact (Below.refl _ _).alloc (Nat.le_refl _) _) (by first | rfl | exact congrArg _ (by decide))
              refine Rgd.op_is (.int .i64 ((512 - t.size : Nat) : Int)) [5] 0 0 rfl rfl rfl (by kernel_rfl) ?_ ?_
              · intro p wx hp1 hp2 hb
                obtain rfl : p = 0 := by omega
                refine Rgd.from_is (some 71) rfl rfl ?_
                refine Rgd.from_nil fun T hT => ?_
                go_wp2
                exact hT _ _ rfl (Rgd.Keep.refl _) (by simp [Rgd.last]; omega)
              refine Rgd.op_of (fun _ w u => MadeZ (512 - t.size) w u) [6] 0 0 rfl rfl ?_ ?_ rfl (by kernel_rfl) ?_ ?_
              · exact fun p w1 w2 v _ hk h => h.below hk
              · exact fun p w1 w2 v h0 h1 => by simp [Rgd.keep] at h1
              · intro p wx hp1 hp2 hb
                obtain rfl : p = 0 := by omega
                refine Rgd.from_is (some 72) rfl rfl ?_
                refine Rgd.from_nil fun T hT => ?_
                have hb : Below wr.heap.size wr wx := hb
                go_wp2_with (at_make; refine wpList_make_row elt_u8 _ rfl _ _ rfl .i64 .i64 ((512 - t.size : Nat) : Int) ((512 - t.size : Nat) : Int) (512 - t.size) rfl rfl rfl rfl (by omega) (by omega) ?_; intro wy hr hsz hk)
                exact hT _ _ rfl hk ⟨_, rfl, hr⟩
              refine Rgd.op_is (.string (zs (512 - t.size))) [7] 0 0 rfl rfl rfl (by kernel_rfl) ?_ ?_
              · intro p wx hp1 hp2 hb
                obtain rfl : p = 0 := by omega
                refine Rgd.from_of (some 73) rfl rfl fun v73 h73 => ?_
                refine Rgd.from_nil fun T hT => ?_
                obtain ⟨bz, rfl, hr⟩ := h73
                have hcv := conv_zeros hr
                go_wp2
                exact hT _ _ rfl (Rgd.Keep.refl _) (by simp [Rgd.last])
              refine Rgd.op_is (.string (t ++ zs (512 - t.size))) [3, 8] 0 0 rfl rfl rfl (by kernel_rfl) ?_ ?_
              · intro p wx hp1 hp2 hb
                obtain rfl : p = 0 := by omega
                refine Rgd.from_is (some 69) rfl rfl ?_
                refine Rgd.from_is (some 74) rfl rfl ?_
                refine Rgd.from_nil fun T hT => ?_
                have hz := zs_size (512 - t.size)
                go_wp2
                exact hT _ _ rfl (Rgd.Keep.refl _) rfl
              refine Rgd.walk_nil [0, 1, 2, 3, 4, 5, 6, 7, 8, 9] (by kernel_rfl) ?_
              intro wx hb
              refine Rgd.from_is (some 66) rfl rfl ?_
              refine Rgd.from_is (some 67) rfl rfl ?_
              refine Rgd.from_is (some 68) rfl rfl ?_
              refine Rgd.from_is (some 69) rfl rfl ?_
              refine Rgd.from_is (some 70) rfl rfl ?_
              refine Rgd.from_is (some 71) rfl rfl ?_
              refine Rgd.from_is (some 72) rfl rfl ?_
              refine Rgd.from_of (some 73) rfl rfl fun v73 h73 => ?_
              refine Rgd.from_is (some 74) rfl rfl ?_
              refine Rgd.from_is (some 75) rfl rfl ?_
              refine Rgd.from_nil ?_
              simp only [List.map, Act.put, List.setIfInBounds_toArray, List.set_cons_zero, List.set_cons_succ]
              have hb : Below wr.heap.size wr wx := hb
              have hbx := below_next hbw hbw.size hb
              by_cases hq : getP d.P (p + 1 + (j : Int)) = t ++ zs (512 - t.size)
              · have h2 := str_iff.2 hq
                go_wp2
                go_roundw
                case rel => exact ⟨k + 1, by go_num, by omega, hbx, below_next hbq hbq.size hb⟩
                case measure => simp [intOf]; omega
              · have h2 := str_no.2 hq
                go_wp2
                go_ret
                exact ⟨false, rfl, fun hC => absurd (HTT.out hC) hq, hbx⟩
      · obtain rfl : k = us.length := by omega
        clear HCL HM hul
        go_wp2
        go_loopw [14] (fun i wz => ∃ k : Nat, i = .int .i64 ((512 * k : Nat) : Int) ∧ k ≤ secs_of s.size ∧ Below w.heap.size w wz) (fun i _ => s.size + 512 - (intOf i).toNat)
        case atStart => exact ⟨0, rfl, by omega, hbw⟩
        case round =>
          obtain ⟨j, rfl, hj, hbz⟩ := hrel
          have hsec : s.size ≤ 512 * secs_of s.size ∧ 512 * secs_of s.size < s.size + 512 := by unfold secs_of; omega
          by_cases q3 : 512 * j < s.size
          · go_wp2_with (fail)
            have hlt : j < secs_of s.size := by omega
            have HIS := hid (show isS (p + 1 + (j : Int)) = true from isS_iff.2 ⟨by omega, by omega⟩)
            have hcut : s.extract (512 * j) (min (512 * (j : Int) + 512) (s.size : Int)).toNat = s.extract (512 * j) (512 * j + 512) := by
              rw [show (min (512 * (j : Int) + 512) (s.size : Int)).toNat = min (512 * j + 512) s.size by omega, extract_min]
            rw [hcut]
            have HTT := hid (fun hC : CP => show getP d.P (p + 1 + (j : Int)) = pad (s.extract (512 * j) (512 * j + 512)) from HCH.out hC j hlt)
            have htz : (s.extract (512 * j) (512 * j + 512)).size ≤ 512 := by rw [ByteArray.size_extract]; omega
            clear hcut
            generalize s.extract (512 * j) (512 * j + 512) = t at *
            refine (HPL.out _ hbz (p + 1 + (j : Int)) ⟨by omega, by omega⟩).mono ?_
            rintro e w5 ⟨rfl, hb6⟩
            have hpl : d.plat (p + 1 + (j : Int)) = getP d.P (p + 1 + (j : Int)) := by unfold Dk.plat; rw [HIS.out]; rfl
            have hgs : (getP d.P (p + 1 + (j : Int))).size = 512 := getP_size HOK.out.P _
            rw [hpl]
            clear hpl
            by_cases hq : (getP d.P (p + 1 + (j : Int))).extract 0 t.size = t
            · have h2 := str_iff.2 hq
              go_wp2
              go_roundw
              case rel => exact ⟨j + 1, by go_num, by omega, below_next hbz hbz.size hb6⟩
              case measure => simp [intOf]; omega
            · have h2 := str_no.2 hq
              go_wp2
              go_ret
              exact ⟨false, rfl, fun hC => absurd (by rw [HTT.out hC]; exact pad_front htz) hq, below_next hbz hbz.size hb6⟩
          · go_wp2
            go_ret
            exact ⟨true, rfl, fun _ => rfl, hbz⟩
  · have h2 := str_no.2 hq
    go_wp2
    go_ret
    exact ⟨false, rfl, fun hC => absurd ((HH.out hC).trans hpadH) hq, hb3⟩
end Go.Proofs.Ythllhnjbddpeoaa
