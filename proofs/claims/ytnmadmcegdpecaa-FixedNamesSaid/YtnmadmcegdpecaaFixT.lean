/-
  The reference's: a query's numbers, a model's secrets.
-/
import Derived.Test.YtnmadmcegdpecaaFixS
namespace Go.Proofs.Ytnmadmcegdpecaa
open Go.RowKit

theorem padded_at (q : Int) (x : List Int) {d k : Nat} (h : k < d) : (padded (mNums q x) d)[k]? = some (mNum (x.getD k 0) q) := by
  unfold padded
  rcases Nat.lt_or_ge k x.length with h1 | h1
  · rw [List.getElem?_append_left (by simp [mNums]; omega), List.getElem?_take_of_lt h, nums_at' q x h1]
  · rw [List.getElem?_append_right (by simp [mNums]; omega), List.getElem?_replicate, if_pos (by simp [mNums]; omega), List.getD_eq_getElem?_getD, List.getElem?_eq_none h1]
    simp [num_zero]

set_option maxRecDepth 100000 in
set_option maxHeartbeats 2000000 in
theorem rrow_c (p : Par) (hp : p.ok) (A : Option Addr) (x : List Int) (c : Nat) (w : World) (hA : Cells w A (x.map (.int .i64))) (hl : x.length ≤ 9223372036854775807) (hu : I64s x) :
    Calls Try.prog 48 #[pval p, .slice A x.length c] w (NewNums (rowS p x) w) := by
  go_enter Try.func48, Try.ntmps48
  go_wp2_with (fail)
  refine (rfit_c p _).mono ?_
  rintro e w1 ⟨rfl, hb1⟩
  have hb2 := below_next (below_alloc w (.cells (pcells p).toArray 40)) (by simp) hb1
  have hP : Row1 w1 w.heap.size 40 (pcells p) := (row1_new w (pcells p) 40).below hb1
  have hA1 := hA.below hb2
  have hq := hp.Q
  clear hb1 hA
  cases hf : fits p with
  | false =>
    have HF := hid (show rowS p x = [] by simp [rowS, hf])
    clear hf
    go_wp2
    go_ret
    refine ⟨_, rfl, ?_, hb2⟩
    rw [HF.out]
    exact Own.nil _ _ _
  | true =>
  have hF := (fits_iff p).1 hf
  obtain ⟨d, hd⟩ : ∃ d : Nat, p.D = d := ⟨p.D.toNat, by have := hF.D0; omega⟩
  have hd4 : d ≤ 4 := by have := hF.D; omega
  have HR := hid (show rowS p x = padded (mNums p.Q x) d ++ [mNum 1 p.Q] by simp [rowS, hf, hd])
  have cD := hP.cell (k := 8) (u := .int .i64 (d : Int)) (by simp [pcells, hd])
  have cQ := hP.cell (k := 1) (u := .int .u64 p.Q) rfl
  clear hf hF hd
  go_wp2
  go_loopw [5, 6, 7] (fun o i _ wr => ∃ k : Nat, i = .int .i64 k ∧ k ≤ d ∧ Own wr w1.heap.size 23 o (((padded (mNums p.Q x) d).take k).map (.int .u64)) ∧ Below w1.heap.size w1 wr) (fun _ i _ _ => d - (intOf i).toNat)
  case atStart => exact ⟨0, rfl, by omega, by simpa using Own.nil w1 w1.heap.size 23, Below.refl _ _⟩
  case round =>
    obtain ⟨k, rfl, hk, hown, hb⟩ := hrel
    rename_i wr
    have cD1 := (hb.cell (lt_of_cell cD)).trans cD
    have cQ1 := (hb.cell (lt_of_cell cQ)).trans cQ
    by_cases hlt : k < d
    · have hz := padded_at p.Q x hlt
      have hs : ((padded (mNums p.Q x) d).take k).map (Value.int .u64) ++ [Value.int .u64 (mNum (x.getD k 0) p.Q)] = ((padded (mNums p.Q x) d).take (k + 1)).map (Value.int .u64) := by
        rw [take_snoc' hz]; simp
      have hlen : (((padded (mNums p.Q x) d).take k).map (Value.int .u64)).length = k := by simp [padded_len]; omega
      have HS := hid (⟨hs, hlen⟩ : _ ∧ _)
      clear hs hz hlen
      by_cases hx : k < x.length
      · obtain ⟨n, hn⟩ := get_of_lt hx
        obtain ⟨o1, f1, rfl, hc⟩ := (hA1.below hb).at_map hn
        have hgd : x.getD k 0 = n := by rw [List.getD_eq_getElem?_getD, hn]; rfl
        rw [hgd] at HS
        have hun := hu.at_ hn
        clear hgd hn
        go_wp2_with (first | (go_at_call 28; refine (rnum_c _ _ hun hq _).mono ?_; rintro e w2 ⟨rfl, rfl⟩) | (at_builtin; refine wpList_push elt_u64 wr rfl _ _ rfl w1.heap.size hown rfl (.int .u64 (mNum n p.Q)) rfl rfl (by rw [HS.out.2]; omega) (by rw [HS.out.2]; omega) hb.size ?_; intro v' w3 hown3 _ hb3))
        go_roundw
        case rel =>
          rw [HS.out.1] at hown3
          exact ⟨k + 1, by go_num, by omega, hown3, hb.trans hb3⟩
        case measure => simp [intOf]; omega
      · have hgd : x.getD k 0 = 0 := by rw [List.getD_eq_getElem?_getD, List.getElem?_eq_none (by omega)]; rfl
        rw [hgd] at HS
        clear hgd
        go_wp2_with (first | (go_at_call 28; refine (rnum_c _ _ ⟨by decide, by decide⟩ hq _).mono ?_; rintro e w2 ⟨rfl, rfl⟩) | (at_builtin; refine wpList_push elt_u64 wr rfl _ _ rfl w1.heap.size hown rfl (.int .u64 (mNum 0 p.Q)) rfl rfl (by rw [HS.out.2]; omega) (by rw [HS.out.2]; omega) hb.size ?_; intro v' w3 hown3 _ hb3))
        go_roundw
        case rel =>
          rw [HS.out.1] at hown3
          exact ⟨k + 1, by go_num, by omega, hown3, hb.trans hb3⟩
        case measure => simp [intOf]; omega
    · obtain rfl : k = d := by omega
      have hlen : (((padded (mNums p.Q x) k).take k).map (Value.int .u64)).length = k := by simp [padded_len]
      have HS := hid hlen
      clear hlen
      go_wp2_with (first | (go_at_call 28; refine (rnum_c _ _ ⟨by decide, by decide⟩ hq _).mono ?_; rintro e w2 ⟨rfl, rfl⟩) | (at_builtin; refine wpList_push elt_u64 wr rfl _ _ rfl w1.heap.size hown rfl (.int .u64 (mNum 1 p.Q)) rfl rfl (by rw [HS.out]; omega) (by rw [HS.out]; omega) hb.size ?_; intro v' w3 hown3 _ hb3))
      go_ret
      refine ⟨_, rfl, ?_, hb2.trans ((hb.trans hb3).mono hb2.size)⟩
      rw [HR.out, List.map_append, ← List.take_of_length_le (l := padded (mNums p.Q x) k) (i := k) (by rw [padded_len]; exact Nat.le_refl _)]
      exact hown3.from_ hb2.size

set_option maxRecDepth 100000 in
set_option maxHeartbeats 2000000 in
theorem rsecrets_c (p : Par) (hp : p.ok) (A B : Option Addr) (W : List (List Int)) (b : List Int) (c d : Nat) (w : World) (hA : GridI w A W) (hB : Cells w B (b.map (.int .i64)))
    (hl : W.length ≤ 9223372036854775807) (hl' : b.length ≤ 9223372036854775807) (hu : Ints W) (hu' : I64s b) :
    Calls Try.prog 47 #[pval p, mval A W.length c B b.length d] w (NewNums (secretsS p W b) w) := by
  go_enter Try.func47, Try.ntmps47
  go_wp2_with (fail)
  have hb2 := (below_alloc w (.cells (pcells p).toArray 40)).alloc (by simp) (.cells #[.slice A W.length c, .slice B b.length d] 44)
  have hP : Row1 ((w.alloc (.cells (pcells p).toArray 40)).alloc (.cells #[.slice A W.length c, .slice B b.length d] 44)) w.heap.size 40 (pcells p) := (row1_new w (pcells p) 40).alloc _
  have hM : Row1 ((w.alloc (.cells (pcells p).toArray 40)).alloc (.cells #[.slice A W.length c, .slice B b.length d] 44)) (w.heap.size + 1) 44 [.slice A W.length c, .slice B b.length d] := by
    have := row1_new (w.alloc (.cells (pcells p).toArray 40)) [.slice A W.length c, .slice B b.length d] 44
    simpa using this
  refine (rmay_c p _ _ _ _ _ _ _ (hA.below hb2) (hB.below hb2) hl (by omega) hu hu').mono ?_
  rintro e w1 ⟨rfl, hb3⟩
  have hb4 := below_next hb2 hb2.size hb3
  have hP1 := hP.below hb3
  have hM1 := hM.below hb3
  clear hP hM hb2 hb3
  have hA1 := hA.below hb4
  have hB1 := hB.below hb4
  clear hA hB
  cases hm : mayB p W b with
  | false =>
    have HS := hid (show secretsS p W b = [] by simp [secretsS, hm])
    clear hm
    go_wp2
    go_ret
    refine ⟨_, rfl, ?_, hb4⟩
    rw [HS.out]
    exact Own.nil _ _ _
  | true =>
  have HF := hid ((mayB_iff p W b).1 hm)
  have HSC := hid (show secretsS p W b = (List.zipWith (sec1 p.Q) W b).flatten by simp [secretsS, hm])
  clear hm
  obtain ⟨sc, hsc⟩ : ∃ sc, List.zipWith (sec1 p.Q) W b = sc := ⟨_, rfl⟩
  rw [hsc] at HSC
  have hWb : W.length = b.length := by have := HF.out.lw; have := HF.out.lb; omega
  have hscl : sc.length = b.length := by rw [← hsc, List.length_zipWith]; omega
  have hsm : ∀ l ∈ sc, l.length ≤ 5 := by
    intro l hl
    rw [← hsc] at hl
    obtain ⟨i, hi⟩ := List.getElem?_of_mem hl
    rw [List.getElem?_zipWith] at hi
    cases h1 : W[i]? with
    | none => rw [h1] at hi; simp at hi
    | some row =>
      cases h2 : b[i]? with
      | none => rw [h1, h2] at hi; simp at hi
      | some s =>
        rw [h1, h2] at hi
        simp only [Option.some.injEq] at hi
        subst hi
        have := (HF.out.rows row (List.mem_of_getElem? h1)).1
        have := HF.out.fits.D
        simp [sec1, mNums]; omega
  obtain ⟨dd, hdd⟩ : ∃ d : Nat, p.D = d := ⟨p.D.toNat, by have := HF.out.fits.D0; omega⟩
  have hdd4 : dd ≤ 4 := by have := HF.out.fits.D; omega
  have cK := hP1.cell (k := 7) (u := .int .i64 (W.length : Int)) (by rw [HF.out.lw]; rfl)
  have cD := hP1.cell (k := 8) (u := .int .i64 (dd : Int)) (by simp [pcells, hdd])
  have cQ := hP1.cell (k := 1) (u := .int .u64 p.Q) rfl
  have cW := hM1.cell (k := 0) rfl
  have cB := hM1.cell (k := 1) rfl
  have hq := hp.Q
  have HX := hid (⟨hWb, hsc, hscl, hsm, hdd⟩ : _ ∧ _ ∧ _ ∧ _ ∧ _)
  have hW2 : W.length ≤ 2 := by have := HF.out.lw; have := HF.out.fits.K; omega
  clear hWb hsc hscl hsm hdd
  go_wp2
  go_loopw [5, 6, 7] (fun o i _ wr => ∃ k : Nat, i = .int .i64 k ∧ k ≤ W.length ∧ Own wr w1.heap.size 23 o ((sc.take k).flatten.map (.int .u64)) ∧ Below w1.heap.size w1 wr) (fun _ i _ _ => W.length - (intOf i).toNat)
  case atStart => exact ⟨0, rfl, by omega, by simpa using Own.nil w1 w1.heap.size 23, Below.refl _ _⟩
  case round =>
    obtain ⟨k, rfl, hk, hown, hbr⟩ := hrel
    have cK1 := (hbr.cell (lt_of_cell cK)).trans cK
    have cD1 := (hbr.cell (lt_of_cell cD)).trans cD
    have cQ1 := (hbr.cell (lt_of_cell cQ)).trans cQ
    by_cases hlt : k < W.length
    · obtain ⟨row, hrow⟩ := get_of_lt hlt
      have hltb : k < b.length := by have := HX.out.1; omega
      obtain ⟨s, hs⟩ := get_of_lt hltb
      obtain ⟨o1, off1, A', c', rfl, hc0, hcs, hln⟩ := hA1.at_ hrow
      obtain ⟨o2, off2, rfl, hcb⟩ := hB1.at_map hs
      have hsck : sc[k]? = some (mNums p.Q row ++ [mNum s p.Q]) := by
        rw [← HX.out.2.1, List.getElem?_zipWith, hrow, hs]; rfl
      have hur := hu.at_ hrow
      have hus := hu'.at_ hs
      have hrl : row.length = dd := by
        have := (HF.out.rows row (List.mem_of_getElem? hrow)).1
        have := HX.out.2.2.2.2
        omega
      have hxl : ((sc.take k).flatten.map (Value.int .u64)).length ≤ 10 := by
        have h5 : ∀ l ∈ sc.take k, l.length ≤ 5 := fun l hl => HX.out.2.2.2.1 l (List.mem_of_mem_take hl)
        have h6 := flatten_len _ h5
        have h7 : (sc.take k).length ≤ k := by simp; omega
        rw [List.length_map]; omega
      have hfin : ((sc.take k).flatten.map (Value.int .u64) ++ (mNums p.Q row).map (.int .u64)) ++ [Value.int .u64 (mNum s p.Q)] = ((sc.take (k + 1)).flatten).map (.int .u64) := by
        rw [take_snoc' hsck]; simp
      generalize (sc.take k).flatten.map (Value.int .u64) = pre at *
      have HFIN := hid (⟨hfin, hrl⟩ : _ ∧ _)
      clear hfin hsck hs hrow hrl
      go_wp2
      generalize wr = wo at *
      go_loopw [5, 7] (fun o i w4 => ∃ i' : Nat, i = .int .i64 i' ∧ i' ≤ dd ∧ Own w4 w1.heap.size 23 o (pre ++ (mNums p.Q (row.take i')).map (.int .u64)) ∧ Below w1.heap.size w1 w4) (fun _ i _ => dd - (intOf i).toNat)
      case atStart => exact ⟨0, rfl, by omega, by simpa [mNums] using hown, hbr⟩
      case round =>
        obtain ⟨i, rfl, hi, hown4, hb4'⟩ := hrel
        have cD4 := (hb4'.cell (lt_of_cell cD)).trans cD
        have cQ4 := (hb4'.cell (lt_of_cell cQ)).trans cQ
        have cW4 := (hb4'.cell (lt_of_cell cW)).trans cW
        have cB4 := (hb4'.cell (lt_of_cell cB)).trans cB
        have hc4 := (hb4'.cell (lt_of_cell hc0)).trans hc0
        have hcb4 := (hb4'.cell (lt_of_cell hcb)).trans hcb
        by_cases hlt2 : i < dd
        · have hltr : i < row.length := by rw [HFIN.out.2]; exact hlt2
          obtain ⟨n, hn⟩ := get_of_lt hltr
          obtain ⟨o3, off3, rfl, hc3⟩ := (hcs.below hb4').at_map hn
          have hun := hur.at_ hn
          have hlen : (pre ++ (mNums p.Q (row.take i)).map (Value.int .u64)).length ≤ 14 := by simp [mNums]; omega
          have hs2 : (pre ++ (mNums p.Q (row.take i)).map (Value.int .u64)) ++ [Value.int .u64 (mNum n p.Q)] = pre ++ (mNums p.Q (row.take (i + 1))).map (Value.int .u64) := by
            rw [take_snoc' hn]; simp [mNums]
          have HS2 := hid hs2
          clear hs2 hn
          clear cK1 cD1 cQ1 cB4 hcb4
          go_wp2
          refine Rg.wp_region (l := [_, _, _, _, _, _, _, _, _, _, _, _, _]) (tail := [_, _]) (Rg.grows _ 15) [some 24, some 25, some 26, some 27, some 28, some 29, some 30, some 31, some 32, some 33, some 34, some 35, some 36, some 37, some 5] 50 (by kernel_rfl) (by kernel_rfl) (by kernel_rfl) rfl (Rg.grows_fair _ _) (Rg.keep_drew _) (trivial) ?_
          refine' Rg.op_is _ [] rfl rfl (by kernel_rfl) ?_ ?_
          rotate_left
          · intro wx hb
            refine Rg.from_nil fun T hT => ?_
            go_wp2
            refine hT _ _ rfl (by first | exact Rg.Keep.refl _ | exact below_of_dr hw2 | exact hw2 | exact (Below.refl _ _).alloc (Nat.le_refl _) _) ?_
            simp only [Rg.last, List.getElem?_toArray, List.getElem?_cons_succ, List.getElem?_cons_zero, Option.getD_some]
            rfl
          refine' Rg.op_is _ [] rfl rfl (by kernel_rfl) ?_ ?_
          rotate_left
          · intro wx hb
            refine Rg.from_nil fun T hT => ?_
            go_wp2
            refine hT _ _ rfl (by first | exact Rg.Keep.refl _ | exact below_of_dr hw2 | exact hw2 | exact (Below.refl _ _).alloc (Nat.le_refl _) _) ?_
            simp only [Rg.last, List.getElem?_toArray, List.getElem?_cons_succ, List.getElem?_cons_zero, Option.getD_some]
            rfl
          refine Rg.op_is (.slice (some ⟨o1, off1, none⟩) W.length c) [1] rfl rfl (by kernel_rfl) ?_ ?_
          · intro wx hb
            refine Rg.from_is (some 25) rfl rfl ?_
            refine Rg.from_nil fun T hT => ?_
            have g1 := (hb.cell (lt_of_cell cW4)).trans cW4
            go_wp2
            exact hT _ _ rfl (by first | exact Rg.Keep.refl _ | exact below_of_dr hw2 | exact hw2 | exact (Below.refl _ _).alloc (Nat.le_refl _) _) (by first | rfl | exact congrArg _ (by decide))
          refine' Rg.op_is _ [] rfl rfl (by kernel_rfl) ?_ ?_
          rotate_left
          · intro wx hb
            refine Rg.from_nil fun T hT => ?_
            go_wp2
            refine hT _ _ rfl (by first | exact Rg.Keep.refl _ | exact below_of_dr hw2 | exact hw2 | exact (Below.refl _ _).alloc (Nat.le_refl _) _) ?_
            simp only [Rg.last, List.getElem?_toArray, List.getElem?_cons_succ, List.getElem?_cons_zero, Option.getD_some]
            rfl
          refine' Rg.op_is _ [2, 3] rfl rfl (by kernel_rfl) ?_ ?_
          rotate_left
          · intro wx hb
            refine Rg.from_is (some 26) rfl rfl ?_
            refine Rg.from_is (some 27) rfl rfl ?_
            refine Rg.from_nil fun T hT => ?_
            go_wp2
            refine hT _ _ rfl (by first | exact Rg.Keep.refl _ | exact below_of_dr hw2 | exact hw2 | exact (Below.refl _ _).alloc (Nat.le_refl _) _) ?_
            simp only [Rg.last, List.getElem?_toArray, List.getElem?_cons_succ, List.getElem?_cons_zero, Option.getD_some]
            rfl
          refine Rg.op_is (.slice (some ⟨o3, off3, none⟩) row.length c') [4] rfl rfl (by kernel_rfl) ?_ ?_
          · intro wx hb
            refine Rg.from_is (some 28) rfl rfl ?_
            refine Rg.from_nil fun T hT => ?_
            have g1 := (hb.cell (lt_of_cell hc4)).trans hc4
            go_wp2
            exact hT _ _ rfl (by first | exact Rg.Keep.refl _ | exact below_of_dr hw2 | exact hw2 | exact (Below.refl _ _).alloc (Nat.le_refl _) _) (by first | rfl | exact congrArg _ (by decide))
          refine' Rg.op_is _ [] rfl rfl (by kernel_rfl) ?_ ?_
          rotate_left
          · intro wx hb
            refine Rg.from_nil fun T hT => ?_
            go_wp2
            refine hT _ _ rfl (by first | exact Rg.Keep.refl _ | exact below_of_dr hw2 | exact hw2 | exact (Below.refl _ _).alloc (Nat.le_refl _) _) ?_
            simp only [Rg.last, List.getElem?_toArray, List.getElem?_cons_succ, List.getElem?_cons_zero, Option.getD_some]
            rfl
          refine' Rg.op_is _ [5, 6] rfl rfl (by kernel_rfl) ?_ ?_
          rotate_left
          · intro wx hb
            refine Rg.from_is (some 29) rfl rfl ?_
            refine Rg.from_is (some 30) rfl rfl ?_
            refine Rg.from_nil fun T hT => ?_
            go_wp2
            refine hT _ _ rfl (by first | exact Rg.Keep.refl _ | exact below_of_dr hw2 | exact hw2 | exact (Below.refl _ _).alloc (Nat.le_refl _) _) ?_
            simp only [Rg.last, List.getElem?_toArray, List.getElem?_cons_succ, List.getElem?_cons_zero, Option.getD_some]
            rfl
          refine Rg.op_is (.int .i64 n) [7] rfl rfl (by kernel_rfl) ?_ ?_
          · intro wx hb
            refine Rg.from_is (some 31) rfl rfl ?_
            refine Rg.from_nil fun T hT => ?_
            have g1 := (hb.cell (lt_of_cell hc3)).trans hc3
            go_wp2
            exact hT _ _ rfl (by first | exact Rg.Keep.refl _ | exact below_of_dr hw2 | exact hw2 | exact (Below.refl _ _).alloc (Nat.le_refl _) _) (by first | rfl | exact congrArg _ (by decide))
          refine' Rg.op_is _ [] rfl rfl (by kernel_rfl) ?_ ?_
          rotate_left
          · intro wx hb
            refine Rg.from_nil fun T hT => ?_
            go_wp2
            refine hT _ _ rfl (by first | exact Rg.Keep.refl _ | exact below_of_dr hw2 | exact hw2 | exact (Below.refl _ _).alloc (Nat.le_refl _) _) ?_
            simp only [Rg.last, List.getElem?_toArray, List.getElem?_cons_succ, List.getElem?_cons_zero, Option.getD_some]
            rfl
          refine Rg.op_is (.int .u64 p.Q) [9] rfl rfl (by kernel_rfl) ?_ ?_
          · intro wx hb
            refine Rg.from_is (some 33) rfl rfl ?_
            refine Rg.from_nil fun T hT => ?_
            have g1 := (hb.cell (lt_of_cell cQ4)).trans cQ4
            go_wp2
            exact hT _ _ rfl (by first | exact Rg.Keep.refl _ | exact below_of_dr hw2 | exact hw2 | exact (Below.refl _ _).alloc (Nat.le_refl _) _) (by first | rfl | exact congrArg _ (by decide))
          refine Rg.op_is (.int .u64 (mNum n p.Q)) [8, 10] rfl rfl (by kernel_rfl) ?_ ?_
          · intro wx hb
            refine Rg.from_is (some 32) rfl rfl ?_
            refine Rg.from_is (some 34) rfl rfl ?_
            refine Rg.from_nil fun T hT => ?_
            go_wp2_with (go_at_call 28; refine (rnum_c n p.Q hun hq _).mono ?_; rintro e w5 ⟨rfl, rfl⟩)
            exact hT _ _ rfl (Below.refl _ _) rfl
          refine Rg.op_of (fun w' v => ∃ g, v = Value.slice (some ⟨g, 0, none⟩) 1 1 ∧ wr.heap.size ≤ g ∧ Row1 w' g 23 [.int .u64 (mNum n p.Q)]) [11] rfl ?_ ?_ rfl (by kernel_rfl) ?_ ?_
          · exact fun w1 w2 v hk ⟨g, e, h1, h2⟩ => ⟨g, e, h1, h2.below hk⟩
          · exact fun w1 w2 v hk ⟨g, e, h1, h2⟩ => ⟨g, e, h1, h2.below hk⟩
          · intro wx hb
            refine Rg.from_is (some 35) rfl rfl ?_
            refine Rg.from_nil fun T hT => ?_
            go_wp2
            exact hT _ _ rfl (below_alloc _ _) ⟨wx.heap.size, rfl, hb.size, row1_new wx [.int .u64 (mNum n p.Q)] 23⟩
          refine Rg.walk_nil [0, 1, 2, 3, 4, 5, 6, 7, 8, 9, 10, 11, 12] (by kernel_rfl) ?_
          intro wx hb
          refine Rg.from_is (some 24) rfl rfl ?_
          refine Rg.from_is (some 25) rfl rfl ?_
          refine Rg.from_is (some 26) rfl rfl ?_
          refine Rg.from_is (some 27) rfl rfl ?_
          refine Rg.from_is (some 28) rfl rfl ?_
          refine Rg.from_is (some 29) rfl rfl ?_
          refine Rg.from_is (some 30) rfl rfl ?_
          refine Rg.from_is (some 31) rfl rfl ?_
          refine Rg.from_is (some 32) rfl rfl ?_
          refine Rg.from_is (some 33) rfl rfl ?_
          refine Rg.from_is (some 34) rfl rfl ?_
          refine Rg.from_is (some 35) rfl rfl ?_
          refine Rg.from_of (some 36) rfl rfl fun v36 h36 => ?_
          refine Rg.from_nil ?_
          simp only [List.map, Act.put, List.setIfInBounds_toArray, List.set_cons_zero, List.set_cons_succ]
          obtain ⟨g, rfl, hg, hrg⟩ := h36
          have hnew : Own wx w1.heap.size 23 (.slice (some ⟨g, 0, none⟩) 1 1) [.int .u64 (mNum n p.Q)] := by
            simpa using hrg.own (base := w1.heap.size) (by have := hb4'.size; omega) (by simp)
          have hown2 := hown4.below hb
          refine wpList_pushes elt_u64 wx rfl _ _ rfl w1.heap.size hown2 rfl hnew rfl (fun u hu => by simp only [List.mem_singleton] at hu; subst hu; rfl) (by simp at hlen ⊢; omega) (by simp at hlen ⊢; omega) (by have := hb.size; have := hb4'.size; omega) ?_
          intro v' w7 hown7 _ hbel
          rw [HS2.out] at hown7
          have hbw : Below w1.heap.size w1 w7 := (below_next hb4' hb4'.size hb).trans hbel
          clear hbel hb hrg hnew hown2 hown4 hb4' hlen cW4 hc4 cQ4 hc3
          go_wp2
          go_roundw
          case rel => exact ⟨i + 1, by go_num, by omega, hown7, hbw⟩
          case measure => simp [intOf]; omega
        · obtain rfl : i = dd := by omega
          have hlen : (pre ++ (mNums p.Q (row.take i)).map (Value.int .u64)).length ≤ 14 := by simp [mNums]; omega
          have hrt : row.take i = row := List.take_of_length_le (by rw [HFIN.out.2]; exact Nat.le_refl _)
          rw [hrt] at hown4 hlen
          clear hrt cK1 cD1 cQ1 cW4 hc4
          go_wp2
          refine Rg.wp_region (l := [_, _, _, _, _, _, _, _, _, _]) (tail := [_, _]) (Rg.grows _ 12) [some 38, some 39, some 40, some 41, some 42, some 43, some 44, some 45, some 46, some 47, some 48, some 5] 50 (by kernel_rfl) (by kernel_rfl) (by kernel_rfl) rfl (Rg.grows_fair _ _) (Rg.keep_drew _) (trivial) ?_
          refine' Rg.op_is _ [] rfl rfl (by kernel_rfl) ?_ ?_
          rotate_left
          · intro wx hb
            refine Rg.from_nil fun T hT => ?_
            go_wp2
            refine hT _ _ rfl (by first | exact Rg.Keep.refl _ | exact below_of_dr hw2 | exact hw2 | exact (Below.refl _ _).alloc (Nat.le_refl _) _) ?_
            simp only [Rg.last, List.getElem?_toArray, List.getElem?_cons_succ, List.getElem?_cons_zero, Option.getD_some]
            rfl
          refine' Rg.op_is _ [] rfl rfl (by kernel_rfl) ?_ ?_
          rotate_left
          · intro wx hb
            refine Rg.from_nil fun T hT => ?_
            go_wp2
            refine hT _ _ rfl (by first | exact Rg.Keep.refl _ | exact below_of_dr hw2 | exact hw2 | exact (Below.refl _ _).alloc (Nat.le_refl _) _) ?_
            simp only [Rg.last, List.getElem?_toArray, List.getElem?_cons_succ, List.getElem?_cons_zero, Option.getD_some]
            rfl
          refine Rg.op_is (.slice (some ⟨o2, off2, none⟩) b.length d) [1] rfl rfl (by kernel_rfl) ?_ ?_
          · intro wx hb
            refine Rg.from_is (some 39) rfl rfl ?_
            refine Rg.from_nil fun T hT => ?_
            have g1 := (hb.cell (lt_of_cell cB4)).trans cB4
            go_wp2
            exact hT _ _ rfl (by first | exact Rg.Keep.refl _ | exact below_of_dr hw2 | exact hw2 | exact (Below.refl _ _).alloc (Nat.le_refl _) _) (by first | rfl | exact congrArg _ (by decide))
          refine' Rg.op_is _ [] rfl rfl (by kernel_rfl) ?_ ?_
          rotate_left
          · intro wx hb
            refine Rg.from_nil fun T hT => ?_
            go_wp2
            refine hT _ _ rfl (by first | exact Rg.Keep.refl _ | exact below_of_dr hw2 | exact hw2 | exact (Below.refl _ _).alloc (Nat.le_refl _) _) ?_
            simp only [Rg.last, List.getElem?_toArray, List.getElem?_cons_succ, List.getElem?_cons_zero, Option.getD_some]
            rfl
          refine' Rg.op_is _ [2, 3] rfl rfl (by kernel_rfl) ?_ ?_
          rotate_left
          · intro wx hb
            refine Rg.from_is (some 40) rfl rfl ?_
            refine Rg.from_is (some 41) rfl rfl ?_
            refine Rg.from_nil fun T hT => ?_
            go_wp2
            refine hT _ _ rfl (by first | exact Rg.Keep.refl _ | exact below_of_dr hw2 | exact hw2 | exact (Below.refl _ _).alloc (Nat.le_refl _) _) ?_
            simp only [Rg.last, List.getElem?_toArray, List.getElem?_cons_succ, List.getElem?_cons_zero, Option.getD_some]
            rfl
          refine Rg.op_is (.int .i64 s) [4] rfl rfl (by kernel_rfl) ?_ ?_
          · intro wx hb
            refine Rg.from_is (some 42) rfl rfl ?_
            refine Rg.from_nil fun T hT => ?_
            have g1 := (hb.cell (lt_of_cell hcb4)).trans hcb4
            go_wp2
            exact hT _ _ rfl (by first | exact Rg.Keep.refl _ | exact below_of_dr hw2 | exact hw2 | exact (Below.refl _ _).alloc (Nat.le_refl _) _) (by first | rfl | exact congrArg _ (by decide))
          refine' Rg.op_is _ [] rfl rfl (by kernel_rfl) ?_ ?_
          rotate_left
          · intro wx hb
            refine Rg.from_nil fun T hT => ?_
            go_wp2
            refine hT _ _ rfl (by first | exact Rg.Keep.refl _ | exact below_of_dr hw2 | exact hw2 | exact (Below.refl _ _).alloc (Nat.le_refl _) _) ?_
            simp only [Rg.last, List.getElem?_toArray, List.getElem?_cons_succ, List.getElem?_cons_zero, Option.getD_some]
            rfl
          refine Rg.op_is (.int .u64 p.Q) [6] rfl rfl (by kernel_rfl) ?_ ?_
          · intro wx hb
            refine Rg.from_is (some 44) rfl rfl ?_
            refine Rg.from_nil fun T hT => ?_
            have g1 := (hb.cell (lt_of_cell cQ4)).trans cQ4
            go_wp2
            exact hT _ _ rfl (by first | exact Rg.Keep.refl _ | exact below_of_dr hw2 | exact hw2 | exact (Below.refl _ _).alloc (Nat.le_refl _) _) (by first | rfl | exact congrArg _ (by decide))
          refine Rg.op_is (.int .u64 (mNum s p.Q)) [5, 7] rfl rfl (by kernel_rfl) ?_ ?_
          · intro wx hb
            refine Rg.from_is (some 43) rfl rfl ?_
            refine Rg.from_is (some 45) rfl rfl ?_
            refine Rg.from_nil fun T hT => ?_
            go_wp2_with (go_at_call 28; refine (rnum_c s p.Q hus hq _).mono ?_; rintro e w5 ⟨rfl, rfl⟩)
            exact hT _ _ rfl (Below.refl _ _) rfl
          refine Rg.op_of (fun w' v => ∃ g, v = Value.slice (some ⟨g, 0, none⟩) 1 1 ∧ wr.heap.size ≤ g ∧ Row1 w' g 23 [.int .u64 (mNum s p.Q)]) [8] rfl ?_ ?_ rfl (by kernel_rfl) ?_ ?_
          · exact fun w1 w2 v hk ⟨g, e, h1, h2⟩ => ⟨g, e, h1, h2.below hk⟩
          · exact fun w1 w2 v hk ⟨g, e, h1, h2⟩ => ⟨g, e, h1, h2.below hk⟩
          · intro wx hb
            refine Rg.from_is (some 46) rfl rfl ?_
            refine Rg.from_nil fun T hT => ?_
            go_wp2
            exact hT _ _ rfl (below_alloc _ _) ⟨wx.heap.size, rfl, hb.size, row1_new wx [.int .u64 (mNum s p.Q)] 23⟩
          refine Rg.walk_nil [0, 1, 2, 3, 4, 5, 6, 7, 8, 9] (by kernel_rfl) ?_
          intro wx hb
          refine Rg.from_is (some 38) rfl rfl ?_
          refine Rg.from_is (some 39) rfl rfl ?_
          refine Rg.from_is (some 40) rfl rfl ?_
          refine Rg.from_is (some 41) rfl rfl ?_
          refine Rg.from_is (some 42) rfl rfl ?_
          refine Rg.from_is (some 43) rfl rfl ?_
          refine Rg.from_is (some 44) rfl rfl ?_
          refine Rg.from_is (some 45) rfl rfl ?_
          refine Rg.from_is (some 46) rfl rfl ?_
          refine Rg.from_of (some 47) rfl rfl fun v47 h47 => ?_
          refine Rg.from_nil ?_
          simp only [List.map, Act.put, List.setIfInBounds_toArray, List.set_cons_zero, List.set_cons_succ]
          obtain ⟨g, rfl, hg, hrg⟩ := h47
          have hnew : Own wx w1.heap.size 23 (.slice (some ⟨g, 0, none⟩) 1 1) [.int .u64 (mNum s p.Q)] := by
            simpa using hrg.own (base := w1.heap.size) (by have := hb4'.size; omega) (by simp)
          have hown2 := hown4.below hb
          refine wpList_pushes elt_u64 wx rfl _ _ rfl w1.heap.size hown2 rfl hnew rfl (fun u hu => by simp only [List.mem_singleton] at hu; subst hu; rfl) (by simp at hlen ⊢; omega) (by simp at hlen ⊢; omega) (by have := hb.size; have := hb4'.size; omega) ?_
          intro v' w7 hown7 _ hbel
          rw [HFIN.out.1] at hown7
          have hbw : Below w1.heap.size w1 w7 := (below_next hb4' hb4'.size hb).trans hbel
          clear hbel hb hrg hnew hown2 hown4 hb4' hlen cQ4 cB4 hcb4
          go_wp2
          go_roundw
          case rel => exact ⟨k + 1, by go_num, by omega, hown7, hbw⟩
          case measure => simp [intOf]; omega
    · obtain rfl : k = W.length := by omega
      go_wp2
      go_ret
      rw [HX.out.1, ← HX.out.2.2.1, List.take_length] at hown
      refine ⟨_, rfl, ?_, hb4.trans (hbr.mono hb4.size)⟩
      rw [HSC.out]
      exact hown.from_ hb4.size

end Go.Proofs.Ytnmadmcegdpecaa
