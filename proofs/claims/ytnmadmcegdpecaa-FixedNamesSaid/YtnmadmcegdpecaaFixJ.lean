/-
  A model's scores: the walk.
-/
import Derived.Test.YtnmadmcegdpecaaFixI
namespace Go.Proofs.Ytnmadmcegdpecaa
open Go.RowKit

theorem score_at {W : List (List Int)} {b x : List Int} {k : Nat} {s : Int} {row : List Int} (hs : b[k]? = some s) (hr : W[k]? = some row) : (List.zipWith (score1 x) b W)[k]? = some (s + isum row x row.length) := by
  rw [List.getElem?_zipWith, hs, hr]; rfl

set_option maxRecDepth 100000 in
set_option maxHeartbeats 2000000 in
theorem fscores_c (p : Par) (A B X : Option Addr) (W : List (List Int)) (b x : List Int) (c d e : Nat) (w : World) (hA : GridI w A W) (hB : Cells w B (b.map (.int .i64))) (hX : Cells w X (x.map (.int .i64)))
    (hl : W.length ≤ 9223372036854775807) (hl' : b.length ≤ 17592186044415) (hl2 : x.length ≤ 9223372036854775807) (hu : Ints W) (hu' : I64s b) (hu2 : I64s x) :
    Calls Try.prog 35 #[pval p, mval A W.length c B b.length d, .slice X x.length e] w (NewInts (scoresS p W b x) w) := by
  go_enter Try.func35, Try.ntmps35
  go_wp2_with (fail)
  have hb2 := (below_alloc w (.cells (pcells p).toArray 40)).alloc (by simp) (.cells #[.slice A W.length c, .slice B b.length d] 44)
  have hP : Row1 ((w.alloc (.cells (pcells p).toArray 40)).alloc (.cells #[.slice A W.length c, .slice B b.length d] 44)) w.heap.size 40 (pcells p) := (row1_new w (pcells p) 40).alloc _
  have hM : Row1 ((w.alloc (.cells (pcells p).toArray 40)).alloc (.cells #[.slice A W.length c, .slice B b.length d] 44)) (w.heap.size + 1) 44 [.slice A W.length c, .slice B b.length d] := by
    have := row1_new (w.alloc (.cells (pcells p).toArray 40)) [.slice A W.length c, .slice B b.length d] 44
    simpa using this
  refine (fmay_c p _ _ _ _ _ _ _ (hA.below hb2) (hB.below hb2) hl (by omega) hu hu').mono ?_
  rintro e w1 ⟨rfl, hb3⟩
  have hb4 := below_next hb2 hb2.size hb3
  have hP1 := hP.below hb3
  have hM1 := hM.below hb3
  clear hP hM hb2 hb3
  obtain ⟨q0, q1, q2, q3, q4, q5, q6, q7, q8, q9, q10, q11⟩ := pars_at hP1
  have cB1 := hM1.cell (k := 1) rfl
  cases hm : mayB p W b with
  | false =>
    have HS := hid (show scoresS p W b x = [] by simp [scoresS, hm])
    clear hm
    go_wp2
    go_ret
    refine ⟨_, rfl, ?_, hb4⟩
    rw [HS.out]
    exact Own.nil _ _ _
  | true =>
  have hF := (mayB_iff p W b).1 hm
  have HF := hid hF
  clear hF
  have hSc : scoresS p W b x = if queryE p x = 0 then List.zipWith (score1 x) b W else [] := by simp [scoresS, hm]
  have HSC := hid hSc
  clear hm hSc
  go_wp2_with (fail)
  refine (query_c p _ _ _ _ (hX.below hb4) hl2 hu2).mono ?_
  rintro e w2 ⟨rfl, hb5⟩
  have hb6 := below_next hb4 hb4.size hb5
  have hM2 := hM1.below hb5
  have cW2 := hM2.cell (k := 0) rfl
  have cB2 := hM2.cell (k := 1) rfl
  clear q0 q1 q2 q3 q4 q5 q6 q7 q8 q9 q10 q11 cB1 hM1 hP1 hb5 hb4
  by_cases hq : queryE p x = 0
  case neg =>
    have HS := hid (show scoresS p W b x = [] by rw [HSC.out, if_neg hq])
    have hq' : (queryE p x != 0) = true := by simpa using hq
    clear hq
    go_wp2
    go_ret
    refine ⟨_, rfl, ?_, hb6⟩
    rw [HS.out]
    exact Own.nil _ _ _
  case pos =>
  have hsc := HSC.out
  rw [if_pos hq] at hsc
  have HQ := hid ((query_iff p x).1 hq)
  have HSC := hid hsc
  have hq' : (queryE p x != 0) = false := by simpa using hq
  clear hq hsc
  go_wp2_with (fail)
  refine (clone_c _ _ _ _ (hB.below hb6) hl').mono ?_
  rintro e w3 ⟨v, rfl, hown, hb7⟩
  have hb8 := below_next hb6 hb6.size hb7
  have hM3 := hM2.below hb7
  have cW3 := hM3.cell (k := 0) rfl
  have hA2 := hA.below hb6
  have hX2 := hX.below hb6
  have hsz := hb6.size
  clear cW2 cB2 hM2 hA hB hX
  go_wp2
  have hWb : W.length = b.length := by have := HF.out.lw; have := HF.out.lb; omega
  obtain ⟨sc, hsc⟩ : ∃ sc, List.zipWith (score1 x) b W = sc := ⟨_, rfl⟩
  have hscl : sc.length = b.length := by rw [← hsc, List.length_zipWith]; omega
  rw [hsc] at HSC
  have HX := hid (⟨hWb, hsc, hscl⟩ : _ ∧ _ ∧ _)
  clear hWb hsc hscl
  go_loopw [8, 9, 10, 11, 28] (fun _ _ _ _ i wr => ∃ k : Nat, i = .int .i64 k ∧ k ≤ W.length ∧ Own wr w2.heap.size 2 v ((mix sc b k).map (.int .i64)) ∧ Below w2.heap.size w2 wr) (fun _ _ _ _ i _ => W.length - (intOf i).toNat)
  case atStart => exact ⟨0, rfl, by omega, by rw [mix_zero]; exact hown, hb7⟩
  case round =>
    obtain ⟨k, rfl, hk, hownr, hbr⟩ := hrel
    rename_i wr
    by_cases hlt : k < W.length
    · obtain ⟨row, hrow⟩ := get_of_lt hlt
      have hltb : k < b.length := by have := HX.out.1; omega
      obtain ⟨s, hs⟩ := get_of_lt hltb
      obtain ⟨o1, off1, A', c', rfl, hc0, hcs, hln⟩ := hA2.at_ hrow
      have hc1 := (hbr.cell (lt_of_cell hc0)).trans hc0
      have hsck : sc[k]? = some (s + isum row x row.length) := by rw [← HX.out.2.1]; exact score_at hs hrow
      have hmixl : (mix sc b k).length = b.length := mix_len HX.out.2.2 (by omega)
      have hmixk : (mix sc b k)[k]? = some s := by rw [mix_at HX.out.2.2 hltb]; exact hs
      have hstart : (mix sc b k).set k (s + isum row x 0) = mix sc b k := by
        simp only [isum, Int.add_zero]
        apply List.ext_getElem?
        intro i
        rw [List.getElem?_set]
        split
        · rename_i h; subst h
          rw [hmixk]; simp; omega
        · rfl
      have hend : (mix sc b k).set k (s + isum row x row.length) = mix sc b (k + 1) := mix_set HX.out.2.2 hltb hsck
      have HE := hid (⟨hmixl, hend, hs, hrow, hsck, hmixk⟩ : _ ∧ _ ∧ _ ∧ _ ∧ _ ∧ _)
      have HST := hid hstart
      have HLT := hid hltb
      clear hmixl hend hs hrow hsck hmixk hstart hltb
      go_wp2
      go_loopw [10, 11, 35] (fun _ _ i w4 => ∃ i' : Nat, i = .int .i64 i' ∧ i' ≤ row.length ∧ Own w4 w2.heap.size 2 v (((mix sc b k).set k (s + isum row x i')).map (.int .i64)) ∧ Below w2.heap.size w2 w4) (fun _ _ i _ => row.length - (intOf i).toNat)
      case atStart => exact ⟨0, rfl, by omega, by rw [HST.out]; exact hownr, hbr⟩
      case round =>
        obtain ⟨i, rfl, hi, hown4, hb9⟩ := hrel
        rename_i w4
        by_cases hlt2 : i < row.length
        · have hF := HF.out
          have hQ := HQ.out
          obtain ⟨hmixl, hend, hs, hrow, hsck, hmixk⟩ := HE.out
          have hrm := List.mem_of_getElem? hrow
          have hrl := (hF.rows row hrm).1
          have hrb := (hF.rows row hrm).2
          have hltb := HLT.out
          obtain ⟨n, hn⟩ := get_of_lt hlt2
          obtain ⟨xi, hxi⟩ := get_of_lt (l := x) (show i < x.length by have := hQ.len; omega)
          obtain ⟨o2, off2, rfl, hc2⟩ := (hcs.below hb9).at_map hn
          obtain ⟨o3, off3, rfl, hc3⟩ := (hX2.below hb9).at_map hxi
          have hib := isum_bound row x p.M p.X hF.fits.M0 hF.fits.X0 hrb hQ.near
          have hnb := hrb n (List.mem_of_getElem? hn)
          have hxb := hQ.near xi (List.mem_of_getElem? hxi)
          have hsb := hF.shifts s (List.mem_of_getElem? hs)
          have hM := hF.fits.M
          have hXm := hF.fits.X
          have hMX : p.M * p.X ≤ 1099511627776 := by
            have h1 := prod_bound p.M p.X 1048576 1048576 ⟨by have := hF.fits.M0; omega, hM⟩ ⟨by have := hF.fits.X0; omega, hXm⟩
            omega
          have hpb := prod_bound n xi p.M p.X hnb hxb
          have hi4 : (i : Int) ≤ 3 := by have := hF.fits.D; omega
          have hstep : isum row x (i + 1) = isum row x i + n * xi := by
            simp only [isum, List.getD_eq_getElem?_getD, hn, hxi, Option.getD_some]
          have hset : ((mix sc b k).set k (s + isum row x i)).set k (s + isum row x (i + 1)) = (mix sc b k).set k (s + isum row x (i + 1)) := by simp
          have hbd0 := hib i
          have hbd : -3298534883328 ≤ isum row x i ∧ isum row x i ≤ 3298534883328 := by
            have h3 : (i : Int) * (p.M * p.X) ≤ 3 * 1099511627776 := by
              have h0 : 0 ≤ p.M * p.X := Int.mul_nonneg hF.fits.M0 hF.fits.X0
              exact Int.mul_le_mul hi4 hMX h0 (by omega)
            omega
          obtain ⟨m, hm⟩ : ∃ m, n * xi = m := ⟨_, rfl⟩
          rw [hm] at hstep hpb
          have hTb : -3299534883328 ≤ s + isum row x i ∧ s + isum row x i ≤ 3299534883328 := by omega
          have hT' : s + isum row x (i + 1) = (s + isum row x i) + m := by omega
          have hlenx : (((mix sc b k).set k (s + isum row x i)).map (Value.int .i64)).length = b.length := by simp [hmixl]
          have hgetx : (((mix sc b k).set k (s + isum row x i)).map (Value.int .i64))[k]? = some (.int .i64 (s + isum row x i)) := by
            rw [List.getElem?_map, List.getElem?_set_self (by omega)]; rfl
          have hsetx : ((((mix sc b k).set k (s + isum row x i)).map (Value.int .i64)).set k (.int .i64 ((s + isum row x i) + m))) = ((mix sc b k).set k (s + isum row x (i + 1))).map (.int .i64) := by
            rw [← hT', ← List.map_set, hset]
          obtain ⟨Tt, hTt⟩ : ∃ T, s + isum row x i = T := ⟨_, rfl⟩
          rw [hTt] at hTb hT' hlenx hgetx hsetx hown4
          obtain ⟨g, cap, hv, hg, hglt, hcell, hfro, _⟩ := hown4.row (by rw [hlenx]; omega)
          rw [hlenx] at hv
          subst hv
          have hkc := hcell k _ hgetx
          have hown5 := hown4
          have hmb1 : -1099511627776 ≤ m := by omega
          have hmb2 : m ≤ 1099511627776 := by omega
          have hix : i < x.length := by have := hQ.len; omega
          have hTb1 := hTb.1
          have hTb2 := hTb.2
          have HBIG := hid (⟨hlenx, hsetx, hgetx⟩ : _ ∧ _ ∧ _)
          clear hF hQ hmixl hend hs hrow hsck hmixk hrm hrl hrb hib hnb hsb hM hXm hMX hlenx hsetx hT' hstep hset hTt hbd0 hbd hcell hfro hgetx hown4 hn hxi hi4 hcs hc0 hc1 hpb hTb hxb
          go_wp2
          refine Rg.wp_region (l := [_, _, _, _, _, _, _, _, _, _, _, _]) (tail := [_]) (Rg.grows _ 13) [some 40, some 41, some 42, some 43, some 44, some 45, some 46, some 47, some 48, some 49, some 50, some 51, none] 55 (by kernel_rfl) (by kernel_rfl) (by kernel_rfl) rfl (Rg.grows_fair _ _) (Rg.keep_drew _) (trivial) ?_
          refine' Rg.op_is _ [] rfl rfl (by kernel_rfl) ?_ ?_
          rotate_left
          · intro wx hb
            refine Rg.from_nil fun T hT => ?_
            go_wp2
            refine hT _ _ rfl (by first | exact Rg.Keep.refl _ | exact below_of_dr hw2 | exact hw2 | exact (Below.refl _ _).alloc (Nat.le_refl _) _) ?_
            simp only [Rg.last, List.getElem?_toArray, List.getElem?_cons_succ, List.getElem?_cons_zero, Option.getD_some]
            rfl
          refine' Rg.op_is _ [] rfl rfl (by kernel_rfl) ?_ ?_
          rotate_left
          · intro wx hb
            refine Rg.from_nil fun T hT => ?_
            go_wp2
            refine hT _ _ rfl (by first | exact Rg.Keep.refl _ | exact below_of_dr hw2 | exact hw2 | exact (Below.refl _ _).alloc (Nat.le_refl _) _) ?_
            simp only [Rg.last, List.getElem?_toArray, List.getElem?_cons_succ, List.getElem?_cons_zero, Option.getD_some]
            rfl
          refine' Rg.op_is _ [0, 1] rfl rfl (by kernel_rfl) ?_ ?_
          rotate_left
          · intro wx hb
            refine Rg.from_is (some 40) rfl rfl ?_
            refine Rg.from_is (some 41) rfl rfl ?_
            refine Rg.from_nil fun T hT => ?_
            go_wp2
            refine hT _ _ rfl (by first | exact Rg.Keep.refl _ | exact below_of_dr hw2 | exact hw2 | exact (Below.refl _ _).alloc (Nat.le_refl _) _) ?_
            simp only [Rg.last, List.getElem?_toArray, List.getElem?_cons_succ, List.getElem?_cons_zero, Option.getD_some]
            rfl
          refine Rg.op_is (.int .i64 Tt) [2] rfl rfl (by kernel_rfl) ?_ ?_
          · intro wx hb
            refine Rg.from_is (some 42) rfl rfl ?_
            refine Rg.from_nil fun T hT => ?_
            have hkc' := (hb.cell (lt_of_cell hkc)).trans hkc
            go_wp2
            exact hT _ _ rfl (by first | exact Rg.Keep.refl _ | exact below_of_dr hw2 | exact hw2 | exact (Below.refl _ _).alloc (Nat.le_refl _) _) (by first | rfl | exact congrArg _ (by decide))
          refine' Rg.op_is _ [] rfl rfl (by kernel_rfl) ?_ ?_
          rotate_left
          · intro wx hb
            refine Rg.from_nil fun T hT => ?_
            go_wp2
            refine hT _ _ rfl (by first | exact Rg.Keep.refl _ | exact below_of_dr hw2 | exact hw2 | exact (Below.refl _ _).alloc (Nat.le_refl _) _) ?_
            simp only [Rg.last, List.getElem?_toArray, List.getElem?_cons_succ, List.getElem?_cons_zero, Option.getD_some]
            rfl
          refine' Rg.op_is _ [] rfl rfl (by kernel_rfl) ?_ ?_
          rotate_left
          · intro wx hb
            refine Rg.from_nil fun T hT => ?_
            go_wp2
            refine hT _ _ rfl (by first | exact Rg.Keep.refl _ | exact below_of_dr hw2 | exact hw2 | exact (Below.refl _ _).alloc (Nat.le_refl _) _) ?_
            simp only [Rg.last, List.getElem?_toArray, List.getElem?_cons_succ, List.getElem?_cons_zero, Option.getD_some]
            rfl
          refine' Rg.op_is _ [] rfl rfl (by kernel_rfl) ?_ ?_
          rotate_left
          · intro wx hb
            refine Rg.from_nil fun T hT => ?_
            go_wp2
            refine hT _ _ rfl (by first | exact Rg.Keep.refl _ | exact below_of_dr hw2 | exact hw2 | exact (Below.refl _ _).alloc (Nat.le_refl _) _) ?_
            simp only [Rg.last, List.getElem?_toArray, List.getElem?_cons_succ, List.getElem?_cons_zero, Option.getD_some]
            rfl
          refine' Rg.op_is _ [5, 6] rfl rfl (by kernel_rfl) ?_ ?_
          rotate_left
          · intro wx hb
            refine Rg.from_is (some 45) rfl rfl ?_
            refine Rg.from_is (some 46) rfl rfl ?_
            refine Rg.from_nil fun T hT => ?_
            go_wp2
            refine hT _ _ rfl (by first | exact Rg.Keep.refl _ | exact below_of_dr hw2 | exact hw2 | exact (Below.refl _ _).alloc (Nat.le_refl _) _) ?_
            simp only [Rg.last, List.getElem?_toArray, List.getElem?_cons_succ, List.getElem?_cons_zero, Option.getD_some]
            rfl
          refine Rg.op_is (.int .i64 xi) [7] rfl rfl (by kernel_rfl) ?_ ?_
          · intro wx hb
            refine Rg.from_is (some 47) rfl rfl ?_
            refine Rg.from_nil fun T hT => ?_
            have hc3' := (hb.cell (lt_of_cell hc3)).trans hc3
            go_wp2
            exact hT _ _ rfl (by first | exact Rg.Keep.refl _ | exact below_of_dr hw2 | exact hw2 | exact (Below.refl _ _).alloc (Nat.le_refl _) _) (by first | rfl | exact congrArg _ (by decide))
          refine Rg.op_is (.int .i64 m) [4, 8] rfl rfl (by kernel_rfl) ?_ ?_
          · intro wx hb
            refine Rg.from_is (some 44) rfl rfl ?_
            refine Rg.from_is (some 48) rfl rfl ?_
            refine Rg.from_nil fun T hT => ?_
            go_wp2
            exact hT _ _ rfl (by first | exact Rg.Keep.refl _ | exact below_of_dr hw2 | exact hw2 | exact (Below.refl _ _).alloc (Nat.le_refl _) _) (by first | rfl | exact congrArg _ (by decide))
          refine Rg.op_is (.int .i64 (Tt + m)) [3, 9] rfl rfl (by kernel_rfl) ?_ ?_
          · intro wx hb
            refine Rg.from_is (some 43) rfl rfl ?_
            refine Rg.from_is (some 49) rfl rfl ?_
            refine Rg.from_nil fun T hT => ?_
            go_wp2
            exact hT _ _ rfl (by first | exact Rg.Keep.refl _ | exact below_of_dr hw2 | exact hw2 | exact (Below.refl _ _).alloc (Nat.le_refl _) _) (by first | rfl | exact congrArg _ (by decide))
          refine' Rg.op_is _ [0, 1] rfl rfl (by kernel_rfl) ?_ ?_
          rotate_left
          · intro wx hb
            refine Rg.from_is (some 40) rfl rfl ?_
            refine Rg.from_is (some 41) rfl rfl ?_
            refine Rg.from_nil fun T hT => ?_
            go_wp2
            refine hT _ _ rfl (by first | exact Rg.Keep.refl _ | exact below_of_dr hw2 | exact hw2 | exact (Below.refl _ _).alloc (Nat.le_refl _) _) ?_
            simp only [Rg.last, List.getElem?_toArray, List.getElem?_cons_succ, List.getElem?_cons_zero, Option.getD_some]
            rfl
          refine Rg.walk_nil [0, 1, 2, 3, 4, 5, 6, 7, 8, 9, 10, 11] (by kernel_rfl) ?_
          intro wx hb
          refine Rg.from_is (some 40) rfl rfl ?_
          refine Rg.from_is (some 41) rfl rfl ?_
          refine Rg.from_is (some 42) rfl rfl ?_
          refine Rg.from_is (some 43) rfl rfl ?_
          refine Rg.from_is (some 44) rfl rfl ?_
          refine Rg.from_is (some 45) rfl rfl ?_
          refine Rg.from_is (some 46) rfl rfl ?_
          refine Rg.from_is (some 47) rfl rfl ?_
          refine Rg.from_is (some 48) rfl rfl ?_
          refine Rg.from_is (some 49) rfl rfl ?_
          refine Rg.from_is (some 50) rfl rfl ?_
          refine Rg.from_is (some 51) rfl rfl ?_
          refine Rg.from_nil ?_
          simp only [List.map, Act.put, List.setIfInBounds_toArray, List.set_cons_zero, List.set_cons_succ]
          have hown6 := hown5.below hb
          obtain ⟨g', cap', he, _, _, hcell', hfro', hset'⟩ := hown6.row (by rw [HBIG.out.1]; have := HLT.out; omega)
          simp only [Value.slice.injEq, Option.some.injEq, Addr.mk.injEq] at he
          obtain ⟨⟨rfl, _, _⟩, _, _⟩ := he
          have hkc' := hcell' k _ HBIG.out.2.2
          have hfk := hfro' k
          have hnew := hset' wx rfl k (.int .i64 (Tt + m)) (by rw [HBIG.out.1]; exact HLT.out)
          rw [HBIG.out.2.1] at hnew
          have hb10 := ((hb9.trans (Below.mono hb hb9.size))).setCell (p := ⟨g, k, none⟩) hg (.int .i64 (Tt + m))
          clear hcell' hfro' hset' hown6 hown5 hkc hc3 hc2
          go_wp2
          go_roundw
          case rel => exact ⟨i + 1, by go_num, by omega, hnew, hb10⟩
          case measure => simp [intOf]; omega
        · obtain rfl : i = row.length := by omega
          go_wp2
          go_roundw
          case rel => exact ⟨k + 1, by go_num, by omega, by rw [← HE.out.2.1]; exact hown4, hb9⟩
          case measure => simp [intOf]; omega
    · obtain rfl : k = W.length := by omega
      go_wp2
      go_ret
      rw [HX.out.1, mix_all HX.out.2.2] at hownr
      refine ⟨_, rfl, ?_, hb6.trans (hbr.mono hb6.size)⟩
      rw [HSC.out]
      exact hownr.from_ hb6.size

end Go.Proofs.Ytnmadmcegdpecaa
