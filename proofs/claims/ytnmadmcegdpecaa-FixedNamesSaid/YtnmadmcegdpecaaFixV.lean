/-
  The reference's scores.
-/
import Derived.Test.YtnmadmcegdpecaaFixU
namespace Go.Proofs.Ytnmadmcegdpecaa
open Go.RowKit

theorem score_step {p : Par} {W : List (List Int)} {b x : List Int} (hF : Fair p W b) (hQ : FairQ p x) {k i : Nat} {row : List Int} {s n xi : Int} (hrow : W[k]? = some row) (hs : b[k]? = some s) (hn : row[i]? = some n) (hxi : x[i]? = some xi) :
    (-3299534883328 ≤ s + isum row x i ∧ s + isum row x i ≤ 3299534883328) ∧ (-1099511627776 ≤ n * xi ∧ n * xi ≤ 1099511627776) ∧ s + isum row x (i + 1) = s + isum row x i + n * xi := by
  have hrm := List.mem_of_getElem? hrow
  have hrl := (hF.rows row hrm).1
  have hrb := (hF.rows row hrm).2
  have hlt := (List.getElem?_eq_some_iff.1 hn).1
  have hib := isum_bound row x p.M p.X hF.fits.M0 hF.fits.X0 hrb hQ.near
  have hnb := hrb n (List.mem_of_getElem? hn)
  have hxb := hQ.near xi (List.mem_of_getElem? hxi)
  have hsb := hF.shifts s (List.mem_of_getElem? hs)
  have hM := hF.fits.M
  have hXm := hF.fits.X
  have hMX : p.M * p.X ≤ 1099511627776 := by
    have h1 := prod_bound p.M p.X 1048576 1048576 ⟨by have := hF.fits.M0; omega, hM⟩ ⟨by have := hF.fits.X0; omega, hXm⟩
    omega
  have hpb := prod_bound n xi p.M p.X hnb hxb
  have hi4 : (i : Int) ≤ 3 := by have := hF.fits.D; omega
  have hstep : isum row x (i + 1) = isum row x i + n * xi := by
    simp only [isum, List.getD_eq_getElem?_getD, hn, hxi, Option.getD_some]
  have hbd0 := hib i
  have hbd : -3298534883328 ≤ isum row x i ∧ isum row x i ≤ 3298534883328 := by
    have h3 : (i : Int) * (p.M * p.X) ≤ 3 * 1099511627776 := by
      have h0 : 0 ≤ p.M * p.X := Int.mul_nonneg hF.fits.M0 hF.fits.X0
      exact Int.mul_le_mul hi4 hMX h0 (by omega)
    omega
  refine ⟨by omega, by omega, by rw [hstep]; omega⟩

set_option maxRecDepth 100000 in
set_option maxHeartbeats 2000000 in
theorem rscores_c (p : Par) (A B X : Option Addr) (W : List (List Int)) (b x : List Int) (c d e : Nat) (w : World) (hA : GridI w A W) (hB : Cells w B (b.map (.int .i64))) (hX : Cells w X (x.map (.int .i64)))
    (hl : W.length ≤ 9223372036854775807) (hl' : b.length ≤ 9223372036854775807) (hl2 : x.length ≤ 9223372036854775807) (hu : Ints W) (hu' : I64s b) (hu2 : I64s x) :
    Calls Try.prog 50 #[pval p, mval A W.length c B b.length d, .slice X x.length e] w (NewInts (scoresS p W b x) w) := by
  go_enter Try.func50, Try.ntmps50
  go_wp2_with (fail)
  have hb2 := (below_alloc w (.cells (pcells p).toArray 40)).alloc (by simp) (.cells #[.slice A W.length c, .slice B b.length d] 44)
  have hP : Row1 ((w.alloc (.cells (pcells p).toArray 40)).alloc (.cells #[.slice A W.length c, .slice B b.length d] 44)) w.heap.size 40 (pcells p) := (row1_new w (pcells p) 40).alloc _
  have hM : Row1 ((w.alloc (.cells (pcells p).toArray 40)).alloc (.cells #[.slice A W.length c, .slice B b.length d] 44)) (w.heap.size + 1) 44 [.slice A W.length c, .slice B b.length d] := by
    have := row1_new (w.alloc (.cells (pcells p).toArray 40)) [.slice A W.length c, .slice B b.length d] 44
    simpa using this
  refine (rmay_c p _ _ _ _ _ _ _ (hA.below hb2) (hB.below hb2) hl (by omega) hu hu').mono ?_
  rintro e w1 ⟨rfl, hb3⟩
  have hb4 := below_next hb2 hb2.size hb3
  have hP1 := hP.below hb3
  have hM1 := hM.below hb3
  clear hP hM hb2 hb3
  obtain ⟨q0, q1, q2, q3, q4, q5, q6, q7, q8, q9, q10, q11⟩ := pars_at hP1
  cases hm : mayB p W b with
  | false =>
    have HS := hid (show scoresS p W b x = [] by simp [scoresS, hm])
    clear hm
    go_wp2
    go_ret
    refine ⟨_, rfl, ?_, hb4⟩
    rw [HS.out]
    exact Own.nil _ _ _
  | true =>
  have hF := (mayB_iff p W b).1 hm
  have HF := hid hF
  clear hF
  have hSc : scoresS p W b x = if queryE p x = 0 then List.zipWith (score1 x) b W else [] := by simp [scoresS, hm]
  have HSC := hid hSc
  clear hm hSc
  go_wp2_with (fail)
  refine (rquery_c p _ _ _ _ (hX.below hb4) hl2 hu2).mono ?_
  rintro e w2 ⟨rfl, hb5⟩
  have hb6 := below_next hb4 hb4.size hb5
  have hM2 := hM1.below hb5
  have hP2 := hP1.below hb5
  clear q0 q1 q2 q3 q4 q5 q6 q7 q8 q9 q10 q11 hM1 hP1 hb5 hb4
  by_cases hq : queryE p x = 0
  case neg =>
    have HS := hid (show scoresS p W b x = [] by rw [HSC.out, if_neg hq])
    have hq' : (queryE p x != 0) = true := by simpa using hq
    clear hq
    go_wp2
    go_ret
    refine ⟨_, rfl, ?_, hb6⟩
    rw [HS.out]
    exact Own.nil _ _ _
  case pos =>
  have hsc := HSC.out
  rw [if_pos hq] at hsc
  have HQ := hid ((query_iff p x).1 hq)
  have HSC := hid hsc
  have hq' : (queryE p x != 0) = false := by simpa using hq
  clear hq hsc
  have hWb : W.length = b.length := by have := HF.out.lw; have := HF.out.lb; omega
  obtain ⟨sc, hsc⟩ : ∃ sc, List.zipWith (score1 x) b W = sc := ⟨_, rfl⟩
  have hscl : sc.length = b.length := by rw [← hsc, List.length_zipWith]; omega
  rw [hsc] at HSC
  obtain ⟨dd, hdd⟩ : ∃ d : Nat, p.D = d := ⟨p.D.toNat, by have := HF.out.fits.D0; omega⟩
  have hdd4 : dd ≤ 4 := by have := HF.out.fits.D; omega
  have cK := hP2.cell (k := 7) (u := .int .i64 (W.length : Int)) (by rw [HF.out.lw]; rfl)
  have cD := hP2.cell (k := 8) (u := .int .i64 (dd : Int)) (by simp [pcells, hdd])
  have cW := hM2.cell (k := 0) rfl
  have cB := hM2.cell (k := 1) rfl
  have hA2 := hA.below hb6
  have hB2 := hB.below hb6
  have hX2 := hX.below hb6
  have HX := hid (⟨hWb, hsc, hscl, hdd⟩ : _ ∧ _ ∧ _ ∧ _)
  have hW2 : W.length ≤ 2 := by have := HF.out.lw; have := HF.out.fits.K; omega
  clear hWb hsc hscl hdd hA hB hX
  go_wp2
  go_loopw [7, 8, 9, 10] (fun o i _ _ wr => ∃ k : Nat, i = .int .i64 k ∧ k ≤ W.length ∧ Own wr w2.heap.size 2 o ((sc.take k).map (.int .i64)) ∧ Below w2.heap.size w2 wr) (fun _ i _ _ _ => W.length - (intOf i).toNat)
  case atStart => exact ⟨0, rfl, by omega, by simpa using Own.nil w2 w2.heap.size 2, Below.refl _ _⟩
  case round =>
    obtain ⟨k, rfl, hk, hown, hbr⟩ := hrel
    have cK1 := (hbr.cell (lt_of_cell cK)).trans cK
    have cB1 := (hbr.cell (lt_of_cell cB)).trans cB
    by_cases hlt : k < W.length
    · obtain ⟨row, hrow⟩ := get_of_lt hlt
      have hltb : k < b.length := by have := HX.out.1; omega
      obtain ⟨s, hs⟩ := get_of_lt hltb
      obtain ⟨o1, off1, A', c', rfl, hc0, hcs, hln⟩ := hA2.at_ hrow
      obtain ⟨o2, off2, rfl, hcb⟩ := hB2.at_map hs
      have hcb1 := (hbr.cell (lt_of_cell hcb)).trans hcb
      have hrl : row.length = dd := by
        have := (HF.out.rows row (List.mem_of_getElem? hrow)).1
        have := HX.out.2.2.2
        omega
      have hsck : sc[k]? = some (s + isum row x dd) := by rw [← HX.out.2.1, ← hrl]; exact score_at hs hrow
      have hxd : x.length = dd := by have := HQ.out.len; have := HX.out.2.2.2; omega
      have hstep := fun i n xi h1 h2 => score_step (i := i) (n := n) (xi := xi) HF.out HQ.out hrow hs h1 h2
      have hfin : (sc.take k).map (Value.int .i64) ++ [Value.int .i64 (s + isum row x dd)] = (sc.take (k + 1)).map (.int .i64) := by
        rw [take_snoc' hsck]; simp
      have hlen : ((sc.take k).map (Value.int .i64)).length = k := by simp; have := HX.out.1; have := HX.out.2.2.1; omega
      have hs0 : s = s + isum row x 0 := by simp [isum]
      generalize (sc.take k).map (Value.int .i64) = pre at *
      have HFIN := hid (⟨hfin, hlen, hrl, hxd, hs0⟩ : _ ∧ _ ∧ _ ∧ _ ∧ _)
      have HSTEP := hid hstep
      clear hfin hlen hrl hxd hsck hs hrow hstep hs0
      go_wp2
      generalize wr = wo at *
      clear cK1 cB1 hcb1
      go_loopw [9, 10] (fun t i w4 => ∃ i' : Nat, i = .int .i64 i' ∧ i' ≤ dd ∧ t = .int .i64 (s + isum row x i') ∧ Below wo.heap.size wo w4) (fun _ i _ => dd - (intOf i).toNat)
      case atStart => exact ⟨0, rfl, by omega, congrArg _ HFIN.out.2.2.2.2, Below.refl _ _⟩
      case round =>
        obtain ⟨i, rfl, hi, rfl, hb7⟩ := hrel
        have hb8 := below_next hbr hbr.size hb7
        have cD4 := (hb8.cell (lt_of_cell cD)).trans cD
        have cW4 := (hb8.cell (lt_of_cell cW)).trans cW
        have hc4 := (hb8.cell (lt_of_cell hc0)).trans hc0
        by_cases hlt2 : i < dd
        · have hltr : i < row.length := by rw [HFIN.out.2.2.1]; exact hlt2
          have hltx : i < x.length := by rw [HFIN.out.2.2.2.1]; exact hlt2
          obtain ⟨n, hn⟩ := get_of_lt hltr
          obtain ⟨xi, hxi⟩ := get_of_lt hltx
          obtain ⟨o3, off3, rfl, hc3⟩ := (hcs.below hb8).at_map hn
          obtain ⟨o4, off4, rfl, hcx⟩ := (hX2.below hb8).at_map hxi
          obtain ⟨⟨t1, t2⟩, ⟨t3, t4⟩, hst⟩ := HSTEP.out i n xi hn hxi
          obtain ⟨m, hm⟩ : ∃ m, n * xi = m := ⟨_, rfl⟩
          rw [hm] at t3 t4 hst
          obtain ⟨Tt, hTt⟩ : ∃ T, s + isum row x i = T := ⟨_, rfl⟩
          rw [hTt] at t1 t2 hst ⊢
          have HST := hid hst
          clear hst hTt hn hxi
          go_wp2
          refine Rg.wp_region (l := [_, _, _, _, _, _, _, _, _, _, _, _, _, _, _]) (tail := [_]) (Rg.grows _ 16) [some 38, some 39, some 40, some 41, some 42, some 43, some 44, some 45, some 46, some 47, some 48, some 49, some 50, some 51, some 52, some 9] 58 (by kernel_rfl) (by kernel_rfl) (by kernel_rfl) rfl (Rg.grows_fair _ _) (Rg.keep_drew _) (trivial) ?_
          refine' Rg.op_is _ [] rfl rfl (by kernel_rfl) ?_ ?_
          rotate_left
          · intro wx hb
            refine Rg.from_nil fun T hT => ?_
            go_wp2
            refine hT _ _ rfl (by first | exact Rg.Keep.refl _ | exact below_of_dr hw2 | exact hw2 | exact (Below.refl _ _).alloc (Nat.le_refl _) _) ?_
            simp only [Rg.last, List.getElem?_toArray, List.getElem?_cons_succ, List.getElem?_cons_zero, Option.getD_some]
            rfl
          refine' Rg.op_is _ [] rfl rfl (by kernel_rfl) ?_ ?_
          rotate_left
          · intro wx hb
            refine Rg.from_nil fun T hT => ?_
            go_wp2
            refine hT _ _ rfl (by first | exact Rg.Keep.refl _ | exact below_of_dr hw2 | exact hw2 | exact (Below.refl _ _).alloc (Nat.le_refl _) _) ?_
            simp only [Rg.last, List.getElem?_toArray, List.getElem?_cons_succ, List.getElem?_cons_zero, Option.getD_some]
            rfl
          refine Rg.op_is (.slice (some ⟨o1, off1, none⟩) W.length c) [1] rfl rfl (by kernel_rfl) ?_ ?_
          · intro wx hb
            refine Rg.from_is (some 39) rfl rfl ?_
            refine Rg.from_nil fun T hT => ?_
            have g1 := (hb.cell (lt_of_cell cW4)).trans cW4
            go_wp2
            exact hT _ _ rfl (by first | exact Rg.Keep.refl _ | exact below_of_dr hw2 | exact hw2 | exact (Below.refl _ _).alloc (Nat.le_refl _) _) (by first | rfl | exact congrArg _ (by decide))
          refine' Rg.op_is _ [] rfl rfl (by kernel_rfl) ?_ ?_
          rotate_left
          · intro wx hb
            refine Rg.from_nil fun T hT => ?_
            go_wp2
            refine hT _ _ rfl (by first | exact Rg.Keep.refl _ | exact below_of_dr hw2 | exact hw2 | exact (Below.refl _ _).alloc (Nat.le_refl _) _) ?_
            simp only [Rg.last, List.getElem?_toArray, List.getElem?_cons_succ, List.getElem?_cons_zero, Option.getD_some]
            rfl
          refine' Rg.op_is _ [2, 3] rfl rfl (by kernel_rfl) ?_ ?_
          rotate_left
          · intro wx hb
            refine Rg.from_is (some 40) rfl rfl ?_
            refine Rg.from_is (some 41) rfl rfl ?_
            refine Rg.from_nil fun T hT => ?_
            go_wp2
            refine hT _ _ rfl (by first | exact Rg.Keep.refl _ | exact below_of_dr hw2 | exact hw2 | exact (Below.refl _ _).alloc (Nat.le_refl _) _) ?_
            simp only [Rg.last, List.getElem?_toArray, List.getElem?_cons_succ, List.getElem?_cons_zero, Option.getD_some]
            rfl
          refine Rg.op_is (.slice (some ⟨o3, off3, none⟩) row.length c') [4] rfl rfl (by kernel_rfl) ?_ ?_
          · intro wx hb
            refine Rg.from_is (some 42) rfl rfl ?_
            refine Rg.from_nil fun T hT => ?_
            have g1 := (hb.cell (lt_of_cell hc4)).trans hc4
            go_wp2
            exact hT _ _ rfl (by first | exact Rg.Keep.refl _ | exact below_of_dr hw2 | exact hw2 | exact (Below.refl _ _).alloc (Nat.le_refl _) _) (by first | rfl | exact congrArg _ (by decide))
          refine' Rg.op_is _ [] rfl rfl (by kernel_rfl) ?_ ?_
          rotate_left
          · intro wx hb
            refine Rg.from_nil fun T hT => ?_
            go_wp2
            refine hT _ _ rfl (by first | exact Rg.Keep.refl _ | exact below_of_dr hw2 | exact hw2 | exact (Below.refl _ _).alloc (Nat.le_refl _) _) ?_
            simp only [Rg.last, List.getElem?_toArray, List.getElem?_cons_succ, List.getElem?_cons_zero, Option.getD_some]
            rfl
          refine' Rg.op_is _ [5, 6] rfl rfl (by kernel_rfl) ?_ ?_
          rotate_left
          · intro wx hb
            refine Rg.from_is (some 43) rfl rfl ?_
            refine Rg.from_is (some 44) rfl rfl ?_
            refine Rg.from_nil fun T hT => ?_
            go_wp2
            refine hT _ _ rfl (by first | exact Rg.Keep.refl _ | exact below_of_dr hw2 | exact hw2 | exact (Below.refl _ _).alloc (Nat.le_refl _) _) ?_
            simp only [Rg.last, List.getElem?_toArray, List.getElem?_cons_succ, List.getElem?_cons_zero, Option.getD_some]
            rfl
          refine Rg.op_is (.int .i64 n) [7] rfl rfl (by kernel_rfl) ?_ ?_
          · intro wx hb
            refine Rg.from_is (some 45) rfl rfl ?_
            refine Rg.from_nil fun T hT => ?_
            have g1 := (hb.cell (lt_of_cell hc3)).trans hc3
            go_wp2
            exact hT _ _ rfl (by first | exact Rg.Keep.refl _ | exact below_of_dr hw2 | exact hw2 | exact (Below.refl _ _).alloc (Nat.le_refl _) _) (by first | rfl | exact congrArg _ (by decide))
          refine' Rg.op_is _ [] rfl rfl (by kernel_rfl) ?_ ?_
          rotate_left
          · intro wx hb
            refine Rg.from_nil fun T hT => ?_
            go_wp2
            refine hT _ _ rfl (by first | exact Rg.Keep.refl _ | exact below_of_dr hw2 | exact hw2 | exact (Below.refl _ _).alloc (Nat.le_refl _) _) ?_
            simp only [Rg.last, List.getElem?_toArray, List.getElem?_cons_succ, List.getElem?_cons_zero, Option.getD_some]
            rfl
          refine' Rg.op_is _ [] rfl rfl (by kernel_rfl) ?_ ?_
          rotate_left
          · intro wx hb
            refine Rg.from_nil fun T hT => ?_
            go_wp2
            refine hT _ _ rfl (by first | exact Rg.Keep.refl _ | exact below_of_dr hw2 | exact hw2 | exact (Below.refl _ _).alloc (Nat.le_refl _) _) ?_
            simp only [Rg.last, List.getElem?_toArray, List.getElem?_cons_succ, List.getElem?_cons_zero, Option.getD_some]
            rfl
          refine' Rg.op_is _ [9, 10] rfl rfl (by kernel_rfl) ?_ ?_
          rotate_left
          · intro wx hb
            refine Rg.from_is (some 47) rfl rfl ?_
            refine Rg.from_is (some 48) rfl rfl ?_
            refine Rg.from_nil fun T hT => ?_
            go_wp2
            refine hT _ _ rfl (by first | exact Rg.Keep.refl _ | exact below_of_dr hw2 | exact hw2 | exact (Below.refl _ _).alloc (Nat.le_refl _) _) ?_
            simp only [Rg.last, List.getElem?_toArray, List.getElem?_cons_succ, List.getElem?_cons_zero, Option.getD_some]
            rfl
          refine Rg.op_is (.int .i64 xi) [11] rfl rfl (by kernel_rfl) ?_ ?_
          · intro wx hb
            refine Rg.from_is (some 49) rfl rfl ?_
            refine Rg.from_nil fun T hT => ?_
            have g1 := (hb.cell (lt_of_cell hcx)).trans hcx
            go_wp2
            exact hT _ _ rfl (by first | exact Rg.Keep.refl _ | exact below_of_dr hw2 | exact hw2 | exact (Below.refl _ _).alloc (Nat.le_refl _) _) (by first | rfl | exact congrArg _ (by decide))
          refine Rg.op_is (.int .i64 m) [8, 12] rfl rfl (by kernel_rfl) ?_ ?_
          · intro wx hb
            refine Rg.from_is (some 46) rfl rfl ?_
            refine Rg.from_is (some 50) rfl rfl ?_
            refine Rg.from_nil fun T hT => ?_
            go_wp2
            exact hT _ _ rfl (by first | exact Rg.Keep.refl _ | exact below_of_dr hw2 | exact hw2 | exact (Below.refl _ _).alloc (Nat.le_refl _) _) (by first | rfl | exact congrArg _ (by decide))
          refine Rg.op_is (.int .i64 (Tt + m)) [0, 13] rfl rfl (by kernel_rfl) ?_ ?_
          · intro wx hb
            refine Rg.from_is (some 38) rfl rfl ?_
            refine Rg.from_is (some 51) rfl rfl ?_
            refine Rg.from_nil fun T hT => ?_
            go_wp2
            exact hT _ _ rfl (by first | exact Rg.Keep.refl _ | exact below_of_dr hw2 | exact hw2 | exact (Below.refl _ _).alloc (Nat.le_refl _) _) (by first | rfl | exact congrArg _ (by decide))
          refine Rg.walk_nil [0, 1, 2, 3, 4, 5, 6, 7, 8, 9, 10, 11, 12, 13, 14] (by kernel_rfl) ?_
          intro wx hb
          refine Rg.from_is (some 38) rfl rfl ?_
          refine Rg.from_is (some 39) rfl rfl ?_
          refine Rg.from_is (some 40) rfl rfl ?_
          refine Rg.from_is (some 41) rfl rfl ?_
          refine Rg.from_is (some 42) rfl rfl ?_
          refine Rg.from_is (some 43) rfl rfl ?_
          refine Rg.from_is (some 44) rfl rfl ?_
          refine Rg.from_is (some 45) rfl rfl ?_
          refine Rg.from_is (some 46) rfl rfl ?_
          refine Rg.from_is (some 47) rfl rfl ?_
          refine Rg.from_is (some 48) rfl rfl ?_
          refine Rg.from_is (some 49) rfl rfl ?_
          refine Rg.from_is (some 50) rfl rfl ?_
          refine Rg.from_is (some 51) rfl rfl ?_
          refine Rg.from_is (some 52) rfl rfl ?_
          refine Rg.from_nil ?_
          simp only [List.map, Act.put, List.setIfInBounds_toArray, List.set_cons_zero, List.set_cons_succ]
          have hb9 := below_next hb7 hb7.size hb
          clear cD4 cW4 hc4 hc3 hcx hb hb7 hb8
          go_wp2
          go_roundw
          case rel => exact ⟨i + 1, by go_num, by omega, by rw [HST.out], hb9⟩
          case measure => simp [intOf]; omega
        · obtain rfl : i = dd := by omega
          have hown4 := hown.below hb7
          go_wp2_with (at_builtin; refine wpList_push elt_i64 wr rfl _ _ rfl w2.heap.size hown4 rfl (.int .i64 (s + isum row x i)) rfl rfl (by rw [HFIN.out.2.1]; omega) (by rw [HFIN.out.2.1]; omega) hb8.size ?_; intro v' w5 hown5 _ hb9)
          go_roundw
          case rel =>
            rw [HFIN.out.1] at hown5
            exact ⟨k + 1, by go_num, by omega, hown5, hb8.trans hb9⟩
          case measure => simp [intOf]; omega
    · obtain rfl : k = W.length := by omega
      go_wp2
      go_ret
      rw [HX.out.1, ← HX.out.2.2.1, List.take_length] at hown
      refine ⟨_, rfl, ?_, hb6.trans (hbr.mono hb6.size)⟩
      rw [HSC.out]
      exact hown.from_ hb6.size

end Go.Proofs.Ytnmadmcegdpecaa
