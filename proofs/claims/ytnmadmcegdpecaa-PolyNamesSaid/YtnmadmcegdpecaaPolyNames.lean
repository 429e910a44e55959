/-
  PROVED HERE: PolyNames: the examples; no number; what is refused; none, and many.
-/
import Derived.Test.YtnmadmcegdpecaaAwake03
import Derived.Test.YtnmadmcegdpecaaArgs
namespace Go.Proofs.Ytnmadmcegdpecaa
open Go.ChangeShapes Go.WideShapes Go.ChangeAt Go.RowKit

attribute [local go_sem] Oper.semAt_some

def noQs : List Int := [0, 2305843009213693953]
theorem noQs_at {k : Nat} (h : k < 2) : ∃ q, noQs[k]? = some q ∧ okm q = false ∧ U64 q := by
  unfold noQs
  match k, h with
  | 0, _ => exact ⟨_, rfl, by decide, by decide, by decide⟩
  | 1, _ => exact ⟨_, rfl, by decide, by decide, by decide⟩
section
variable {q : Int} (h : okm q = false)
include h
theorem no_deg (l : List Int) : pDeg l q = -1 := by unfold pDeg; rw [if_neg (by rw [h]; decide)]
theorem no_sum (a b : List Int) : pSum a b q = [] := by unfold pSum; rw [if_neg (by rw [h]; decide)]
theorem no_scale (a : List Int) (k : Int) : pScale a k q = [] := by unfold pScale; rw [if_neg (by rw [h]; decide)]
theorem no_times (a b : List Int) : pTimes a b q = [] := by unfold pTimes; rw [if_neg (fun hh => by rw [h] at hh; exact absurd hh.1 (by decide))]
theorem no_unlike (l : List Int) : eUnlike l q = 1 := by unfold eUnlike; rw [if_neg (by rw [h]; decide)]
theorem no_all (l : List Int) : eAll l q = 1 := by rw [eAll_bad (by rw [no_unlike h]; decide), no_unlike h]
theorem no_err (l : List Int) : tErr l l q = 1 := by unfold tErr; rw [if_pos rfl, no_all h]
end
theorem Cells.pre1 {w : World} {A : Option Addr} (h : Cells w A (([1, 2] : List Int).map (.int .u64))) : Cells w A (([1] : List Int).map (.int .u64)) := by
  rcases h with h | ⟨b, off, rfl, h⟩
  · cases h
  · exact .inr ⟨b, off, rfl, fun i u hu => h i u (by cases i with | zero => exact hu | succ i => simp at hu)⟩
theorem many_all {l : List Int} (h : l.length = 1025) : eAll l 2305843009213693951 = 40 := by
  have h1 : eUnlike l 2305843009213693951 = 40 := by unfold eUnlike; rw [if_pos (by decide), if_neg (by omega)]
  rw [eAll_bad (by rw [h1]; decide), h1]
theorem ex_b : eAll [1, 12] 11 = 6 := by
  have h1 : eUnlike [1, 12] 11 = 6 := by decide
  rw [eAll_bad (by rw [h1]; decide), h1]
theorem ex_c : eAll [1, 3] 6 = 5 := by
  refine eAll_no (by decide) fun ha => ?_
  have h1 := (apart_iff.1 ha 0 1 rfl)
  exact not_un (d := 2) ⟨-1, by decide⟩ ⟨3, by decide⟩ (by decide) h1
theorem ex_d : eAll [0, 2, 6] 6 = 6 := by
  have h1 : eUnlike [0, 2, 6] 6 = 6 := by decide
  rw [eAll_bad (by rw [h1]; decide), h1]
theorem ex_e : tErr [1, 2] [1] 11 = 1 := by unfold tErr; rw [if_neg (by decide)]
theorem ex_f : eAll [] 11 = 0 := (units_ok (xs := []) (ivs := []) (by decide)).2.2.1
theorem ex_fv : wList [] 5 11 = [] := by rw [wList_eval [] (by decide)]; rfl
theorem ex_p : tErr [] [] 11 = 0 := (tVal_eval (xs := []) (ys := []) (q := 11) [] (by decide) rfl).1
theorem ex_pv : tVal [] [] 11 = [] := by rw [(tVal_eval (xs := []) (ys := []) (q := 11) [] (by decide) rfl).2]; rfl
theorem ex_one : tErr [9] [15] 11 = 0 := (tVal_eval (xs := [9]) (ys := [15]) (q := 11) [1] (by decide) rfl).1
theorem ex_onev : tVal [9] [15] 11 = [4] := by rw [(tVal_eval (xs := [9]) (ys := [15]) (q := 11) [1] (by decide) rfl).2]; decide
theorem ex_two : eAll [1, 2] 11 = 0 := (units_ok (xs := [1, 2]) (ivs := [10, 1]) (by decide)).2.2.1
theorem ex_twov : wList [1, 2] 2 11 = [0, 1] := by rw [wList_eval [10, 1] (by decide)]; decide
theorem ex_zero : eAll [4] 1 = 0 := (units_ok (xs := [4]) (ivs := [0]) (by decide)).2.2.1
theorem ex_zerov : wList [4] 9 1 = [0] := by rw [wList_eval [0] (by decide)]; decide

set_option maxRecDepth 100000 in
set_option maxHeartbeats 8000000 in
theorem polyNames_c (w : World) : Calls Try.prog 12 #[] w fun e w' => e = .returned (.bool true) ∧ Below w.heap.size w w' := by
  have hq : U64 11 := ⟨by decide, by decide⟩
  go_enter Try.func12, Try.ntmps12
  go_wp2_with (fail)
  refine (awake03_c w).mono ?_
  rintro e w2 ⟨rfl, hbw⟩
  have hl0 := (new_cells w2 [1, 2] 23).more (below_alloc _ (.cells #[.int .u64 0, .int .u64 2305843009213693953] 23))
  have hq0 := new_cells (w2.alloc (.cells #[.int .u64 1, .int .u64 2] 23)) noQs 23
  have hb0 : Below w2.heap.size w2 ((w2.alloc (.cells #[.int .u64 1, .int .u64 2] 23)).alloc (.cells #[.int .u64 0, .int .u64 2305843009213693953] 23)) := (below_alloc w2 _).alloc (by simp) _
  simp only [World.size_alloc] at hq0
  go_wp2
  go_loopw [3, 4, 5, 6, 7, 35] (fun _ _ _ _ _ i wr => ∃ k : Nat, i = .int .i64 k ∧ k ≤ 2 ∧ Cells wr (some ⟨w2.heap.size, 0, none⟩) (([1, 2] : List Int).map (.int .u64)) ∧ Cells wr (some ⟨w2.heap.size + 1, 0, none⟩) (noQs.map (.int .u64)) ∧ Below w2.heap.size w2 wr) (fun _ _ _ _ _ i _ => 2 - (intOf i).toNat)
  case atStart => exact ⟨0, rfl, by omega, hl0, hq0, hb0⟩
  case round =>
    obtain ⟨k, rfl, hk, hl, hqs, hbw2⟩ := hrel
    clear hl0 hq0 hb0
    by_cases hlt : k < 2
    · obtain ⟨q, hqk, hno, huq⟩ := noQs_at hlt
      obtain ⟨o2, off2, he2, hcq⟩ := hqs.at_map hqk
      simp only [Option.some.injEq, Addr.mk.injEq, and_true] at he2
      obtain ⟨rfl, rfl⟩ := he2
      rw [Nat.zero_add] at hcq
      have n1 := mEval_no (l := [1, 2]) (x := 3) hno
      have n2 := no_deg hno [1, 2]
      have n3 := no_sum hno [1, 2] [1, 2]
      have n4 := no_scale hno [1, 2] 3
      have n5 := no_times hno [1, 2] [1, 2]
      have n6 := sameB_none (a := [1, 2]) (b := []) hno
      have n7 := no_all hno [1, 2]
      have n8 := no_err hno [1, 2]
      have HN := hid (⟨n1, n2, n3, n4, n5, n6, n7, n8⟩ : _ ∧ _ ∧ _ ∧ _ ∧ _ ∧ _ ∧ _ ∧ _)
      clear n1 n2 n3 n4 n5 n6 n7 n8 hqk hno
      have hbw3 : Below wr.heap.size wr wr := Below.refl _ _

      go_wp2_with (fail)
      refine (pweights_c (some ⟨w2.heap.size, 0, none⟩) [1, 2] 2 0 q wr hl (by decide) (u64s_of (by decide)) ⟨by decide, by decide⟩ huq).mono ?_
      rintro e x1 ⟨vx1, rfl, ho, hb⟩
      rw [HN.out.2.2.2.2.2.2.1]
      replace hl := hl.more hb
      replace hbw3 := below_next hbw3 hbw3.size hb
      clear hb ho
      go_wp2_with (fail)
      refine (pthrough_c (some ⟨w2.heap.size, 0, none⟩) (some ⟨w2.heap.size, 0, none⟩) [1, 2] [1, 2] 2 2 q x1 hl hl (by decide) (by decide) (u64s_of (by decide)) (u64s_of (by decide)) huq).mono ?_
      rintro e x2 ⟨vx2, rfl, ho, hb⟩
      rw [HN.out.2.2.2.2.2.2.2]
      replace hl := hl.more hb
      replace hbw3 := below_next hbw3 hbw3.size hb
      clear hb ho
      go_wp2_with (fail)
      refine (eval_c (some ⟨w2.heap.size, 0, none⟩) [1, 2] 2 3 q x2 hl (by decide) (u64s_of (by decide)) ⟨by decide, by decide⟩ huq).mono ?_
      rintro e x3 ⟨rfl, hw⟩
      have hb := below_of_dr (B := x2.heap.size) hw
      rw [HN.out.1]
      replace hl := hl.more hb
      replace hbw3 := below_next hbw3 hbw3.size hb
      clear hb hw
      go_wp2_with (fail)
      refine (pdeg_c (some ⟨w2.heap.size, 0, none⟩) [1, 2] 2 q x3 hl (by decide) (u64s_of (by decide)) huq).mono ?_
      rintro e x4 ⟨rfl, hw⟩
      have hb := below_of_eq (Below.refl x3.heap.size x3) hw
      rw [HN.out.2.1]
      replace hl := hl.more hb
      replace hbw3 := below_next hbw3 hbw3.size hb
      clear hb hw
      go_wp2_with (fail)
      refine (psum_c (some ⟨w2.heap.size, 0, none⟩) (some ⟨w2.heap.size, 0, none⟩) [1, 2] [1, 2] 2 2 q x4 hl hl (by decide) (by decide) (u64s_of (by decide)) (u64s_of (by decide)) huq).mono ?_
      rintro e x5 ⟨vx5, rfl, ho, hb⟩
      rw [HN.out.2.2.1] at ho
      obtain ⟨Ax5, cx5, rfl, _⟩ := ho.form
      replace hl := hl.more hb
      replace hbw3 := below_next hbw3 hbw3.size hb
      clear hb ho
      go_wp2_with (fail)
      refine (pscale_c (some ⟨w2.heap.size, 0, none⟩) [1, 2] 2 3 q x5 hl (by decide) (u64s_of (by decide)) ⟨by decide, by decide⟩ huq).mono ?_
      rintro e x6 ⟨vx6, rfl, ho, hb⟩
      rw [HN.out.2.2.2.1] at ho
      obtain ⟨Ax6, cx6, rfl, _⟩ := ho.form
      replace hl := hl.more hb
      replace hbw3 := below_next hbw3 hbw3.size hb
      clear hb ho
      go_wp2_with (fail)
      refine (ptimes_c (some ⟨w2.heap.size, 0, none⟩) (some ⟨w2.heap.size, 0, none⟩) [1, 2] [1, 2] 2 2 q x6 hl hl (by decide) (by decide) (u64s_of (by decide)) (u64s_of (by decide)) huq).mono ?_
      rintro e x7 ⟨vx7, rfl, ho, hb⟩
      rw [HN.out.2.2.2.2.1] at ho
      obtain ⟨Ax7, cx7, rfl, _⟩ := ho.form
      replace hl := hl.more hb
      replace hbw3 := below_next hbw3 hbw3.size hb
      clear hb ho
      go_wp2_with (fail)
      refine (psame_c (some ⟨w2.heap.size, 0, none⟩) none [1, 2] [] 2 0 q x7 hl (.inl rfl) (by decide) (by decide) (u64s_of (by decide)) (u64s_of (by decide)) huq).mono ?_
      rintro e x8 ⟨rfl, hb⟩
      rw [HN.out.2.2.2.2.2.1]
      replace hl := hl.more hb
      replace hbw3 := below_next hbw3 hbw3.size hb
      clear hb
      have hqs2 := hqs.more hbw3
      clear hcq hqs
      go_wp2
      go_roundw
      case rel => exact ⟨k + 1, by go_num, by omega, hl, hqs2, below_next hbw2 hbw2.size hbw3⟩
      case measure => simp [intOf]; omega
    · obtain rfl : k = 2 := by omega
      generalize wr = wo at *
      replace hbw := below_next hbw hbw.size hbw2
      have hlw := lt_of_cell (hl.at_map (k := 0) rfl).choose_spec.choose_spec.2
      clear hqs hbw2
      go_wp2_with (at_make; refine wpList_make_row elt_u64 _ rfl _ _ rfl .i64 .i64 _ _ 1025 rfl rfl rfl rfl (by decide) (by decide) ?_; intro w4 hr4 hs4 hb4)
      have hr5 : ∃ l : List Int, Row1 w4 wo.heap.size 23 (l.map (.int .u64)) ∧ l.length = 1025 ∧ U64s l := ⟨List.replicate 1025 0, by rw [List.map_replicate]; exact hr4, List.length_replicate, fun z hz => by rw [(List.mem_replicate.1 hz).2]; exact ⟨by decide, by decide⟩⟩
      clear hr4 hs4
      go_loopw [9] (fun i wz => ∃ (k : Nat) (l : List Int), i = .int .i64 k ∧ k ≤ 1025 ∧ Row1 wz wo.heap.size 23 (l.map (.int .u64)) ∧ Hid (l.length = 1025 ∧ U64s l) ∧ Below wo.heap.size wo wz) (fun i _ => 1025 - (intOf i).toNat)
      case atStart =>
        obtain ⟨l, h1, h2⟩ := hr5
        exact ⟨0, l, rfl, by omega, h1, h2, hb4⟩
      case round =>
        obtain ⟨k, l, rfl, hk, hr, HL, hb⟩ := hrel
        clear hr5 hb4
        by_cases hlt : k < 1025
        · obtain ⟨z, hz⟩ := get_of_lt (show k < l.length by have := HL.out.1; omega)
          have hcz := hr.cell (k := k) (u := .int .u64 z) (by rw [List.getElem?_map, hz]; rfl)
          have hfz := hr.frozen k
          have hr2 := hr.set k (.int .u64 k)
          rw [← List.map_set] at hr2
          have hb2 := hb.setCell (p := ⟨wo.heap.size, k, none⟩) (Nat.le_refl _) (.int .u64 k)
          have HL2 := hid (⟨by rw [List.length_set]; exact HL.out.1, fun z hz => by
            rcases List.mem_or_eq_of_mem_set hz with h | rfl
            · exact HL.out.2 z h
            · exact ⟨by omega, by omega⟩⟩ : (l.set k (k : Int)).length = 1025 ∧ U64s (l.set k (k : Int)))
          clear hz hr hb
          go_wp2
          go_roundw
          case rel => exact ⟨k + 1, _, by go_num, by omega, hr2, HL2, hb2⟩
          case measure => simp [intOf]; omega
        · obtain rfl : k = 1025 := by omega
          have hcm := hr.cells
          replace hbw := below_next hbw hbw.size hb
          replace hl := hl.more hb
          clear hr
          have hln := HL.out.1
          have hmw := pweights_c (some ⟨wo.heap.size, 0, none⟩) l 1025 0 2305843009213693951 _ hcm (by omega) HL.out.2 ⟨by decide, by decide⟩ ⟨by decide, by decide⟩
          rw [many_all hln, hln] at hmw
          have HMW := hid hmw
          clear hmw hln hb hcm
          go_wp2_with (fail)
          refine HMW.out.mono ?_
          rintro e y0 ⟨vy0, rfl, ho, hs⟩
          replace hl := hl.more hs
          replace hbw := below_next hbw hbw.size hs
          clear ho hs HMW HL

          go_wp2_with (fail)
          refine (pweights_c _ [1, 12] 2 0 11 _ (new_cells y0 [1, 12] 23) (by decide) (u64s_of (by decide)) ⟨by decide, by decide⟩ hq).mono ?_
          rintro e y1 ⟨vy1, rfl, ho, hb⟩
          rw [ex_b]
          have hs := below_next (below_alloc y0 (.cells #[.int .u64 1, .int .u64 12] 23)) (below_alloc y0 (.cells #[.int .u64 1, .int .u64 12] 23)).size hb
          replace hl := hl.more hs
          replace hbw := below_next hbw hbw.size hs
          clear hb hs ho
          go_wp2_with (fail)
          refine (pweights_c _ [1, 3] 2 0 6 _ (new_cells y1 [1, 3] 23) (by decide) (u64s_of (by decide)) ⟨by decide, by decide⟩ ⟨by decide, by decide⟩).mono ?_
          rintro e y2 ⟨vy2, rfl, ho, hb⟩
          rw [ex_c]
          have hs := below_next (below_alloc y1 (.cells #[.int .u64 1, .int .u64 3] 23)) (below_alloc y1 (.cells #[.int .u64 1, .int .u64 3] 23)).size hb
          replace hl := hl.more hs
          replace hbw := below_next hbw hbw.size hs
          clear hb hs ho
          go_wp2_with (fail)
          refine (pweights_c _ [0, 2, 6] 3 0 6 _ (new_cells y2 [0, 2, 6] 23) (by decide) (u64s_of (by decide)) ⟨by decide, by decide⟩ ⟨by decide, by decide⟩).mono ?_
          rintro e y3 ⟨vy3, rfl, ho, hb⟩
          rw [ex_d]
          have hs := below_next (below_alloc y2 (.cells #[.int .u64 0, .int .u64 2, .int .u64 6] 23)) (below_alloc y2 (.cells #[.int .u64 0, .int .u64 2, .int .u64 6] 23)).size hb
          replace hl := hl.more hs
          replace hbw := below_next hbw hbw.size hs
          clear hb hs ho
          go_wp2_with (fail)
          refine (pthrough_c (some ⟨w2.heap.size, 0, none⟩) (some ⟨w2.heap.size, 0, none⟩) [1, 2] [1] 2 2 11 _ hl (hl.pre1) (by decide) (by decide) (u64s_of (by decide)) (u64s_of (by decide)) hq).mono ?_
          rintro e y4 ⟨vy4, rfl, ho, hb⟩
          rw [ex_e]
          have hs := hb
          replace hl := hl.more hs
          replace hbw := below_next hbw hbw.size hs
          clear hb hs ho
          go_wp2_with (fail)
          refine (pweights_c none [] 0 5 11 _ (.inl rfl) (by decide) (u64s_of (by decide)) ⟨by decide, by decide⟩ hq).mono ?_
          rintro e y5 ⟨vy5, rfl, ho, hb⟩
          rw [ex_f]
          rw [ex_fv] at ho
          obtain ⟨Ay5, cy5, rfl, hy5⟩ := ho.form
          have hs := hb
          replace hl := hl.more hs
          replace hbw := below_next hbw hbw.size hs
          clear hb hs ho hy5
          go_wp2_with (fail)
          refine (pthrough_c none none [] [] 0 0 11 _ (.inl rfl) (.inl rfl) (by decide) (by decide) (u64s_of (by decide)) (u64s_of (by decide)) hq).mono ?_
          rintro e y6 ⟨vy6, rfl, ho, hb⟩
          rw [ex_p]
          rw [ex_pv] at ho
          obtain ⟨Ay6, cy6, rfl, hy6⟩ := ho.form
          have hs := hb
          replace hl := hl.more hs
          replace hbw := below_next hbw hbw.size hs
          clear hb hs ho hy6
          go_wp2_with (fail)
          refine (pthrough_c _ _ [9] [15] 1 1 11 _ ((new_cells y6 [9] 23).more (below_alloc _ _)) (by simpa using new_cells (y6.alloc (.cells #[.int .u64 9] 23)) [15] 23) (by decide) (by decide) (u64s_of (by decide)) (u64s_of (by decide)) hq).mono ?_
          rintro e y7 ⟨vy7, rfl, ho, hb⟩
          rw [ex_one]
          rw [ex_onev] at ho
          obtain ⟨Ay7, cy7, rfl, hy7⟩ := ho.form
          have hB : Below y6.heap.size y6 ((y6.alloc (.cells #[.int .u64 9] 23)).alloc (.cells #[.int .u64 15] 23)) := (below_alloc y6 _).alloc (by simp) _
          have hs := below_next hB hB.size hb
          replace hl := hl.more hs
          replace hbw := below_next hbw hbw.size hs
          clear hb hs ho hB
          go_wp2_with (fail)
          refine (pweights_c (some ⟨w2.heap.size, 0, none⟩) [1, 2] 2 2 11 _ hl (by decide) (u64s_of (by decide)) ⟨by decide, by decide⟩ hq).mono ?_
          rintro e y8 ⟨vy8, rfl, ho, hb⟩
          rw [ex_two]
          rw [ex_twov] at ho
          obtain ⟨Ay8, cy8, rfl, hy8⟩ := ho.form
          have hs := hb
          replace hl := hl.more hs
          replace hy7 := hy7.more hs
          replace hbw := below_next hbw hbw.size hs
          clear hb hs ho
          go_wp2_with (fail)
          refine (pweights_c _ [4] 1 9 1 _ (new_cells y8 [4] 23) (by decide) (u64s_of (by decide)) ⟨by decide, by decide⟩ ⟨by decide, by decide⟩).mono ?_
          rintro e y9 ⟨vy9, rfl, ho, hb⟩
          rw [ex_zero]
          rw [ex_zerov] at ho
          obtain ⟨Ay9, cy9, rfl, hy9⟩ := ho.form
          have hs := below_next (below_alloc y8 (.cells #[.int .u64 4] 23)) (below_alloc y8 (.cells #[.int .u64 4] 23)).size hb
          replace hl := hl.more hs
          replace hy7 := hy7.more hs
          replace hy8 := hy8.more hs
          replace hbw := below_next hbw hbw.size hs
          clear hb hs ho
          go_wp2_with (fail)
          refine (numbers_c Ay7 _ [4] [4] cy7 1 _ (hy7.more (below_alloc _ _)) (new_cells y9 [4] 23) (by decide) (by decide)).mono ?_
          rintro e y10 ⟨rfl, hw⟩
          have hb := below_of_dr (B := (y9.alloc (.cells #[.int .u64 4] 23)).heap.size) hw
          rw [show decide (([4] : List Int) = [4]) = true from by decide]
          have hs := below_next (below_alloc y9 (.cells #[.int .u64 4] 23)) (below_alloc y9 (.cells #[.int .u64 4] 23)).size hb
          replace hl := hl.more hs
          replace hy7 := hy7.more hs
          replace hy8 := hy8.more hs
          replace hy9 := hy9.more hs
          replace hbw := below_next hbw hbw.size hs
          clear hb hs hw
          go_wp2_with (fail)
          refine (numbers_c Ay8 _ [0, 1] [0, 1] cy8 2 _ (hy8.more (below_alloc _ _)) (new_cells y10 [0, 1] 23) (by decide) (by decide)).mono ?_
          rintro e y11 ⟨rfl, hw⟩
          have hb := below_of_dr (B := (y10.alloc (.cells #[.int .u64 0, .int .u64 1] 23)).heap.size) hw
          rw [show decide (([0, 1] : List Int) = [0, 1]) = true from by decide]
          have hs := below_next (below_alloc y10 (.cells #[.int .u64 0, .int .u64 1] 23)) (below_alloc y10 (.cells #[.int .u64 0, .int .u64 1] 23)).size hb
          replace hl := hl.more hs
          replace hy7 := hy7.more hs
          replace hy8 := hy8.more hs
          replace hy9 := hy9.more hs
          replace hbw := below_next hbw hbw.size hs
          clear hb hs hw
          go_wp2_with (fail)
          refine (numbers_c Ay9 _ [0] [0] cy9 1 _ (hy9.more (below_alloc _ _)) (new_cells y11 [0] 23) (by decide) (by decide)).mono ?_
          rintro e y12 ⟨rfl, hw⟩
          have hb := below_of_dr (B := (y11.alloc (.cells #[.int .u64 0] 23)).heap.size) hw
          rw [show decide (([0] : List Int) = [0]) = true from by decide]
          have hs := below_next (below_alloc y11 (.cells #[.int .u64 0] 23)) (below_alloc y11 (.cells #[.int .u64 0] 23)).size hb
          replace hl := hl.more hs
          replace hy7 := hy7.more hs
          replace hy8 := hy8.more hs
          replace hy9 := hy9.more hs
          replace hbw := below_next hbw hbw.size hs
          clear hb hs hw
          go_wp2_with (fail)
          refine (pdeg_c _ [11] 1 11 _ (new_cells y12 [11] 23) (by decide) (u64s_of (by decide)) hq).mono ?_
          rintro e y13 ⟨rfl, hw⟩
          have hb := below_of_eq (Below.refl (y12.alloc (.cells #[.int .u64 11] 23)).heap.size (y12.alloc (.cells #[.int .u64 11] 23))) hw
          rw [show pDeg [11] 11 = -1 from by decide]
          have hs := below_next (below_alloc y12 (.cells #[.int .u64 11] 23)) (below_alloc y12 (.cells #[.int .u64 11] 23)).size hb
          replace hl := hl.more hs
          replace hy7 := hy7.more hs
          replace hy8 := hy8.more hs
          replace hy9 := hy9.more hs
          replace hbw := below_next hbw hbw.size hs
          clear hb hs hw
          go_wp2_with (fail)
          refine (pdeg_c none [] 0 11 _ (.inl rfl) (by decide) (u64s_of (by decide)) hq).mono ?_
          rintro e y14 ⟨rfl, hw⟩
          have hb := below_of_eq (Below.refl y13.heap.size y13) hw
          rw [show pDeg [] 11 = -1 from by decide]
          have hs := hb
          replace hl := hl.more hs
          replace hy7 := hy7.more hs
          replace hy8 := hy8.more hs
          replace hy9 := hy9.more hs
          replace hbw := below_next hbw hbw.size hs
          clear hb hs hw
          go_wp2_with (fail)
          refine (eval_c none [] 0 5 11 _ (.inl rfl) (by decide) (u64s_of (by decide)) ⟨by decide, by decide⟩ hq).mono ?_
          rintro e y15 ⟨rfl, hw⟩
          have hb := below_of_dr (B := y14.heap.size) hw
          rw [show mEval [] 5 11 = 0 from by decide]
          have hs := hb
          replace hl := hl.more hs
          replace hy7 := hy7.more hs
          replace hy8 := hy8.more hs
          replace hy9 := hy9.more hs
          replace hbw := below_next hbw hbw.size hs
          clear hb hs hw
          go_wp2_with (fail)
          refine (ptimes_c none (some ⟨w2.heap.size, 0, none⟩) [] [1, 2] 0 2 11 _ (.inl rfl) hl (by decide) (by decide) (u64s_of (by decide)) (u64s_of (by decide)) hq).mono ?_
          rintro e y16 ⟨vy16, rfl, ho, hb⟩
          rw [show pTimes [] [1, 2] 11 = [] from by decide] at ho
          obtain ⟨Ay16, cy16, rfl, hy16⟩ := ho.form
          have hs := hb
          replace hl := hl.more hs
          replace hy7 := hy7.more hs
          replace hy8 := hy8.more hs
          replace hy9 := hy9.more hs
          replace hbw := below_next hbw hbw.size hs
          clear hb hs ho hy16
          go_wp2_with (fail)
          refine (psum_c none (some ⟨w2.heap.size, 0, none⟩) [] [1, 2] 0 2 11 _ (.inl rfl) hl (by decide) (by decide) (u64s_of (by decide)) (u64s_of (by decide)) hq).mono ?_
          rintro e y17 ⟨vy17, rfl, ho, hb⟩
          rw [show pSum [] [1, 2] 11 = [1, 2] from by decide] at ho
          obtain ⟨Ay17, cy17, rfl, hy17⟩ := ho.form
          have hs := hb
          replace hl := hl.more hs
          replace hy7 := hy7.more hs
          replace hy8 := hy8.more hs
          replace hy9 := hy9.more hs
          replace hbw := below_next hbw hbw.size hs
          clear hb hs ho hy17
          go_wp2_with (fail)
          refine (psame_c _ _ [12, 0] [1] 2 1 11 _ ((new_cells y17 [12, 0] 23).more (below_alloc _ _)) (by simpa using new_cells (y17.alloc (.cells #[.int .u64 12, .int .u64 0] 23)) [1] 23) (by decide) (by decide) (u64s_of (by decide)) (u64s_of (by decide)) hq).mono ?_
          rintro e y18 ⟨rfl, hb⟩
          rw [show sameB [12, 0] [1] 11 = true from by decide]
          have hB : Below y17.heap.size y17 ((y17.alloc (.cells #[.int .u64 12, .int .u64 0] 23)).alloc (.cells #[.int .u64 1] 23)) := (below_alloc y17 _).alloc (by simp) _
          have hs := below_next hB hB.size hb
          replace hl := hl.more hs
          replace hy7 := hy7.more hs
          replace hy8 := hy8.more hs
          replace hy9 := hy9.more hs
          replace hbw := below_next hbw hbw.size hs
          clear hb hs hB
          go_wp2_with (fail)
          refine (psame_c _ _ [1, 1] [1] 2 1 11 _ ((new_cells y18 [1, 1] 23).more (below_alloc _ _)) (by simpa using new_cells (y18.alloc (.cells #[.int .u64 1, .int .u64 1] 23)) [1] 23) (by decide) (by decide) (u64s_of (by decide)) (u64s_of (by decide)) hq).mono ?_
          rintro e y19 ⟨rfl, hb⟩
          rw [show sameB [1, 1] [1] 11 = false from by decide]
          have hB : Below y18.heap.size y18 ((y18.alloc (.cells #[.int .u64 1, .int .u64 1] 23)).alloc (.cells #[.int .u64 1] 23)) := (below_alloc y18 _).alloc (by simp) _
          have hs := below_next hB hB.size hb
          replace hl := hl.more hs
          replace hy7 := hy7.more hs
          replace hy8 := hy8.more hs
          replace hy9 := hy9.more hs
          replace hbw := below_next hbw hbw.size hs
          clear hb hs hB
          go_wp2
          go_ret
          exact ⟨rfl, hbw⟩

set_option maxRecDepth 100000 in
theorem polyNames_lifted (os : Os) (started : os.Started) (H : Type) (enc : TypeId × Value → H) :
    ReturnsInHanded {} Try.checked os 12 .any (Rows.polyNamesSpec.pre6 enc Try.prog Try.f12 Rows.polyNamesRow.domain false) (Rows.polyNamesSpec.post enc Try.prog Try.f12 false true false false) := by
  refine returnsInHanded_of_change (C := Try.checked) Try.own started (by kernel_rfl) Try.func12
    (ChangeSpec.witness6 (enc := enc) (C := Try.checked) false ⟨#[], #[], []⟩ 8 (by kernel_rfl) (by kernel_rfl) (by kernel_rfl) (by kernel_rfl)) ?_
  intro W base args ds gs before hval0 hW hcnd _
  have hW' := hW
  obtain ⟨p, q, hA0, hV, rfl, hfz, hnd⟩ := hW
  have hA : DataW.TrodAll enc Try.prog W 0 (fun _ => true) true Try.f12.params.toList args.toList ds p := hA0
  rw [Try.params12] at hA
  obtain ⟨rfl, rfl⟩ := trodVars_none hV
  obtain ⟨l⟩ := args
  obtain ⟨rfl, rfl, rfl⟩ := trodAll_end hA
  clear hA0 hval0
  refine (polyNames_c W).mono fun e W' ⟨he, hb⟩ => ?_
  subst he
  exact ⟨_, rfl, post_true hW' hb Try.laidOut (by kernel_rfl) rfl rfl rfl rfl rfl Try.underlying4⟩

theorem polyNames_holds : Rows.PolyNamesSaid :=
  OpenClaim.holds_of_wide 12 Try.f12 rfl rfl rfl rfl rfl rfl rfl ⟨rfl, rfl, rfl, rfl, rfl⟩ rfl rfl rfl rfl rfl (by kernel_rfl) Try.func12 (by kernel_rfl)
    (of_decide_eq_true (by kernel_rfl)) (by unfold Func.isWrapper; first | (rw [if_pos (by decide +kernel)]; kernel_rfl) | (rw [if_neg (by decide +kernel)]; exact ⟨rfl, rfl⟩))
    (fun os started H enc _ => polyNames_lifted os started H enc)
#print axioms polyNames_holds


end Go.Proofs.Ytnmadmcegdpecaa
