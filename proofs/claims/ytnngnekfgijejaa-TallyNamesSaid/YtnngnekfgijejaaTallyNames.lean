/-
  PROVED HERE: TallyNames: the examples, the bounds, nobody's tally.
-/
import Derived.Test.YtnngnekfgijejaaTalV
import Derived.Test.YtnngnekfgijejaaTalT
import Derived.Laws.BytesArg
namespace Go.Proofs.Ytnngnekfgijejaa
open Go.ChangeShapes Go.WideShapes Go.ChangeAt Go.RowKit Go.Maps Go.Shelf Go.Proofs

def badN : List Int := [0, -1, 8, 1099511627776]
theorem badN_no (x : Int) (h : x ∈ badN) : x < 1 ∨ 7 < x := by simp only [badN, List.mem_cons, List.not_mem_nil, or_false] at h; omega
theorem badN_i64 (x : Int) (h : x ∈ badN) : -9223372036854775808 ≤ x ∧ x ≤ 9223372036854775807 := by simp only [badN, List.mem_cons, List.not_mem_nil, or_false] at h; omega

/-- what is never put. -/
def badV (lg : ByteArray) : List Vt := [⟨0, 0, 0, 0, ⟨#[]⟩⟩, ⟨0, 0, 3, 0, ⟨#[]⟩⟩, ⟨8, 0, 3, 0, ⟨#[]⟩⟩, ⟨-1, 0, 3, 0, ⟨#[]⟩⟩, ⟨1, -1, 3, 0, ⟨#[]⟩⟩, ⟨1, 100, 3, 0, ⟨#[]⟩⟩, ⟨1, 0, 3, -1, ⟨#[]⟩⟩, ⟨1, 3, 4, 1, ⟨#[]⟩⟩, ⟨1, 0, 3, 0, lg⟩,
  ⟨1, 0, 2, -1, ⟨#[]⟩⟩, ⟨1, 0, 2, 0, ⟨#[120]⟩⟩, ⟨1, 3, 2, 3, ⟨#[120]⟩⟩, ⟨1, 0, 2, -2, ⟨#[120]⟩⟩, ⟨1, 0, 1, 0, ⟨#[120]⟩⟩, ⟨1, 0, 5, 0, ⟨#[120]⟩⟩, ⟨1, 0, 99, 0, ⟨#[]⟩⟩]
theorem badV_ok (lg : ByteArray) (h : (lg.size : Int) = 2049) : ∀ v ∈ badV lg, v.Ok := by
  intro v hv
  simp only [badV, List.mem_cons, List.not_mem_nil, or_false] at hv
  rcases hv with rfl | rfl | rfl | rfl | rfl | rfl | rfl | rfl | rfl | rfl | rfl | rfl | rfl | rfl | rfl | rfl
  case inr.inr.inr.inr.inr.inr.inr.inr.inl => refine ⟨⟨?_, ?_⟩, ⟨?_, ?_⟩, ⟨?_, ?_⟩, ⟨?_, ?_⟩, ?_⟩ <;> simp only <;> omega
  all_goals exact okc _ rfl
theorem badV_no (lg : ByteArray) (h : (lg.size : Int) = 2049) : ∀ v ∈ badV lg, putB 7 [] v = false := by
  intro v hv
  simp only [badV, List.mem_cons, List.not_mem_nil, or_false] at hv
  rcases hv with rfl | rfl | rfl | rfl | rfl | rfl | rfl | rfl | rfl | rfl | rfl | rfl | rfl | rfl | rfl | rfl
  case inr.inr.inr.inr.inr.inr.inr.inr.inl =>
    have h1 : decide (lg.size > 2048) = true := decide_eq_true (by omega)
    simp [putB, mayV, mayE, mayK, hasV]
    omega
  all_goals decide +kernel
theorem badV_end : True := trivial
/-- what is put. -/
def goodV (ls : ByteArray) : List Vt := [⟨7, 99, 4, 0, ls⟩, ⟨1, 3, 2, 2, ⟨#[120]⟩⟩, ⟨1, 99, 2, 0, ⟨#[120]⟩⟩, ⟨1, 3, 3, 0, ⟨#[]⟩⟩]
def gl (ls : ByteArray) : Nat → List Vt
  | 0 => []
  | 1 => [⟨7, 99, 4, 0, ls⟩]
  | 2 => [⟨1, 3, 2, 2, ⟨#[120]⟩⟩, ⟨7, 99, 4, 0, ls⟩]
  | 3 => [⟨1, 3, 2, 2, ⟨#[120]⟩⟩, ⟨1, 99, 2, 0, ⟨#[120]⟩⟩, ⟨7, 99, 4, 0, ls⟩]
  | _ => [⟨1, 3, 2, 2, ⟨#[120]⟩⟩, ⟨1, 3, 3, 0, ⟨#[]⟩⟩, ⟨1, 99, 2, 0, ⟨#[120]⟩⟩, ⟨7, 99, 4, 0, ls⟩]
theorem goodV_ok (ls : ByteArray) (h : (ls.size : Int) = 2048) : ∀ v ∈ goodV ls, v.Ok := by
  intro v hv
  simp only [goodV, List.mem_cons, List.not_mem_nil, or_false] at hv
  rcases hv with rfl | rfl | rfl | rfl
  case inl => refine ⟨⟨?_, ?_⟩, ⟨?_, ?_⟩, ⟨?_, ?_⟩, ⟨?_, ?_⟩, ?_⟩ <;> simp only <;> omega
  all_goals exact okc _ rfl
theorem goodV_may (ls : ByteArray) (h : (ls.size : Int) = 2048) : ∀ v ∈ goodV ls, mayV v 7 = true := by
  intro v hv
  simp only [goodV, List.mem_cons, List.not_mem_nil, or_false] at hv
  rcases hv with rfl | rfl | rfl | rfl
  case inl =>
    have h1 : decide ((ls.size : Int) > 2048) = false := decide_eq_false (by omega)
    simp only [mayV, mayE, mayK, h1]
    rfl
  all_goals decide +kernel
theorem putB_of {v : Vt} {n : Int} {L : List Vt} (h : mayV v n = true) (hn : hasV L v = false) : putB n L v = true := by rw [putB, h, hn]; rfl
theorem putL_of {v : Vt} {n : Int} {L L' : List Vt} (h : mayV v n = true) (hn : hasV L v = false) (hi : ins v L = L') : putL n L v = L' := by rw [putL, putB_of h hn]; exact hi
theorem putB_not {v : Vt} {n : Int} {L : List Vt} (hn : hasV L v = true) : putB n L v = false := by rw [putB, hn]; simp
theorem putL_not {v : Vt} {n : Int} {L : List Vt} (hn : hasV L v = true) : putL n L v = L := by rw [putL, putB_not hn]; rfl
theorem goodV_put (ls : ByteArray) (h : (ls.size : Int) = 2048) : ∀ j x, (goodV ls)[j]? = some x → putB 7 (gl ls j) x = true ∧ putL 7 (gl ls j) x = gl ls (j + 1) ∧ putB 7 (gl ls (j + 1)) x = false ∧ putL 7 (gl ls (j + 1)) x = gl ls (j + 1) := by
  intro j x hx
  have hm := goodV_may ls h x (List.mem_of_getElem? hx)
  have hj : j < 4 := (List.getElem?_eq_some_iff.1 hx).1
  obtain rfl | rfl | rfl | rfl : j = 0 ∨ j = 1 ∨ j = 2 ∨ j = 3 := by omega
  all_goals
    simp only [goodV, List.getElem?_cons_zero, List.getElem?_cons_succ, Option.some.injEq] at hx
    subst hx
    exact ⟨putB_of hm rfl, putL_of hm rfl rfl, putB_not rfl, putL_not rfl⟩
theorem gl_four (ls : ByteArray) (h : (ls.size : Int) = 2048) : ∀ L, gl ls 4 = L → propV L 3 7 = .tuple #[vval zeroVt, .bool false] ∧ rndL L = [3, 99] ∧ sentT 3 L L.length = 1 ∧ sentT 99 L L.length = 2 ∧ sentT 4 L L.length = 0 ∧ cntN (pAll 3 2) L = 1 ∧ cntN (pCnt 99 4 ls) L = 1 ∧ cntN (pCnt 99 4 ⟨#[]⟩) L = 0 := by
  rintro L rfl
  have h1 : (ls.toList == ls.toList) = true := beq_self_eq_true _
  have h2 : (ls.toList == (⟨#[]⟩ : ByteArray).toList) = false := by
    rw [← Bool.not_eq_true]
    intro h3
    rw [beq_iff_eq] at h3
    have h4 := congrArg List.length h3
    have h5 : (⟨#[]⟩ : ByteArray).toList.length = 0 := by decide +kernel
    rw [h5] at h4
    have h6 : ls.toList.length = ls.size := by rw [Lib.toList_data]; exact Array.length_toList
    omega
  refine ⟨rfl, ?_, rfl, rfl, rfl, rfl, ?_, ?_⟩
  · show Lib.compact [3, 3, 99, 99] = [3, 99]
    decide +kernel
  · simp [cntN, gl, pCnt]
  · show (List.filter (pCnt 99 4 ⟨#[]⟩) _).length = 0
    simp only [gl, List.filter_cons, List.filter_nil, pCnt, h2]
    rfl
theorem elt_u8 : Elt Try.prog 41 5 (.int .u8 0) 1 := Elt.of Try.underlying41 (by kernel_rfl) rfl
theorem conv_zeros {w : World} {g : Nat} (h : Row1 w g 5 (List.replicate 2049 (.int .u8 0))) : ∃ lg : ByteArray, (lg.size : Int) = 2049 ∧ (convert 41 9 (.slice (some ⟨g, 0, none⟩) 2049 2049)).run Try.prog w = .ok (.string lg) w := by
  refine ⟨strOfNums (List.replicate 2049 0), ?_, run_convert_bytes_arg w 41 5 Try.underlying41 Try.underlying5 g 0 2049 2049 (List.replicate 2049 0) List.length_replicate (fun i hi => ?_) 9 Try.underlying9⟩
  · rw [strOfNums_size, List.length_replicate]; rfl
  · have := h.cell (k := i) (u := .int .u8 0) (by rw [List.getElem?_replicate, if_pos hi])
    rw [Nat.zero_add, this, List.getD_eq_getElem?_getD, List.getElem?_replicate, if_pos hi]
    rfl

set_option maxRecDepth 100000 in
set_option maxHeartbeats 4000000 in
theorem tallyNames_c (w : World) [DecidableEq Lit] :
    Calls Try.prog 6 #[] w fun e w' => e = .returned (.bool true) ∧ Below w.heap.size w w' := by
  go_enter Try.func6, Try.ntmps6
  go_wp2_with (fail)
  refine (tprop_nil 0 1 w).mono ?_
  rintro e w1 ⟨rfl, hb⟩
  replace hb := hb.alloc hb.size (.cells (vcl zeroVt).toArray 30)
  simp only [List.toArray] at hb
  go_wp2_with (fail)
  refine (awake_c _).mono ?_
  rintro e w2 ⟨rfl, hb'⟩
  replace hb := below_next hb hb.size hb'
  clear hb'
  go_wp2_with (fail)
  refine (tput_nil ⟨1, 0, 3, 0, ⟨#[]⟩⟩ _).mono ?_
  rintro e w3 ⟨rfl, hb'⟩
  replace hb := below_next hb hb.size hb'
  clear hb'
  go_wp2_with (fail)
  refine (votes_nil _).mono ?_
  rintro e _ ⟨rfl, rfl⟩
  go_wp2_with (fail)
  refine (rounds_nil _).mono ?_
  rintro e _ ⟨rfl, rfl⟩
  go_wp2_with (fail)
  refine (tcount_nil 0 3 ⟨#[]⟩ _).mono ?_
  rintro e w4 ⟨rfl, hb'⟩
  replace hb := below_next hb hb.size hb'
  clear hb'
  go_wp2_with (fail)
  refine (tall_nil 0 3 _).mono ?_
  rintro e w5 ⟨rfl, hb'⟩
  replace hb := below_next hb hb.size hb'
  clear hb'
  go_wp2_with (fail)
  refine (tsent_nil 0 _).mono ?_
  rintro e w6 ⟨rfl, hb'⟩
  replace hb := below_next hb hb.size hb'
  clear hb'
  go_wp2_with (fail)
  refine (tcopy_nil _).mono ?_
  rintro e _ ⟨rfl, rfl⟩
  have hr := (row1_new w6 [.int .i64 0, .int .i64 (-1), .int .i64 8, .int .i64 1099511627776] 3)
  have hsz := hb.size
  replace hb := hb.alloc hb.size (.cells #[.int .i64 0, .int .i64 (-1), .int .i64 8, .int .i64 1099511627776] 3)
  simp only [List.toArray] at hr
  go_wp2
  generalize w6.alloc (.cells #[.int .i64 0, .int .i64 (-1), .int .i64 8, .int .i64 1099511627776] 3) = w7 at *
  have hc : Cells w7 (some ⟨w6.heap.size, 0, none⟩) (badN.map (.int .i64)) := hr.cells
  clear hr
  generalize (some ⟨w6.heap.size, 0, none⟩ : Option Addr) = A6 at *
  go_loopw [68] (fun i wo => ∃ j : Nat, i = .int .i64 j ∧ j ≤ 4 ∧ w7 = wo) (fun i _ => 4 - (intOf i).toNat)
  case atStart => exact ⟨0, rfl, by omega, rfl⟩
  case round =>
    obtain ⟨j, rfl, hj, rfl⟩ := hrel
    by_cases hjl : j < 4
    · obtain ⟨x, hx⟩ := get_of_lt (l := badN) (show j < badN.length from hjl)
      have hxb : x < 1 ∨ 7 < x := badN_no x (List.mem_of_getElem? hx)
      have hxi := badN_i64 x (List.mem_of_getElem? hx)
      obtain ⟨b, off, rfl, d0⟩ := hc.at_map hx
      clear hx
      go_wp2_with (fail)
      refine (tnew_no x w7 hxb).mono ?_
      rintro e _ ⟨rfl, rfl⟩
      have hz : ((1 : Int) != 1) = false := rfl
      go_wp2
      go_roundw
      case rel => exact ⟨j + 1, by go_num, by omega, trivial⟩
      case measure => simp [intOf]; omega
    · obtain rfl : j = 4 := by omega
      clear hc
      go_wp2_with (fail)
      refine (tnew_ok 7 w7 (by omega) (by omega)).mono ?_
      rintro e w8 ⟨g, gm, rfl, hT, hg, hgm, hb'⟩
      have hlt8 := hT.lt.2.1
      replace hg : w.heap.size ≤ g := Nat.le_trans hb.size hg
      replace hgm : w.heap.size ≤ gm := Nat.le_trans hb.size hgm
      replace hb := below_next hb hb.size hb'
      have hz : ((0 : Int) != 0) = false := rfl
      clear hb'
      go_wp2_with (at_make; refine wpList_make_row elt_u8 _ rfl _ _ rfl .i64 .i64 _ _ 2049 rfl rfl rfl rfl (by omega) (by omega) ?_; intro w9 hr9 hs9 hb9; obtain ⟨lg, hlg, hconv⟩ := conv_zeros hr9)
      generalize hw10 : w9.alloc _ = w10
      have hr10 : Row1 w10 w9.heap.size 30 ((badV lg).flatMap vcl) := by rw [← hw10]; exact row1_new w9 ((badV lg).flatMap vcl) 30
      replace hb := below_next hb hb.size hb9
      replace hT := hT.below hb9
      have hb10 : Below w9.heap.size w9 w10 := by rw [← hw10]; exact below_alloc w9 _
      replace hb := below_next hb hb.size hb10
      replace hT := hT.below hb10
      rw [hs9] at hr10
      have hgm10 : w8.heap.size + 1 ≠ gm := by omega
      have hB1 := badV_ok lg hlg
      have hB2 := badV_no lg hlg
      have hB3 : (badV lg).length = 16 := rfl
      generalize w8.heap.size + 1 = g10 at *
      generalize badV lg = bad at *
      have HB1 := hid hB1
      have HB2 := hid hB2
      have HB3 := hid hB3
      clear hw10 hb10 hb9 hlt8 hr9 hconv hB1 hB2 hB3
      go_loopw [111] (fun i wo => ∃ j : Nat, i = .int .i64 j ∧ j ≤ 16 ∧ Row1 wo g10 30 (bad.flatMap vcl) ∧ Tly wo g gm 7 [] ∧ Below w.heap.size w wo) (fun i _ => 16 - (intOf i).toNat)
      case atStart => exact ⟨0, rfl, by omega, hr10, hT, hb⟩
      case round =>
        obtain ⟨j, rfl, hj, hR, hT, hbr⟩ := hrel
        clear hr10 hb
        by_cases hjl : j < 16
        · obtain ⟨x, hx⟩ := get_of_lt (l := bad) (show j < bad.length by rw [HB3.out]; exact hjl)
          have hxo := HB1.out x (List.mem_of_getElem? hx)
          have hxn := HB2.out x (List.mem_of_getElem? hx)
          obtain ⟨b, off, hbo, hbl, d0, d1, d2, d3, d4⟩ := (show CellsV wr (some ⟨g10, 0, none⟩) bad from hR.cells).at_ hx
          injection hbo with hbo
          injection hbo with e1 e2
          subst e1 e2
          simp only [Nat.zero_add] at d0 d1 d2 d3 d4
          replace hR := hR.alloc (.cells (vcl x).toArray 30)
          have hVx := row1_new wr (vcl x) 30
          have hb6 := hbr.alloc hbr.size (.cells (vcl x).toArray 30)
          have hT6 := hT.below (below_alloc wr (.cells (vcl x).toArray 30))
          simp only [List.toArray] at hVx hb6 hT6 hR
          obtain ⟨x0, x1, x2, x3, x4⟩ := hVx.five
          clear hx
          go_wp2_with (fail)
          refine (tput_c g gm 7 [] x _ hT6 hxo).mono ?_
          rintro e w11 ⟨rfl, hT7, hg7⟩
          rw [hxn]
          have hpl : putL 7 [] x = [] := by rw [putL, hxn]; rfl
          rw [hpl] at hT7
          clear hpl
          have hb7 := below_but hb6 hg7 hgm hb6.size
          replace hR := hR.but hg7 hgm10
          clear hg7
          go_wp2_with (fail)
          refine (votes_c g gm 7 [] w11 hT7).mono ?_
          rintro e w12 ⟨v, rfl, hown, hb8⟩
          obtain ⟨A8, c8, rfl, -⟩ := hown.form
          have hT8 := hT7.below hb8
          replace hR := hR.below hb8
          have hb9 := below_next hb7 hb7.size hb8
          go_wp2
          go_roundw
          case rel => exact ⟨j + 1, by go_num, by omega, hR, hT8, hb9⟩
          case measure => simp [intOf]; omega
        · have hje : (j : Int) = 16 := by omega
          rw [hje]
          clear hje hj hjl
          have hltw := hT.lt.2.1
          have hgm15 : wr.heap.size ≠ gm := by omega
          clear hR hltw HB1 HB2 HB3
          have hsz14 := hbr.size
          obtain ⟨ls, hls, hlsz⟩ : ∃ ls, lg.extract 1 lg.size = ls ∧ (ls.size : Int) = 2048 := ⟨_, rfl, by rw [ByteArray.size_extract]; omega⟩
          have HLS := hid hls
          generalize wr = w14 at *
          clear hls
          go_wp2
          rw [HLS.out]
          generalize hw15 : w14.alloc _ = w15
          have hr15 : Row1 w15 w14.heap.size 30 ((goodV ls).flatMap vcl) := by rw [← hw15]; exact row1_new w14 ((goodV ls).flatMap vcl) 30
          have hb15 : Below w14.heap.size w14 w15 := by rw [← hw15]; exact below_alloc w14 _
          replace hbr := below_next hbr hbr.size hb15
          replace hT := hT.below hb15
          have hG1 := goodV_ok ls hlsz
          have hG2 := goodV_put ls hlsz
          have hG3 : (goodV ls).length = 4 := rfl
          generalize w14.heap.size = g15 at *
          have hT0 : Tly w15 g gm 7 (gl ls 0) := hT
          have HLL := hid (gl_four ls hlsz)
          generalize goodV ls = good at *
          generalize gl ls = G at *
          have HG1 := hid hG1
          have HG2 := hid hG2
          have HG3 := hid hG3
          clear hw15 hb15 hG1 hG2 hG3 hT
          go_loopw [133] (fun i wo => ∃ j : Nat, i = .int .i64 j ∧ j ≤ 4 ∧ Row1 wo g15 30 (good.flatMap vcl) ∧ Tly wo g gm 7 (G j) ∧ Below w.heap.size w wo) (fun i _ => 4 - (intOf i).toNat)
          case atStart => exact ⟨0, rfl, by omega, hr15, hT0, hbr⟩
          case round =>
            obtain ⟨j, rfl, hj, hR, hT, hbo⟩ := hrel
            clear hr15 hT0 hbr
            by_cases hjl : j < 4
            · obtain ⟨x, hx⟩ := get_of_lt (l := good) (show j < good.length by rw [HG3.out]; exact hjl)
              have hxo := HG1.out x (List.mem_of_getElem? hx)
              obtain ⟨p1, p2, p3, p4⟩ := HG2.out j x hx
              obtain ⟨b, off, hb0, hbl, d0, d1, d2, d3, d4⟩ := (show CellsV wr (some ⟨g15, 0, none⟩) good from hR.cells).at_ hx
              injection hb0 with hb0
              injection hb0 with e1 e2
              subst e1 e2
              simp only [Nat.zero_add] at d0 d1 d2 d3 d4
              replace hR := hR.alloc (.cells (vcl x).toArray 30)
              have hVx := row1_new wr (vcl x) 30
              have hb6 := hbo.alloc hbo.size (.cells (vcl x).toArray 30)
              have hT6 := hT.below (below_alloc wr (.cells (vcl x).toArray 30))
              have hltw := hT.lt.2.1
              have hgmw : wr.heap.size ≠ gm := by omega
              simp only [List.toArray] at hVx hb6 hT6 hR
              obtain ⟨x0, x1, x2, x3, x4⟩ := hVx.five
              clear hx hltw hT
              go_wp2_with (fail)
              refine (tput_c g gm 7 (G j) x _ hT6 hxo).mono ?_
              rintro e w16 ⟨rfl, hT7, hg7⟩
              rw [p1]
              rw [p2] at hT7
              have hb7 := below_but hb6 hg7 hgm hb6.size
              replace hR := hR.but hg7 hgm15
              obtain ⟨x0', x1', x2', x3', x4'⟩ := (hVx.but hg7 hgmw).five
              clear hg7 p1 p2 hVx x0 x1 x2 x3 x4 d0 d1 d2 d3 d4 hb6 hT6
              go_wp2_with (fail)
              refine (tput_c g gm 7 (G (j + 1)) x _ hT7 hxo).mono ?_
              rintro e w17 ⟨rfl, hT8, hg8⟩
              rw [p3]
              rw [p4] at hT8
              have hb8 := below_but hb7 hg8 hgm hb7.size
              replace hR := hR.but hg8 hgm15
              clear hg8 p3 p4 hT7 hb7 x0' x1' x2' x3' x4'
              go_wp2
              go_roundw
              case rel => exact ⟨j + 1, by go_num, by omega, hR, hT8, hb8⟩
              case measure => simp [intOf]; omega
            · obtain rfl : j = 4 := by omega
              obtain ⟨L, hL⟩ : ∃ L, G 4 = L := ⟨_, rfl⟩
              rw [hL] at hT
              have HF := hid (HLL.out L hL)
              clear hR HG1 HG2 HG3 HLL hL
              generalize wr = w18 at *
              go_wp2_with (fail)
              refine (tprop_c g gm 7 L 3 7 w18 hT ⟨by omega, by omega⟩ ⟨by omega, by omega⟩).mono ?_
              rintro e w19 ⟨rfl, hb'⟩
              rw [show propV L 3 7 = .tuple #[vval zeroVt, .bool false] from HF.out.1]
              replace hT := hT.below hb'
              replace hbo := below_next hbo hbo.size hb'
              clear hb'
              replace hT := hT.below (below_alloc w19 (.cells (vcl zeroVt).toArray 30))
              replace hbo := hbo.alloc hbo.size (.cells (vcl zeroVt).toArray 30)
              simp only [List.toArray] at hT hbo
              go_wp2_with (fail)
              refine (rounds_c g gm 7 L _ hT).mono ?_
              rintro e w20 ⟨v, rfl, ho, hb'⟩
              rw [HF.out.2.1] at ho
              replace hT := hT.below hb'
              replace hbo := below_next hbo hbo.size hb'
              clear hb'
              obtain ⟨A, c, rfl, hc2⟩ := ho.form
              replace hc2 := hc2.below (below_alloc w20 (.cells #[.int .i64 3, .int .i64 99] 3))
              have hr2 := row1_new w20 [.int .i64 3, .int .i64 99] 3
              replace hT := hT.below (below_alloc w20 (.cells #[.int .i64 3, .int .i64 99] 3))
              replace hbo := hbo.alloc hbo.size (.cells #[.int .i64 3, .int .i64 99] 3)
              simp only [List.toArray] at hr2
              go_wp2_with (fail)
              generalize w20.alloc (.cells #[.int .i64 3, .int .i64 99] 3) = w21 at *
              refine (ints_c A (some ⟨w20.heap.size, 0, none⟩) [3, 99] [3, 99] c 2 w21 hc2 hr2.cells (by simp) (by simp)).mono ?_
              rintro e w22 ⟨rfl, hw⟩
              rw [decide_eq_true (rfl : ([3, 99] : List Int) = [3, 99])]
              replace hT := hT.dr hw
              replace hbo := below_dr hbo hw
              clear hw hc2 hr2 ho
              go_wp2_with (fail)
              refine (tsent_c g gm 7 L 3 w22 hT).mono ?_
              rintro e w23 ⟨rfl, hb'⟩
              rw [HF.out.2.2.1]
              replace hT := hT.below hb'
              replace hbo := below_next hbo hbo.size hb'
              clear hb'
              go_wp2_with (fail)
              refine (tsent_c g gm 7 L 99 w23 hT).mono ?_
              rintro e w24 ⟨rfl, hb'⟩
              rw [HF.out.2.2.2.1]
              replace hT := hT.below hb'
              replace hbo := below_next hbo hbo.size hb'
              clear hb'
              go_wp2_with (fail)
              refine (tsent_c g gm 7 L 4 w24 hT).mono ?_
              rintro e w25 ⟨rfl, hb'⟩
              rw [HF.out.2.2.2.2.1]
              replace hT := hT.below hb'
              replace hbo := below_next hbo hbo.size hb'
              clear hb'
              go_wp2_with (fail)
              refine (tall_c g gm 7 L 3 2 w25 hT).mono ?_
              rintro e w26 ⟨rfl, hb'⟩
              rw [HF.out.2.2.2.2.2.1]
              replace hT := hT.below hb'
              replace hbo := below_next hbo hbo.size hb'
              clear hb'
              have hls := HLS.out
              go_wp2_with (fail)
              refine (tcount_c g gm 7 L 99 4 ls w26 hT).mono ?_
              rintro e w27 ⟨rfl, hb'⟩
              rw [HF.out.2.2.2.2.2.2.1]
              replace hT := hT.below hb'
              replace hbo := below_next hbo hbo.size hb'
              clear hb'
              go_wp2_with (fail)
              refine (tcount_c g gm 7 L 99 4 ⟨#[]⟩ w27 hT).mono ?_
              rintro e w28 ⟨rfl, hb'⟩
              rw [HF.out.2.2.2.2.2.2.2]
              replace hbo := below_next hbo hbo.size hb'
              clear hb'
              go_wp2
              go_ret
              exact ⟨rfl, hbo⟩

set_option maxRecDepth 100000 in
theorem tallyNames_lifted (os : Os) (started : os.Started) (H : Type) (enc : TypeId × Value → H) :
    ReturnsInHanded {} Try.checked os 6 .any (Rows.tallyNamesSpec.pre6 enc Try.prog Try.f6 Rows.tallyNamesRow.domain false) (Rows.tallyNamesSpec.post enc Try.prog Try.f6 false true false false) := by
  haveI : DecidableEq Lit := fun a b => Classical.propDecidable (a = b)
  refine returnsInHanded_of_change (C := Try.checked) Try.own started (by kernel_rfl) Try.func6
    (ChangeSpec.witness6 (enc := enc) (C := Try.checked) false ⟨#[], #[], []⟩ 8 (by kernel_rfl) (by kernel_rfl) (by kernel_rfl) (by kernel_rfl)) ?_
  intro W base args ds gs before hval0 hW hcnd _
  have hW' := hW
  obtain ⟨p, q, hA0, hV, rfl, hfz, hnd⟩ := hW
  have hA : DataW.TrodAll enc Try.prog W 0 (fun _ => true) true Try.f6.params.toList args.toList ds p := hA0
  rw [Try.params6] at hA
  obtain ⟨rfl, rfl⟩ := trodVars_none hV
  obtain ⟨l⟩ := args
  obtain ⟨rfl, rfl, rfl⟩ := trodAll_end hA
  clear hA0 hval0
  refine (tallyNames_c W).mono fun e W' ⟨he, hb⟩ => ?_
  subst he
  exact ⟨_, rfl, post_true hW' hb Try.laidOut (by kernel_rfl) rfl rfl rfl rfl rfl Try.underlying4⟩

theorem tallyNames_holds : Rows.TallyNamesSaid :=
  OpenClaim.holds_of_wide 6 Try.f6 rfl rfl rfl rfl rfl rfl rfl ⟨rfl, rfl, rfl, rfl, rfl⟩ rfl rfl rfl rfl rfl (by kernel_rfl) Try.func6 (by kernel_rfl)
    (of_decide_eq_true (by kernel_rfl)) (by unfold Func.isWrapper; first | (rw [if_pos (by decide +kernel)]; kernel_rfl) | (rw [if_neg (by decide +kernel)]; exact ⟨rfl, rfl⟩))
    (fun os started H enc _ => tallyNames_lifted os started H enc)
#print axioms tallyNames_holds


end Go.Proofs.Ytnngnekfgijejaa
