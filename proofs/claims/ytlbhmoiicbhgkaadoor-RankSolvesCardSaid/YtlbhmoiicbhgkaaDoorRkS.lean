/-
  RankSolves: what the program does.
-/
import Derived.Test.YtlbhmoiicbhgkaaDoorRnkQ1
import Derived.Test.YtlbhmoiicbhgkaaDoorRnkQ2
import Derived.Test.YtlbhmoiicbhgkaaDoorRnkQ3
import Derived.Test.YtlbhmoiicbhgkaaDoorRnkQ4
import Derived.Test.YtlbhmoiicbhgkaaDoorRnkQ5
import Derived.Test.YtlbhmoiicbhgkaaDoorRnkQ6
import Derived.Test.YtlbhmoiicbhgkaaDoorRnkQ7
import Derived.Test.YtlbhmoiicbhgkaaDoorRnkQ8
import Derived.Test.YtlbhmoiicbhgkaaDoorSolA
namespace Go.Proofs.YtlbhmoiicbhgkaaDoor
open Go Go.RowKit Go.Maps Go.Shelf Go.Proofs Go.Lin Go.Psi

attribute [local go_sem] Oper.semAt_some

set_option maxRecDepth 100000 in
set_option maxHeartbeats 3200000 in
theorem rankSolves_c [DecidableEq Lit] (A : Option Addr) (a : List (List Int)) (ca : Nat) (B : Option Addr) (right : List Int) (cb : Nat) (q : Int) (w : World) (hA : Grid w A a) (hal : a.length ≤ 9223372036854775807) (hau : ∀ l ∈ a, U64s l) (hB : Cells w B (right.map (.int .u64))) (hrl : right.length ≤ 9223372036854775807) (hru : U64s right) (hq : U64 q) (hT : Tabs w) :
    Calls Tryd.prog 4 #[.slice A a.length ca, .slice B right.length cb, .int .u64 q] w fun e w' => e = .returned (.bool true) ∧ Below w.heap.size w w' := by
  have HA := hid hA
  have HB := hid hB
  have HT := hid hT
  have HU := hid (⟨hau, hru⟩ : _ ∧ _)
  have HC := hid (great_c A a ca w hA hal)
  clear hA hB hau hru hT
  go_enter Tryd.func4, Tryd.ntmps4
  by_cases hgr : 6 < a.length ∨ 5 < wideL a
  · rw [show (decide (6 < a.length) || decide (5 < wideL a)) = true by simpa using hgr] at HC
    clear hgr
    go_wp2_with (fail)
    refine HC.out.mono ?_
    rintro e w9 ⟨rfl, rfl⟩
    go_wp2
    go_ret
    exact ⟨rfl, Below.refl _ _⟩
  have ha6 : a.length ≤ 6 := by omega
  have hw5 : wideL a ≤ 5 := by omega
  rw [show (decide (6 < a.length) || decide (5 < wideL a)) = false by simp; omega] at HC
  by_cases hr100 : (right.length : Int) > 100
  · clear hgr
    go_wp2_with (fail)
    refine HC.out.mono ?_
    rintro e w9 ⟨rfl, rfl⟩
    go_wp2
    go_ret
    exact ⟨rfl, Below.refl _ _⟩
  have HLEN := hid (fun (l : List Int) (hl : l ∈ a) => (show l.length ≤ 5 by have := wideL_le a l hl; omega))
  have HOK := hid (rows_ok (f := a) (by omega) fun l hl => ⟨by have := HLEN.out l hl; omega, HU.out.1 l hl⟩)
  have HW5 := hid hw5
  clear hgr hw5 hal
  go_wp2_with (fail)
  refine HC.out.mono ?_
  rintro e w9 ⟨rfl, rfl⟩
  go_wp2
  go_loopw [7, 8] (fun o x wr => ∃ k : Nat, x = .int .i64 (k : Int) ∧ k ≤ a.length ∧ Hid (OwnRows wr w.heap.size 23 24 o ((a.take k).map (·.map (.int .u64))) ∧ Below w.heap.size w wr)) (fun _ x _ => a.length - (intOf x).toNat)
  case atStart => exact ⟨0, rfl, by omega, hid ⟨OwnRows.nil _ _ _ _, Below.refl _ _⟩⟩
  case round =>
  obtain ⟨k, rfl, hk, HI⟩ := hrel
  by_cases hlt : k < a.length
  · have hlt' : (k : Int) < (a.length : Int) := by omega
    obtain ⟨l, hl⟩ := get_of_lt hlt
    have hbw := HI.out.2
    obtain ⟨b1, o1, A1, c1, rfl, hcl, hcs, hln⟩ := (HA.out.below hbw).at_ hl
    have hl5 := HLEN.out l (List.mem_of_getElem? hl)
    have HL := hid hl
    obtain ⟨vs, p1, p2, p3⟩ := HI.out.1
    have hvk : vs.length = k := by rw [p2]; simp only [List.length_map, List.length_take]; omega
    have HP := hid (⟨p1, p2, p3, HI.out.2⟩ : _ ∧ _ ∧ _ ∧ _)
    have hb1 := below_alloc wr (.cells #[] 24)
    have ho1 := own_zero (row1_new wr [] 24) (Nat.le_refl _)
    simp only [List.toArray] at ho1
    have hcl1 := (hb1.cell (lt_of_cell hcl)).trans hcl
    clear hl p1 p2 p3 HI hbw hcl
    go_wp2_with (first
      | (at_builtin; refine wpList_more elt_u64 (wr.alloc (.cells #[] 24)) (by rfl) _ _ rfl wr.heap.size ho1 rfl (hcs.below hb1) (by rw [List.length_map]; rfl) (u64v_ones _) (by simp; omega) (by simp; omega) hb1.size ?_; intro v3 w3 ho3 hb3; replace hb3 := hb1.trans hb3; clear hb1 ho1; rw [List.nil_append] at ho3; obtain ⟨A3, c3, e3, _⟩ := ho3.form; rw [List.length_map] at e3; subst e3)
      | (at_builtin; refine wpList_pushN elt_rows w3 (by rfl) _ _ rfl w.heap.size (HP.out.1.below hb3) rfl (.slice A3 l.length c3) rfl rfl (by omega) (by omega) (Nat.le_trans HP.out.2.2.2.size hb3.size) ?_; intro v4 w4 ho4 hk4 hb4 hn4)
      | fail)
    have hN := OwnRows.push (by decide) HP.out.2.1 (fun j u xs h1 h2 => (HP.out.2.2.1 j u xs h1 h2).below hb3) (HP.out.1.below hb3) ho3.rowT ho4 hk4
    have HN := hid (show OwnRows w4 w.heap.size 23 24 v4 ((a.take (k + 1)).map (·.map (.int .u64))) ∧ Below w.heap.size w w4 from
      ⟨by rw [List.take_add_one, HL.out, List.map_append]; exact hN, (below_next HP.out.2.2.2 HP.out.2.2.2.size hb3).trans hb4⟩)
    clear hN ho4 hk4 hb4 hn4 ho3 hb3 HP hcs hcl1
    go_wp2
    go_roundw
    case rel => exact ⟨k + 1, by go_num, by omega, HN⟩
    case measure => simp [intOf]; omega
  obtain rfl : k = a.length := by omega
  have hlt' : ¬ (a.length : Int) < (a.length : Int) := by omega
  have hin := HI.out.1
  rw [List.take_length] at hin
  obtain ⟨Ai, ci, ei, hgi, _⟩ := hin.grid
  subst ei
  have HGI := hid (⟨hgi, HI.out.2⟩ : _ ∧ _)
  clear hin hgi HI HC
  have hb1 := below_alloc wr (.cells #[] 24)
  have ho1 := own_zero (row1_new wr [] 24) (Nat.le_refl _)
  simp only [List.toArray] at ho1
  go_wp2_with (first
    | (at_builtin; refine wpList_more elt_u64 (wr.alloc (.cells #[] 24)) (by rfl) _ _ rfl wr.heap.size ho1 rfl ((HB.out.below HGI.out.2).below hb1) (by rw [List.length_map]; rfl) (u64v_ones _) (by simp; omega) (by simp; omega) hb1.size ?_; intro v3 w3 ho3 hb3; replace hb3 := hb1.trans hb3; clear hb1 ho1; rw [List.nil_append] at ho3; obtain ⟨A3, c3, e3, hc3⟩ := ho3.form; rw [List.length_map] at e3; subst e3)
    | fail)
  have HB3 := hid (below_next HGI.out.2 HGI.out.2.size hb3)
  have HG3 := hid (HGI.out.1.below hb3)
  have HC3 := hid hc3
  clear ho3 hb3 hc3 HGI
  have hs1 := solve04_c A a ca B right cb q w3 (HA.out.below HB3.out) (by omega) (by have := HW5.out; omega) HU.out.1 (HB.out.below HB3.out) (by omega) HU.out.2 hq
  have hs2 := fun (w' : World) (hb : Below w3.heap.size w3 w') => solve_c Ai a ci A3 right c3 q w' (HG3.out.below hb) HOK.out (HC3.out.below hb) (by omega) HU.out.2 hq (HT.out.below (below_next HB3.out HB3.out.size hb)) (by omega) (by have := HW5.out; omega)
  generalize solveV a right q = V at hs1 hs2
  obtain ⟨out, er⟩ := V
  dsimp only at hs1 hs2
  have H1 := hid hs1
  have H2 := hid hs2
  clear hs1 hs2
  refine H1.out.mono ?_
  rintro e w4 ⟨v4, rfl, ho4, hb4⟩
  obtain ⟨A4, c4, e4, hc4⟩ := ho4.form
  have hol := ho4.len_le
  rw [show (u64v out).length = out.length by simp [u64v]] at e4 hol
  subst e4
  have HC4 := hid (⟨hc4, hb4⟩ : _ ∧ _)
  have hnn : (er != er) = false := by simp
  clear hc4 ho4 hb4 H1
  go_wp2
  generalize wr = wo at *
  go_loopw [12] (fun x wr => ∃ n : Nat, x = .int .i64 (n : Int) ∧ n ≤ 2 ∧ Hid (Below w4.heap.size w4 wr)) (fun x _ => 2 - (intOf x).toNat)
  case atStart => exact ⟨0, rfl, by omega, hid (Below.refl _ _)⟩
  case round =>
  obtain ⟨n, rfl, hn, HI⟩ := hrel
  generalize wr = w5 at *
  have HW5' := hid (below_next HC4.out.2 HC4.out.2.size HI.out)
  by_cases hlt2 : n < 2
  · have hlt2' : (n : Int) < 2 := by omega
    go_wp2_with (fail)
    refine (H2.out w5 HW5'.out).mono ?_
    rintro e w6 ⟨v6, rfl, ho6, hb6⟩
    obtain ⟨A6, c6, e6, hc6⟩ := ho6.form
    rw [show (u64v out).length = out.length by simp [u64v]] at e6
    subst e6
    have wC : Writ w6 w5.heap.size 24 (.slice A6 out.length c6) out.length := ⟨_, ho6, by simp [u64v]⟩
    have hnu := nums_c A6 A4 out out c6 c4 w6 hc6 ((HC4.out.1.below HI.out).below hb6) hol hol
    rw [show decide (out = out) = true by simp] at hnu
    have HNU := hid hnu
    have HWC := hid (⟨wC, hb6⟩ : _ ∧ _)
    clear ho6 hc6 wC hnu hb6
    go_wp2_with (fail)
    refine HNU.out.mono ?_
    rintro e w7 ⟨rfl, hd7⟩
    have HS := hid (⟨HWC.out.1.below (below_of_dr hd7), below_dr HWC.out.2 hd7⟩ : Writ w7 w5.heap.size 24 (.slice A6 out.length c6) out.length ∧ Below w5.heap.size w5 w7)
    clear hd7 HWC HNU
    go_wp2
    go_loopw [15] (fun x wr => ∃ j : Nat, x = .int .i64 (j : Int) ∧ j ≤ out.length ∧ Hid (Writ wr w5.heap.size 24 (.slice A6 out.length c6) out.length ∧ Below w5.heap.size w5 wr)) (fun x _ => out.length - (intOf x).toNat)
    case atStart => exact ⟨0, rfl, by omega, HS⟩
    case round =>
      obtain ⟨j, rfl, hj, HJ⟩ := hrel
      clear HS
      by_cases hltj : j < out.length
      · have hltj' : (j : Int) < (out.length : Int) := by omega
        obtain ⟨wC, hbo⟩ := HJ.out
        obtain ⟨g1, cap, u0, he, hg1', hg2, hg3, hg4, ar, hg5⟩ := wC.at_ hltj
        simp only [Value.slice.injEq, true_and] at he
        obtain ⟨rfl, rfl⟩ := he
        have HN := hid (show Writ (wr.setCell ⟨g1, j, none⟩ (.int .u64 99)) w5.heap.size 24 (.slice (some ⟨g1, 0, none⟩) out.length c6) out.length ∧ Below w5.heap.size w5 (wr.setCell ⟨g1, j, none⟩ (.int .u64 99)) from
          ⟨wC.set g1 j _, hbo.setCell (p := ⟨g1, j, none⟩) hg1' _⟩)
        clear wC hbo hg5 HJ
        go_wp2
        go_roundw
        case rel => exact ⟨j + 1, by go_num, by omega, HN⟩
        case measure => simp [intOf]; omega
      · obtain rfl : j = out.length := by omega
        have hltj' : ¬ (out.length : Int) < (out.length : Int) := by omega
        have HN := hid (below_next HI.out HI.out.size HJ.out.2)
        clear HJ
        go_wp2
        go_roundw
        case rel => exact ⟨n + 1, by go_num, by omega, HN⟩
        case measure => simp [intOf]; omega
  obtain rfl : n = 2 := by omega
  have hlt2' : ¬ ((2 : Nat) : Int) < 2 := by omega
  have HB7 := hid (below_next HB3.out HB3.out.size HW5'.out)
  have HG7 := hid (HG3.out.below HW5'.out)
  have HC7 := hid (HC3.out.below HW5'.out)
  clear HI HW5' H2
  go_wp2
  generalize w5 = w7 at *
  go_loopw [16] (fun x wr => ∃ k : Nat, x = .int .i64 (k : Int) ∧ k ≤ a.length ∧ Hid (Dr w7 wr)) (fun x _ => a.length - (intOf x).toNat)
  case atStart => exact ⟨0, rfl, by omega, hid (Dr.refl _)⟩
  case round =>
  obtain ⟨k, rfl, hk, HI⟩ := hrel
  by_cases hlt : k < a.length
  · have hlt' : (k : Int) < (a.length : Int) := by omega
    obtain ⟨l, hl⟩ := get_of_lt hlt
    obtain ⟨b1, o1, A1, c1, rfl, hcl, hcs, hln⟩ := ((HA.out.below HB7.out).dr HI.out).at_ hl
    obtain ⟨b2, o2, A2, c2, rfl, hcl2, hcs2, hln2⟩ := (HG7.out.dr HI.out).at_ hl
    have HNU := hid (fun w' (hd : Dr wr w') => (by
      have := nums_c A2 A1 l l c2 c1 w' (hcs2.dr hd) (hcs.dr hd) hln hln
      rwa [show decide (l = l) = true by simp] at this : Calls Tryd.prog 13 #[.slice A2 l.length c2, .slice A1 l.length c1] w' fun e w'' => e = .returned (.bool true) ∧ Dr w' w''))
    clear hl hcs hcs2 hln2
    go_wp2
    go_quiet (first | (go_at_call 13; exact quiet_dr (HNU.out _ ⟨_, rfl⟩)))
    have HN := hid (HI.out.trans (⟨nq, rfl⟩ : Dr wr (wr.drewN nq)))
    clear hcl hcl2 HNU HI
    go_wp2
    go_roundw
    case rel => exact ⟨k + 1, by go_num, by omega, HN⟩
    case measure => simp [intOf]; omega
  obtain rfl : k = a.length := by omega
  have hlt' : ¬ (a.length : Int) < (a.length : Int) := by omega
  have hn := nums_c A3 B right right c3 cb wr (HC7.out.dr HI.out) ((HB.out.below HB7.out).dr HI.out) hrl hrl
  rw [show decide (right = right) = true by simp] at hn
  have HN := hid hn
  have HBL := hid (below_dr HB7.out HI.out)
  clear hn HI
  go_wp2_with (fail)
  refine HN.out.mono ?_
  rintro e w9 ⟨rfl, hd9⟩
  go_wp2
  go_ret
  exact ⟨rfl, below_dr HBL.out hd9⟩
end Go.Proofs.YtlbhmoiicbhgkaaDoor
