/-
  PROVED HERE: TallyPlays: whatever votes are put, each answer is the document's, and all that is told; a copy goes its own way: for every number, every votes.
-/
import Derived.Test.YtnngnekfgijejaaTalAD
import Derived.Test.YtnngnekfgijejaaTalX
import Derived.Test.YtnngnekfgijejaaRegionD
import Derived.ChangeAlike
namespace Go.Proofs.Ytnngnekfgijejaa
open Go.ChangeShapes Go.WideShapes Go.ChangeAt Go.RowKit Go.Maps Go.Shelf Go.Proofs

theorem cells5 {w wx : World} {b off : Nat} {l : List Vt} {k : Nat} {x : Vt} (h : CellsV w (some ⟨b, off, none⟩) l) (hB : Below w.heap.size w wx) (hx : l[k]? = some x) :
    wx.cell? ⟨b, off + k * 5, none⟩ = some (.int .i64 x.fr) ∧ wx.cell? ⟨b, off + k * 5 + 1, none⟩ = some (.int .i64 x.rd) ∧ wx.cell? ⟨b, off + k * 5 + 2, none⟩ = some (.int .u8 x.kd) ∧ wx.cell? ⟨b, off + k * 5 + 3, none⟩ = some (.int .i64 x.va) ∧ wx.cell? ⟨b, off + k * 5 + 4, none⟩ = some (.string x.tx) := by
  obtain ⟨b', off', e, -, h1⟩ := (h.below hB).at_ hx
  injection e with e
  injection e with e1 e2
  subst e1 e2
  exact h1

/-- the two tallies, while a vote is put into both; the copies stay. -/
def phPut (H : Nat) (w0 : World) (ga gma gb gl gc gmc gd gld : Nat) (n : Int) (L L' : List Vt) (p : Nat) (w : World) : Prop :=
  (Below H w0 w ∧ H ≤ w.heap.size ∧ Tly w gc gmc n L ∧ RTly w gd gld n L) ∧ match p with
    | 0 => Tly w ga gma n L ∧ RTly w gb gl n L
    | 1 => Tly w ga gma n L' ∧ RTly w gb gl n L
    | _ => Tly w ga gma n L' ∧ ∃ gl', RTly w gb gl' n L' ∧ gma ≠ gl'
def wayPut (H : Nat) (w0 : World) (ga gma gb gl gc gmc gd gld : Nat) (n : Int) (L L' : List Vt) (cs : List Nat) (bds : List (Nat × Nat)) : Rgd.Way := ⟨Rgd.Keep, fun _ _ _ => True, phPut H w0 ga gma gb gl gc gmc gd gld n L L', cs, bds⟩
theorem wayPut_fair {H : Nat} {w0 : World} {ga gma gb gl gc gmc gd gld : Nat} {n : Int} {L L' : List Vt} {cs : List Nat} {bds : List (Nat × Nat)} : (wayPut H w0 ga gma gb gl gc gmc gd gld n L L' cs bds).Fair := ⟨by
  rintro p w w' ⟨⟨h1, h2, h3, h4⟩, h5⟩ hk
  have hk : Below w.heap.size w w' := hk
  refine ⟨⟨below_next h1 h2 hk, Nat.le_trans h2 hk.size, h3.below hk, h4.below hk⟩, ?_⟩
  match p, h5 with
  | 0, h => exact ⟨h.1.below hk, h.2.below hk⟩
  | 1, h => exact ⟨h.1.below hk, h.2.below hk⟩
  | p + 2, ⟨h6, gl', h7, h8⟩ => exact ⟨h6.below hk, gl', h7.below hk, h8⟩⟩

/-- a vote in a box of its own, whose round is written, then its Kind. -/
def phBox (g : Nat) (w0 : World) (u u' : Vt) (p : Nat) (w : World) : Prop := Below g w0 w ∧ g < w.heap.size ∧ match p with
  | 0 => Row1 w g 30 (vcl u)
  | _ => Row1 w g 30 (vcl u')
def wayBox (g : Nat) (w0 : World) (u u' : Vt) (cs : List Nat) (bds : List (Nat × Nat)) : Rgd.Way := ⟨Rgd.Keep, fun _ _ _ => True, phBox g w0 u u', cs, bds⟩
theorem wayBox_fair {g : Nat} {w0 : World} {u u' : Vt} {cs : List Nat} {bds : List (Nat × Nat)} : (wayBox g w0 u u' cs bds).Fair := ⟨by
  rintro p w w' ⟨h1, h2, h3⟩ hk
  have hk : Below w.heap.size w w' := hk
  refine ⟨below_next h1 (by omega) hk, Nat.lt_of_lt_of_le h2 hk.size, ?_⟩
  match p, h3 with
  | 0, h => exact Row1.below h hk
  | p + 1, h => exact Row1.below h hk⟩
/-- what lay there stays. -/
def wayNew (w0 : World) (cs : List Nat) (bds : List (Nat × Nat)) : Rgd.Way := ⟨Rgd.Keep, fun _ _ _ => True, fun _ w => Below w0.heap.size w0 w, cs, bds⟩
theorem wayNew_fair {w0 : World} {cs : List Nat} {bds : List (Nat × Nat)} : (wayNew w0 cs bds).Fair := ⟨by
  rintro p w w' h1 hk
  have hk : Below w.heap.size w w' := hk
  exact below_next h1 h1.size hk⟩

set_option maxRecDepth 100000 in
set_option maxHeartbeats 4000000 in
theorem tallyPlays_c (n : Int) (A : Option Addr) (l : List Vt) (c : Nat) (w : World) (hn : I64 n) (hA : CellsV w A l) (hl : l.length ≤ 9223372036854775807) (ho : Oks l) [DecidableEq Lit] :
    Calls Try.prog 7 #[.int .i64 n, .slice A l.length c] w fun e w' => e = .returned (.bool true) ∧ Below w.heap.size w w' := by
  have HO := hid ho
  clear ho
  go_enter Try.func7, Try.ntmps7
  go_wp2_with (fail)
  refine (long_c A l c w hA hl HO.out).mono ?_
  rintro e _ ⟨⟨b, rfl⟩, rfl⟩
  cases b with
  | true =>
    go_wp2_with (fail)
    refine (awake_c w).mono ?_
    rintro e w1 ⟨rfl, hb1⟩
    go_wp2
    go_ret
    exact ⟨rfl, hb1⟩
  | false =>
    by_cases hno : n < 1 ∨ 7 < n
    · have h1 : ((1 : Int) != 1) = false := rfl
      have h2 : ((1 : Int) != 0) = true := rfl
      go_wp2_with (fail)
      refine (tnew_no n w hno).mono ?_
      rintro e _ ⟨rfl, rfl⟩
      go_wp2_with (fail)
      refine (rnew_no n w hno).mono ?_
      rintro e _ ⟨rfl, rfl⟩
      go_wp2_with (fail)
      refine (awake_c w).mono ?_
      rintro e w1 ⟨rfl, hb1⟩
      go_wp2
      go_ret
      exact ⟨rfl, hb1⟩
    · have hz : ((0 : Int) != 0) = false := rfl
      have hn1 : 1 ≤ n := by omega
      have hn7 : n ≤ 7 := by omega
      go_wp2_with (fail)
      refine (tnew_ok n w hn1 hn7).mono ?_
      rintro e w1 ⟨ga, gma, rfl, hTa, hga, hgma, hb⟩
      have hlt := hTa.lt
      have hB := hb
      clear hb
      go_wp2_with (fail)
      refine (rnew_ok n w1 hn1 hn7).mono ?_
      rintro e w2 ⟨rfl, hRb, hb⟩
      replace hTa := hTa.below hb
      have hsz1 := hB.size
      replace hB := below_next hB hB.size hb
      have hq1 : gma ≠ w1.heap.size := by omega
      have hq2 : w1.heap.size ≠ ga := by omega
      clear hb hlt
      generalize w1.heap.size = gb at *
      go_wp2
      go_loopw [9] (fun i wr => ∃ (k gl : Nat) (L : List Vt), i = .int .i64 k ∧ k ≤ l.length ∧ Tly wr ga gma n L ∧ RTly wr gb gl n L ∧ gma ≠ gl ∧ Below w.heap.size w wr) (fun i _ => l.length - (intOf i).toNat)
      case atStart => exact ⟨0, gb, [], rfl, by omega, hTa, hRb, hq1, hB⟩
      case round =>
        obtain ⟨k, gl, L, rfl, hk, hT, hR, hq3, hb⟩ := hrel
        clear hTa hRb hB
        by_cases hkl : k < l.length
        · obtain ⟨x, hx⟩ := get_of_lt hkl
          have hxo := HO.out x (List.mem_of_getElem? hx)
          obtain ⟨b0, off0, rfl, hb0, -⟩ := hA.at_ hx
          have HX := hid hx
          clear hx
          go_wp2_with (fail)
          refine (tcopy_c ga gma n L wr hT).mono ?_
          rintro e w3 ⟨gc, gmc, rfl, hTc, hgc, hgmc, hbb⟩
          have hlt := hT.lt
          have hltb := hR.lt
          have hsz3 := hbb.size
          replace hT := hT.below hbb
          replace hR := hR.below hbb
          have hb3 := below_next hb hb.size hbb
          clear hbb
          go_wp2_with (fail)
          refine (rcopy_c gb gl n L w3 hR hT.len).mono ?_
          rintro e w4 ⟨gd, gld, rfl, hRd, hgd, hgld, hbb⟩
          have hTl := hT.below hbb
          have hRl := hR.below hbb
          have hTc' := hTc.below hbb
          have hb4 := below_next hb3 hb3.size hbb
          have HA := hid hA
          have HL := hid (⟨hT.len, hT.srt⟩ : L.length ≤ 10000 ∧ Srt L)
          have n1 : gma ≠ gc ∧ gma ≠ gmc ∧ gma ≠ gd ∧ gma ≠ gld ∧ gb ≠ gc ∧ gb ≠ gmc ∧ gb ≠ gd ∧ gb ≠ gld := by omega
          have NE := hid n1
          clear hTc hbb hb3 hb hT hR n1
          have H0 : phPut w.heap.size w ga gma gb gl gc gmc gd gld n L (putL n L x) 0 w4 := ⟨⟨hb4, hb4.size, hTc', hRd⟩, hTl, hRl⟩
          clear hTc' hRd hTl hRl hlt hltb hsz3 hgc hgmc hgd hgld
          go_wp2
          refine Rgd.wp_region (l := [_, _, _, _, _, _, _, _, _, _, _, _, _, _, _, _, _, _, _, _, _, _, _, _, _, _, _, _, _, _, _, _]) (tail := [_]) (wayPut w.heap.size w ga gma gb gl gc gmc gd gld n L (putL n L x) [5, 11] [(0, 0), (0, 0), (0, 0), (0, 0), (0, 0), (0, 0), (0, 1), (0, 1), (0, 1), (0, 1), (0, 1), (1, 1), (2, 2), (2, 2), (2, 2), (2, 2), (2, 2), (2, 2), (2, 2), (2, 2), (2, 2), (2, 2), (2, 2), (2, 2), (2, 2), (2, 2), (2, 2), (2, 2), (2, 2), (2, 2), (2, 2), (2, 2)]) [some 49, some 50, some 51, some 52, some 53, some 54, some 55, some 56, some 57, some 58, some 59, some 60, some 61, some 62, some 63, some 64, some 65, some 66, some 67, some 68, some 69, some 70, some 71, some 72, some 73, some 74, some 75, some 76, some 77, some 78, some 79, some 80, some 81] 114 rfl [[], [], [], [1, 2], [1, 2, 3], [0, 1, 2, 3, 4], [], [], [], [7, 8], [7, 8, 9], [0, 1, 2, 3, 4, 5, 6, 7, 8, 9, 10], [0, 1, 2, 3, 4, 5, 6, 7, 8, 9, 10, 11], [0, 1, 2, 3, 4, 5, 6, 7, 8, 9, 10, 11, 12], [0, 1, 2, 3, 4, 5, 6, 7, 8, 9, 10, 11, 12, 13], [0, 1, 2, 3, 4, 5, 6, 7, 8, 9, 10, 11, 12, 13], [0, 1, 2, 3, 4, 5, 6, 7, 8, 9, 10, 11, 12, 13], [0, 1, 2, 3, 4, 5, 6, 7, 8, 9, 10, 11, 12, 13], [0, 1, 2, 3, 4, 5, 6, 7, 8, 9, 10, 11, 12, 13, 16, 17], [0, 1, 2, 3, 4, 5, 6, 7, 8, 9, 10, 11, 12, 13, 16, 17, 18], [0, 1, 2, 3, 4, 5, 6, 7, 8, 9, 10, 11, 12, 13, 14, 15, 16, 17, 18, 19], [0, 1, 2, 3, 4, 5, 6, 7, 8, 9, 10, 11, 12, 13, 14, 15, 16, 17, 18, 19, 20], [0, 1, 2, 3, 4, 5, 6, 7, 8, 9, 10, 11, 12, 13, 14, 15, 16, 17, 18, 19, 20, 21], [0, 1, 2, 3, 4, 5, 6, 7, 8, 9, 10, 11, 12, 13, 14, 15, 16, 17, 18, 19, 20, 21, 22], [0, 1, 2, 3, 4, 5, 6, 7, 8, 9, 10, 11, 12, 13, 14, 15, 16, 17, 18, 19, 20, 21, 22, 23], [0, 1, 2, 3, 4, 5, 6, 7, 8, 9, 10, 11, 12, 13, 14, 15, 16, 17, 18, 19, 20, 21, 22, 23], [0, 1, 2, 3, 4, 5, 6, 7, 8, 9, 10, 11, 12, 13, 14, 15, 16, 17, 18, 19, 20, 21, 22, 23], [0, 1, 2, 3, 4, 5, 6, 7, 8, 9, 10, 11, 12, 13, 14, 15, 16, 17, 18, 19, 20, 21, 22, 23], [0, 1, 2, 3, 4, 5, 6, 7, 8, 9, 10, 11, 12, 13, 14, 15, 16, 17, 18, 19, 20, 21, 22, 23, 26, 27], [0, 1, 2, 3, 4, 5, 6, 7, 8, 9, 10, 11, 12, 13, 14, 15, 16, 17, 18, 19, 20, 21, 22, 23, 26, 27, 28], [0, 1, 2, 3, 4, 5, 6, 7, 8, 9, 10, 11, 12, 13, 14, 15, 16, 17, 18, 19, 20, 21, 22, 23, 24, 25, 26, 27, 28, 29], [0, 1, 2, 3, 4, 5, 6, 7, 8, 9, 10, 11, 12, 13, 14, 15, 16, 17, 18, 19, 20, 21, 22, 23, 24, 25, 26, 27, 28, 29, 30]] (by kernel_rfl) (by kernel_rfl) (by kernel_rfl) (by kernel_rfl) (by kernel_rfl) rfl (wayPut_fair) (wayPut_fair.bk 0 _ _ H0 (Rgd.keep_drew _)) ?_
          refine' Rgd.op_is _ [] 0 0 rfl rfl rfl (by kernel_rfl) ?_ ?_
          rotate_left
          · intro p wx hp1 hp2 hb
            obtain rfl : p = 0 := by omega
            refine Rgd.from_nil fun T hT => ?_
            go_wp2
            refine hT _ _ rfl (by first | exact Rgd.Keep.refl _ | exact below_of_dr hw2 | exact hw2 | exact (Below.refl _ _).alloc (Nat.le_refl _) _) ?_
            simp only [Rgd.last, List.getElem?_toArray, List.getElem?_cons_succ, List.getElem?_cons_zero, Option.getD_some]
            rfl
          refine' Rgd.op_is _ [] 0 0 rfl rfl rfl (by kernel_rfl) ?_ ?_
          rotate_left
          · intro p wx hp1 hp2 hb
            obtain rfl : p = 0 := by omega
            refine Rgd.from_nil fun T hT => ?_
            go_wp2
            refine hT _ _ rfl (by first | exact Rgd.Keep.refl _ | exact below_of_dr hw2 | exact hw2 | exact (Below.refl _ _).alloc (Nat.le_refl _) _) ?_
            simp only [Rgd.last, List.getElem?_toArray, List.getElem?_cons_succ, List.getElem?_cons_zero, Option.getD_some]
            rfl
          refine' Rgd.op_is _ [] 0 0 rfl rfl rfl (by kernel_rfl) ?_ ?_
          rotate_left
          · intro p wx hp1 hp2 hb
            obtain rfl : p = 0 := by omega
            refine Rgd.from_nil fun T hT => ?_
            go_wp2
            refine hT _ _ rfl (by first | exact Rgd.Keep.refl _ | exact below_of_dr hw2 | exact hw2 | exact (Below.refl _ _).alloc (Nat.le_refl _) _) ?_
            simp only [Rgd.last, List.getElem?_toArray, List.getElem?_cons_succ, List.getElem?_cons_zero, Option.getD_some]
            rfl
          refine' Rgd.op_is _ [1, 2] 0 0 rfl rfl rfl (by kernel_rfl) ?_ ?_
          rotate_left
          · intro p wx hp1 hp2 hb
            obtain rfl : p = 0 := by omega
            refine Rgd.from_is (some 50) rfl rfl ?_
            refine Rgd.from_is (some 51) rfl rfl ?_
            refine Rgd.from_nil fun T hT => ?_
            go_wp2
            refine hT _ _ rfl (by first | exact Rgd.Keep.refl _ | exact below_of_dr hw2 | exact hw2 | exact (Below.refl _ _).alloc (Nat.le_refl _) _) ?_
            simp only [Rgd.last, List.getElem?_toArray, List.getElem?_cons_succ, List.getElem?_cons_zero, Option.getD_some]
            rfl
          refine' Rgd.op_is _ [3] 0 0 rfl rfl rfl (by kernel_rfl) ?_ ?_
          rotate_left
          · intro p wx hp1 hp2 hb
            obtain rfl : p = 0 := by omega
            refine Rgd.from_is (some 52) rfl rfl ?_
            refine Rgd.from_nil fun T hT => ?_
            obtain ⟨⟨hB, -⟩, -⟩ := hb
            obtain ⟨c0, c1, c2, c3, c4⟩ := cells5 HA.out hB HX.out
            go_wp2
            refine hT _ _ rfl (by first | exact Rgd.Keep.refl _ | exact below_of_dr hw2 | exact hw2 | exact (Below.refl _ _).alloc (Nat.le_refl _) _) ?_
            simp only [Rgd.last, List.getElem?_toArray, List.getElem?_cons_succ, List.getElem?_cons_zero, Option.getD_some]
            rfl
          refine Rgd.op_turn (.bool (putB n L x)) [0, 4] 0 rfl rfl (by kernel_rfl) ?_ ?_
          · intro wx hb
            refine Rgd.from_is (some 49) rfl rfl ?_
            refine Rgd.from_is (some 53) rfl rfl ?_
            refine Rgd.from_nil fun T hT => ?_
            obtain ⟨⟨hB, hz, hC, hD⟩, hTa, hRb⟩ := hb
            go_wp2_with (fail)
            refine (tput_c ga gma n L x _ hTa hxo).mono ?_
            rintro e wy ⟨rfl, hTy, hg⟩
            go_wp2
            exact hT _ _ rfl trivial ⟨⟨below_but hB hg hgma hz, Nat.le_trans hz hg.size, hC.grown hg NE.out.1 NE.out.2.1, hD.grown hg NE.out.2.2.1 NE.out.2.2.2.1⟩, hTy, hRb.grown hg hq1 hq3⟩ rfl
          refine' Rgd.op_is _ [] 0 1 rfl rfl rfl (by kernel_rfl) ?_ ?_
          rotate_left
          · intro p wx hp1 hp2 hb
            refine Rgd.from_nil fun T hT => ?_
            go_wp2
            refine hT _ _ rfl (by first | exact Rgd.Keep.refl _ | exact below_of_dr hw2 | exact hw2 | exact (Below.refl _ _).alloc (Nat.le_refl _) _) ?_
            simp only [Rgd.last, List.getElem?_toArray, List.getElem?_cons_succ, List.getElem?_cons_zero, Option.getD_some]
            rfl
          refine' Rgd.op_is _ [] 0 1 rfl rfl rfl (by kernel_rfl) ?_ ?_
          rotate_left
          · intro p wx hp1 hp2 hb
            refine Rgd.from_nil fun T hT => ?_
            go_wp2
            refine hT _ _ rfl (by first | exact Rgd.Keep.refl _ | exact below_of_dr hw2 | exact hw2 | exact (Below.refl _ _).alloc (Nat.le_refl _) _) ?_
            simp only [Rgd.last, List.getElem?_toArray, List.getElem?_cons_succ, List.getElem?_cons_zero, Option.getD_some]
            rfl
          refine' Rgd.op_is _ [] 0 1 rfl rfl rfl (by kernel_rfl) ?_ ?_
          rotate_left
          · intro p wx hp1 hp2 hb
            refine Rgd.from_nil fun T hT => ?_
            go_wp2
            refine hT _ _ rfl (by first | exact Rgd.Keep.refl _ | exact below_of_dr hw2 | exact hw2 | exact (Below.refl _ _).alloc (Nat.le_refl _) _) ?_
            simp only [Rgd.last, List.getElem?_toArray, List.getElem?_cons_succ, List.getElem?_cons_zero, Option.getD_some]
            rfl
          refine' Rgd.op_is _ [7, 8] 0 1 rfl rfl rfl (by kernel_rfl) ?_ ?_
          rotate_left
          · intro p wx hp1 hp2 hb
            refine Rgd.from_is (some 56) rfl rfl ?_
            refine Rgd.from_is (some 57) rfl rfl ?_
            refine Rgd.from_nil fun T hT => ?_
            go_wp2
            refine hT _ _ rfl (by first | exact Rgd.Keep.refl _ | exact below_of_dr hw2 | exact hw2 | exact (Below.refl _ _).alloc (Nat.le_refl _) _) ?_
            simp only [Rgd.last, List.getElem?_toArray, List.getElem?_cons_succ, List.getElem?_cons_zero, Option.getD_some]
            rfl
          refine' Rgd.op_is _ [9] 0 1 rfl rfl rfl (by kernel_rfl) ?_ ?_
          rotate_left
          · intro p wx hp1 hp2 hb
            refine Rgd.from_is (some 58) rfl rfl ?_
            refine Rgd.from_nil fun T hT => ?_
            obtain ⟨⟨hB, -⟩, -⟩ := hb
            obtain ⟨c0, c1, c2, c3, c4⟩ := cells5 HA.out hB HX.out
            go_wp2
            refine hT _ _ rfl (by first | exact Rgd.Keep.refl _ | exact below_of_dr hw2 | exact hw2 | exact (Below.refl _ _).alloc (Nat.le_refl _) _) ?_
            simp only [Rgd.last, List.getElem?_toArray, List.getElem?_cons_succ, List.getElem?_cons_zero, Option.getD_some]
            rfl
          refine Rgd.op_turn (.bool (putB n L x)) [6, 10] 1 rfl rfl (by kernel_rfl) ?_ ?_
          · intro wx hb
            refine Rgd.from_is (some 55) rfl rfl ?_
            refine Rgd.from_is (some 59) rfl rfl ?_
            refine Rgd.from_nil fun T hT => ?_
            obtain ⟨⟨hB, hz, hC, hD⟩, hTa, hRb⟩ := hb
            go_wp2_with (fail)
            refine (rput_c gb gl n L x _ hRb HL.out.1 HL.out.2 hxo hn).mono ?_
            rintro e wy ⟨gl', rfl, hRy, hgl', hg⟩
            go_wp2
            refine hT _ _ rfl trivial ⟨⟨below_but hB hg hsz1 hz, Nat.le_trans hz hg.size, hC.grown hg NE.out.2.2.2.2.1 NE.out.2.2.2.2.2.1, hD.grown hg NE.out.2.2.2.2.2.2.1 NE.out.2.2.2.2.2.2.2⟩, hTa.grown hg hq2 (Ne.symm hq1), gl', hRy, ?_⟩ rfl
            rcases hgl' with rfl | h
            · exact hq3
            · have := hTa.lt
              omega
          refine Rgd.op_is (.bool false) [5, 11] 2 2 rfl rfl rfl (by kernel_rfl) ?_ ?_
          · intro p wx hp1 hp2 hb
            obtain rfl : p = 2 := by omega
            refine Rgd.from_is (some 54) rfl rfl ?_
            refine Rgd.from_is (some 60) rfl rfl ?_
            refine Rgd.from_nil fun T hT => ?_
            go_wp2
            exact hT _ _ rfl (Rgd.Keep.refl _) (by simp [Rgd.last])
          refine Rgd.op_is (.bool false) [12] 2 2 rfl rfl rfl (by kernel_rfl) ?_ ?_
          · intro p wx hp1 hp2 hb
            obtain rfl : p = 2 := by omega
            refine Rgd.from_is (some 61) rfl rfl ?_
            refine Rgd.from_nil fun T hT => ?_
            go_wp2
            exact hT _ _ rfl (by first | exact Rgd.Keep.refl _ | exact below_of_dr hw2 | exact hw2 | exact (Below.refl _ _).alloc (Nat.le_refl _) _) (by first | rfl | exact congrArg _ (by decide))
          refine' Rgd.op_is _ [] 2 2 rfl rfl rfl (by kernel_rfl) ?_ ?_
          rotate_left
          · intro p wx hp1 hp2 hb
            obtain rfl : p = 2 := by omega
            refine Rgd.from_nil fun T hT => ?_
            go_wp2
            refine hT _ _ rfl (by first | exact Rgd.Keep.refl _ | exact below_of_dr hw2 | exact hw2 | exact (Below.refl _ _).alloc (Nat.le_refl _) _) ?_
            simp only [Rgd.last, List.getElem?_toArray, List.getElem?_cons_succ, List.getElem?_cons_zero, Option.getD_some]
            rfl
          refine' Rgd.op_is _ [] 2 2 rfl rfl rfl (by kernel_rfl) ?_ ?_
          rotate_left
          · intro p wx hp1 hp2 hb
            obtain rfl : p = 2 := by omega
            refine Rgd.from_nil fun T hT => ?_
            go_wp2
            refine hT _ _ rfl (by first | exact Rgd.Keep.refl _ | exact below_of_dr hw2 | exact hw2 | exact (Below.refl _ _).alloc (Nat.le_refl _) _) ?_
            simp only [Rgd.last, List.getElem?_toArray, List.getElem?_cons_succ, List.getElem?_cons_zero, Option.getD_some]
            rfl
          refine' Rgd.op_is _ [] 2 2 rfl rfl rfl (by kernel_rfl) ?_ ?_
          rotate_left
          · intro p wx hp1 hp2 hb
            obtain rfl : p = 2 := by omega
            refine Rgd.from_nil fun T hT => ?_
            go_wp2
            refine hT _ _ rfl (by first | exact Rgd.Keep.refl _ | exact below_of_dr hw2 | exact hw2 | exact (Below.refl _ _).alloc (Nat.le_refl _) _) ?_
            simp only [Rgd.last, List.getElem?_toArray, List.getElem?_cons_succ, List.getElem?_cons_zero, Option.getD_some]
            rfl
          refine' Rgd.op_is _ [] 2 2 rfl rfl rfl (by kernel_rfl) ?_ ?_
          rotate_left
          · intro p wx hp1 hp2 hb
            obtain rfl : p = 2 := by omega
            refine Rgd.from_nil fun T hT => ?_
            go_wp2
            refine hT _ _ rfl (by first | exact Rgd.Keep.refl _ | exact below_of_dr hw2 | exact hw2 | exact (Below.refl _ _).alloc (Nat.le_refl _) _) ?_
            simp only [Rgd.last, List.getElem?_toArray, List.getElem?_cons_succ, List.getElem?_cons_zero, Option.getD_some]
            rfl
          refine' Rgd.op_is _ [16, 17] 2 2 rfl rfl rfl (by kernel_rfl) ?_ ?_
          rotate_left
          · intro p wx hp1 hp2 hb
            obtain rfl : p = 2 := by omega
            refine Rgd.from_is (some 65) rfl rfl ?_
            refine Rgd.from_is (some 66) rfl rfl ?_
            refine Rgd.from_nil fun T hT => ?_
            go_wp2
            refine hT _ _ rfl (by first | exact Rgd.Keep.refl _ | exact below_of_dr hw2 | exact hw2 | exact (Below.refl _ _).alloc (Nat.le_refl _) _) ?_
            simp only [Rgd.last, List.getElem?_toArray, List.getElem?_cons_succ, List.getElem?_cons_zero, Option.getD_some]
            rfl
          refine' Rgd.op_is _ [18] 2 2 rfl rfl rfl (by kernel_rfl) ?_ ?_
          rotate_left
          · intro p wx hp1 hp2 hb
            obtain rfl : p = 2 := by omega
            refine Rgd.from_is (some 67) rfl rfl ?_
            refine Rgd.from_nil fun T hT => ?_
            obtain ⟨⟨hB, -⟩, -⟩ := hb
            obtain ⟨c0, c1, c2, c3, c4⟩ := cells5 HA.out hB HX.out
            go_wp2
            refine hT _ _ rfl (by first | exact Rgd.Keep.refl _ | exact below_of_dr hw2 | exact hw2 | exact (Below.refl _ _).alloc (Nat.le_refl _) _) ?_
            simp only [Rgd.last, List.getElem?_toArray, List.getElem?_cons_succ, List.getElem?_cons_zero, Option.getD_some]
            rfl
          refine Rgd.op_is (.bool true) [14, 15, 19] 2 2 rfl rfl rfl (by kernel_rfl) ?_ ?_
          · intro p wx hp1 hp2 hb
            obtain rfl : p = 2 := by omega
            refine Rgd.from_is (some 63) rfl rfl ?_
            refine Rgd.from_is (some 64) rfl rfl ?_
            refine Rgd.from_is (some 68) rfl rfl ?_
            refine Rgd.from_nil fun T hT => ?_
            obtain ⟨⟨hB, hz, hC, hD⟩, hTa, gl', hRb, -⟩ := hb
            go_wp2_with (fail)
            refine (like_c ga gma n _ gb gl' n x _ hTa hRb hxo).mono ?_
            rintro e wy ⟨rfl, hk⟩
            go_wp2
            exact hT _ _ rfl hk rfl
          refine Rgd.op_is (.bool false) [20] 2 2 rfl rfl rfl (by kernel_rfl) ?_ ?_
          · intro p wx hp1 hp2 hb
            obtain rfl : p = 2 := by omega
            refine Rgd.from_is (some 69) rfl rfl ?_
            refine Rgd.from_nil fun T hT => ?_
            go_wp2
            exact hT _ _ rfl (by first | exact Rgd.Keep.refl _ | exact below_of_dr hw2 | exact hw2 | exact (Below.refl _ _).alloc (Nat.le_refl _) _) (by first | rfl | exact congrArg _ (by decide))
          refine Rgd.op_is (.bool false) [13, 21] 2 2 rfl rfl rfl (by kernel_rfl) ?_ ?_
          · intro p wx hp1 hp2 hb
            obtain rfl : p = 2 := by omega
            refine Rgd.from_is (some 62) rfl rfl ?_
            refine Rgd.from_is (some 70) rfl rfl ?_
            refine Rgd.from_nil fun T hT => ?_
            go_wp2
            exact hT _ _ rfl (by first | exact Rgd.Keep.refl _ | exact below_of_dr hw2 | exact hw2 | exact (Below.refl _ _).alloc (Nat.le_refl _) _) (by first | rfl | exact congrArg _ (by decide))
          refine Rgd.op_is (.bool false) [22] 2 2 rfl rfl rfl (by kernel_rfl) ?_ ?_
          · intro p wx hp1 hp2 hb
            obtain rfl : p = 2 := by omega
            refine Rgd.from_is (some 71) rfl rfl ?_
            refine Rgd.from_nil fun T hT => ?_
            go_wp2
            exact hT _ _ rfl (by first | exact Rgd.Keep.refl _ | exact below_of_dr hw2 | exact hw2 | exact (Below.refl _ _).alloc (Nat.le_refl _) _) (by first | rfl | exact congrArg _ (by decide))
          refine' Rgd.op_is _ [] 2 2 rfl rfl rfl (by kernel_rfl) ?_ ?_
          rotate_left
          · intro p wx hp1 hp2 hb
            obtain rfl : p = 2 := by omega
            refine Rgd.from_nil fun T hT => ?_
            go_wp2
            refine hT _ _ rfl (by first | exact Rgd.Keep.refl _ | exact below_of_dr hw2 | exact hw2 | exact (Below.refl _ _).alloc (Nat.le_refl _) _) ?_
            simp only [Rgd.last, List.getElem?_toArray, List.getElem?_cons_succ, List.getElem?_cons_zero, Option.getD_some]
            rfl
          refine' Rgd.op_is _ [] 2 2 rfl rfl rfl (by kernel_rfl) ?_ ?_
          rotate_left
          · intro p wx hp1 hp2 hb
            obtain rfl : p = 2 := by omega
            refine Rgd.from_nil fun T hT => ?_
            go_wp2
            refine hT _ _ rfl (by first | exact Rgd.Keep.refl _ | exact below_of_dr hw2 | exact hw2 | exact (Below.refl _ _).alloc (Nat.le_refl _) _) ?_
            simp only [Rgd.last, List.getElem?_toArray, List.getElem?_cons_succ, List.getElem?_cons_zero, Option.getD_some]
            rfl
          refine' Rgd.op_is _ [] 2 2 rfl rfl rfl (by kernel_rfl) ?_ ?_
          rotate_left
          · intro p wx hp1 hp2 hb
            obtain rfl : p = 2 := by omega
            refine Rgd.from_nil fun T hT => ?_
            go_wp2
            refine hT _ _ rfl (by first | exact Rgd.Keep.refl _ | exact below_of_dr hw2 | exact hw2 | exact (Below.refl _ _).alloc (Nat.le_refl _) _) ?_
            simp only [Rgd.last, List.getElem?_toArray, List.getElem?_cons_succ, List.getElem?_cons_zero, Option.getD_some]
            rfl
          refine' Rgd.op_is _ [] 2 2 rfl rfl rfl (by kernel_rfl) ?_ ?_
          rotate_left
          · intro p wx hp1 hp2 hb
            obtain rfl : p = 2 := by omega
            refine Rgd.from_nil fun T hT => ?_
            go_wp2
            refine hT _ _ rfl (by first | exact Rgd.Keep.refl _ | exact below_of_dr hw2 | exact hw2 | exact (Below.refl _ _).alloc (Nat.le_refl _) _) ?_
            simp only [Rgd.last, List.getElem?_toArray, List.getElem?_cons_succ, List.getElem?_cons_zero, Option.getD_some]
            rfl
          refine' Rgd.op_is _ [26, 27] 2 2 rfl rfl rfl (by kernel_rfl) ?_ ?_
          rotate_left
          · intro p wx hp1 hp2 hb
            obtain rfl : p = 2 := by omega
            refine Rgd.from_is (some 75) rfl rfl ?_
            refine Rgd.from_is (some 76) rfl rfl ?_
            refine Rgd.from_nil fun T hT => ?_
            go_wp2
            refine hT _ _ rfl (by first | exact Rgd.Keep.refl _ | exact below_of_dr hw2 | exact hw2 | exact (Below.refl _ _).alloc (Nat.le_refl _) _) ?_
            simp only [Rgd.last, List.getElem?_toArray, List.getElem?_cons_succ, List.getElem?_cons_zero, Option.getD_some]
            rfl
          refine' Rgd.op_is _ [28] 2 2 rfl rfl rfl (by kernel_rfl) ?_ ?_
          rotate_left
          · intro p wx hp1 hp2 hb
            obtain rfl : p = 2 := by omega
            refine Rgd.from_is (some 77) rfl rfl ?_
            refine Rgd.from_nil fun T hT => ?_
            obtain ⟨⟨hB, -⟩, -⟩ := hb
            obtain ⟨c0, c1, c2, c3, c4⟩ := cells5 HA.out hB HX.out
            go_wp2
            refine hT _ _ rfl (by first | exact Rgd.Keep.refl _ | exact below_of_dr hw2 | exact hw2 | exact (Below.refl _ _).alloc (Nat.le_refl _) _) ?_
            simp only [Rgd.last, List.getElem?_toArray, List.getElem?_cons_succ, List.getElem?_cons_zero, Option.getD_some]
            rfl
          refine Rgd.op_is (.bool true) [24, 25, 29] 2 2 rfl rfl rfl (by kernel_rfl) ?_ ?_
          · intro p wx hp1 hp2 hb
            obtain rfl : p = 2 := by omega
            refine Rgd.from_is (some 73) rfl rfl ?_
            refine Rgd.from_is (some 74) rfl rfl ?_
            refine Rgd.from_is (some 78) rfl rfl ?_
            refine Rgd.from_nil fun T hT => ?_
            obtain ⟨⟨hB, hz, hC, hD⟩, -⟩ := hb
            go_wp2_with (fail)
            refine (like_c gc gmc n _ gd gld n x _ hC hD hxo).mono ?_
            rintro e wy ⟨rfl, hk⟩
            go_wp2
            exact hT _ _ rfl hk rfl
          refine Rgd.op_is (.bool false) [30] 2 2 rfl rfl rfl (by kernel_rfl) ?_ ?_
          · intro p wx hp1 hp2 hb
            obtain rfl : p = 2 := by omega
            refine Rgd.from_is (some 79) rfl rfl ?_
            refine Rgd.from_nil fun T hT => ?_
            go_wp2
            exact hT _ _ rfl (by first | exact Rgd.Keep.refl _ | exact below_of_dr hw2 | exact hw2 | exact (Below.refl _ _).alloc (Nat.le_refl _) _) (by first | rfl | exact congrArg _ (by decide))
          refine Rgd.walk_nil [0, 1, 2, 3, 4, 5, 6, 7, 8, 9, 10, 11, 12, 13, 14, 15, 16, 17, 18, 19, 20, 21, 22, 23, 24, 25, 26, 27, 28, 29, 30, 31] (by kernel_rfl) ?_
          intro wx hb
          refine Rgd.from_is (some 49) rfl rfl ?_
          refine Rgd.from_is (some 50) rfl rfl ?_
          refine Rgd.from_is (some 51) rfl rfl ?_
          refine Rgd.from_is (some 52) rfl rfl ?_
          refine Rgd.from_is (some 53) rfl rfl ?_
          refine Rgd.from_is (some 54) rfl rfl ?_
          refine Rgd.from_is (some 55) rfl rfl ?_
          refine Rgd.from_is (some 56) rfl rfl ?_
          refine Rgd.from_is (some 57) rfl rfl ?_
          refine Rgd.from_is (some 58) rfl rfl ?_
          refine Rgd.from_is (some 59) rfl rfl ?_
          refine Rgd.from_is (some 60) rfl rfl ?_
          refine Rgd.from_is (some 61) rfl rfl ?_
          refine Rgd.from_is (some 62) rfl rfl ?_
          refine Rgd.from_is (some 63) rfl rfl ?_
          refine Rgd.from_is (some 64) rfl rfl ?_
          refine Rgd.from_is (some 65) rfl rfl ?_
          refine Rgd.from_is (some 66) rfl rfl ?_
          refine Rgd.from_is (some 67) rfl rfl ?_
          refine Rgd.from_is (some 68) rfl rfl ?_
          refine Rgd.from_is (some 69) rfl rfl ?_
          refine Rgd.from_is (some 70) rfl rfl ?_
          refine Rgd.from_is (some 71) rfl rfl ?_
          refine Rgd.from_is (some 72) rfl rfl ?_
          refine Rgd.from_is (some 73) rfl rfl ?_
          refine Rgd.from_is (some 74) rfl rfl ?_
          refine Rgd.from_is (some 75) rfl rfl ?_
          refine Rgd.from_is (some 76) rfl rfl ?_
          refine Rgd.from_is (some 77) rfl rfl ?_
          refine Rgd.from_is (some 78) rfl rfl ?_
          refine Rgd.from_is (some 79) rfl rfl ?_
          refine Rgd.from_is (some 80) rfl rfl ?_
          refine Rgd.from_nil ?_
          simp only [List.map, Act.put, List.setIfInBounds_toArray, List.set_cons_zero, List.set_cons_succ]
          obtain ⟨⟨hB, hz, -, -⟩, hTa, gl', hRb, hq4⟩ := hb
          clear H0
          have h0l : 0 < l.length := by omega
          obtain ⟨x0, hx0⟩ := get_of_lt h0l
          have hxo0 := HO.out x0 (List.mem_of_getElem? hx0)
          have HX0 := hid hx0
          clear hx0
          obtain ⟨c0, c1, c2, c3, c4⟩ := cells5 HA.out hB HX0.out
          simp only [Nat.zero_mul, Nat.add_zero] at c0 c1 c2 c3 c4
          go_wp2
          have hRow := row1_new wx (vcl x0) 30
          have hBa := below_alloc wx (.cells (vcl x0).toArray 30)
          simp only [List.toArray] at hRow hBa
          have hsz9 : wx.heap.size < (wx.alloc (.cells #[.int .i64 x0.fr, .int .i64 x0.rd, .int .u8 x0.kd, .int .i64 x0.va, .string x0.tx] 30)).heap.size := by simp
          clear c0 c1 c2 c3 c4
          generalize wx.alloc _ = wy at *
          obtain ⟨gx, hgx⟩ : ∃ gx, wx.heap.size = gx := ⟨_, rfl⟩
          have H1 : phBox wx.heap.size wx x0 ⟨x0.fr, x.rd, x0.kd, x0.va, x0.tx⟩ 0 wy := ⟨hBa, hsz9, hRow⟩
          clear hRow hBa hsz9
          have HGX := hid hgx
          rw [hgx] at H1 ⊢
          clear hgx
          refine Rgd.wp_region (l := [_, _, _, _, _, _, _, _, _, _, _, _]) (tail := [_, _]) (wayBox gx wx x0 ⟨x0.fr, x.rd, x0.kd, x0.va, x0.tx⟩ [11] [(0, 0), (0, 0), (0, 0), (0, 0), (0, 0), (0, 1), (0, 1), (0, 1), (0, 1), (0, 1), (0, 0), (0, 0)]) [some 85, some 86, some 87, some 88, some 89, some 90, some 91, some 92, some 93, some 94, some 95, none, some 96, none] 114 rfl [[], [], [0, 1], [0, 1, 2], [0, 1, 2, 3], [], [], [5, 6], [5, 6, 7], [5, 6, 7, 8], [0, 1, 2, 3, 4], [0, 1, 2, 3, 4, 10]] (by kernel_rfl) (by kernel_rfl) (by kernel_rfl) (by kernel_rfl) (by kernel_rfl) rfl (wayBox_fair) (wayBox_fair.bk 0 _ _ H1 (Rgd.keep_drew _)) ?_
          refine' Rgd.op_is _ [] 0 0 rfl rfl rfl (by kernel_rfl) ?_ ?_
          rotate_left
          · intro p wx hp1 hp2 hb
            obtain rfl : p = 0 := by omega
            refine Rgd.from_nil fun T hT => ?_
            go_wp2
            refine hT _ _ rfl (by first | exact Rgd.Keep.refl _ | exact below_of_dr hw2 | exact hw2 | exact (Below.refl _ _).alloc (Nat.le_refl _) _) ?_
            simp only [Rgd.last, List.getElem?_toArray, List.getElem?_cons_succ, List.getElem?_cons_zero, Option.getD_some]
            rfl
          refine' Rgd.op_is _ [] 0 0 rfl rfl rfl (by kernel_rfl) ?_ ?_
          rotate_left
          · intro p wx hp1 hp2 hb
            obtain rfl : p = 0 := by omega
            refine Rgd.from_nil fun T hT => ?_
            go_wp2
            refine hT _ _ rfl (by first | exact Rgd.Keep.refl _ | exact below_of_dr hw2 | exact hw2 | exact (Below.refl _ _).alloc (Nat.le_refl _) _) ?_
            simp only [Rgd.last, List.getElem?_toArray, List.getElem?_cons_succ, List.getElem?_cons_zero, Option.getD_some]
            rfl
          refine' Rgd.op_is _ [0, 1] 0 0 rfl rfl rfl (by kernel_rfl) ?_ ?_
          rotate_left
          · intro p wx hp1 hp2 hb
            obtain rfl : p = 0 := by omega
            refine Rgd.from_is (some 85) rfl rfl ?_
            refine Rgd.from_is (some 86) rfl rfl ?_
            refine Rgd.from_nil fun T hT => ?_
            go_wp2
            refine hT _ _ rfl (by first | exact Rgd.Keep.refl _ | exact below_of_dr hw2 | exact hw2 | exact (Below.refl _ _).alloc (Nat.le_refl _) _) ?_
            simp only [Rgd.last, List.getElem?_toArray, List.getElem?_cons_succ, List.getElem?_cons_zero, Option.getD_some]
            rfl
          refine' Rgd.op_is _ [2] 0 0 rfl rfl rfl (by kernel_rfl) ?_ ?_
          rotate_left
          · intro p wx hp1 hp2 hb
            obtain rfl : p = 0 := by omega
            refine Rgd.from_is (some 87) rfl rfl ?_
            refine Rgd.from_nil fun T hT => ?_
            go_wp2
            refine hT _ _ rfl (by first | exact Rgd.Keep.refl _ | exact below_of_dr hw2 | exact hw2 | exact (Below.refl _ _).alloc (Nat.le_refl _) _) ?_
            simp only [Rgd.last, List.getElem?_toArray, List.getElem?_cons_succ, List.getElem?_cons_zero, Option.getD_some]
            rfl
          refine' Rgd.op_is _ [3] 0 0 rfl rfl rfl (by kernel_rfl) ?_ ?_
          rotate_left
          · intro p wx hp1 hp2 hb
            obtain rfl : p = 0 := by omega
            refine Rgd.from_is (some 88) rfl rfl ?_
            refine Rgd.from_nil fun T hT => ?_
            obtain ⟨hB1, -, -⟩ := hb
            rw [← HGX.out] at hB1
            obtain ⟨c0, c1, c2, c3, c4⟩ := cells5 HA.out (below_next hB hz hB1) HX.out
            go_wp2
            refine hT _ _ rfl (by first | exact Rgd.Keep.refl _ | exact below_of_dr hw2 | exact hw2 | exact (Below.refl _ _).alloc (Nat.le_refl _) _) ?_
            simp only [Rgd.last, List.getElem?_toArray, List.getElem?_cons_succ, List.getElem?_cons_zero, Option.getD_some]
            rfl
          refine' Rgd.op_is _ [] 0 1 rfl rfl rfl (by kernel_rfl) ?_ ?_
          rotate_left
          · intro p wx hp1 hp2 hb
            refine Rgd.from_nil fun T hT => ?_
            go_wp2
            refine hT _ _ rfl (by first | exact Rgd.Keep.refl _ | exact below_of_dr hw2 | exact hw2 | exact (Below.refl _ _).alloc (Nat.le_refl _) _) ?_
            simp only [Rgd.last, List.getElem?_toArray, List.getElem?_cons_succ, List.getElem?_cons_zero, Option.getD_some]
            rfl
          refine' Rgd.op_is _ [] 0 1 rfl rfl rfl (by kernel_rfl) ?_ ?_
          rotate_left
          · intro p wx hp1 hp2 hb
            refine Rgd.from_nil fun T hT => ?_
            go_wp2
            refine hT _ _ rfl (by first | exact Rgd.Keep.refl _ | exact below_of_dr hw2 | exact hw2 | exact (Below.refl _ _).alloc (Nat.le_refl _) _) ?_
            simp only [Rgd.last, List.getElem?_toArray, List.getElem?_cons_succ, List.getElem?_cons_zero, Option.getD_some]
            rfl
          refine' Rgd.op_is _ [5, 6] 0 1 rfl rfl rfl (by kernel_rfl) ?_ ?_
          rotate_left
          · intro p wx hp1 hp2 hb
            refine Rgd.from_is (some 90) rfl rfl ?_
            refine Rgd.from_is (some 91) rfl rfl ?_
            refine Rgd.from_nil fun T hT => ?_
            go_wp2
            refine hT _ _ rfl (by first | exact Rgd.Keep.refl _ | exact below_of_dr hw2 | exact hw2 | exact (Below.refl _ _).alloc (Nat.le_refl _) _) ?_
            simp only [Rgd.last, List.getElem?_toArray, List.getElem?_cons_succ, List.getElem?_cons_zero, Option.getD_some]
            rfl
          refine' Rgd.op_is _ [7] 0 1 rfl rfl rfl (by kernel_rfl) ?_ ?_
          rotate_left
          · intro p wx hp1 hp2 hb
            refine Rgd.from_is (some 92) rfl rfl ?_
            refine Rgd.from_nil fun T hT => ?_
            go_wp2
            refine hT _ _ rfl (by first | exact Rgd.Keep.refl _ | exact below_of_dr hw2 | exact hw2 | exact (Below.refl _ _).alloc (Nat.le_refl _) _) ?_
            simp only [Rgd.last, List.getElem?_toArray, List.getElem?_cons_succ, List.getElem?_cons_zero, Option.getD_some]
            rfl
          refine' Rgd.op_is _ [8] 0 1 rfl rfl rfl (by kernel_rfl) ?_ ?_
          rotate_left
          · intro p wx hp1 hp2 hb
            refine Rgd.from_is (some 93) rfl rfl ?_
            refine Rgd.from_nil fun T hT => ?_
            obtain ⟨hB1, -, -⟩ := hb
            rw [← HGX.out] at hB1
            obtain ⟨c0, c1, c2, c3, c4⟩ := cells5 HA.out (below_next hB hz hB1) HX.out
            go_wp2
            refine hT _ _ rfl (by first | exact Rgd.Keep.refl _ | exact below_of_dr hw2 | exact hw2 | exact (Below.refl _ _).alloc (Nat.le_refl _) _) ?_
            simp only [Rgd.last, List.getElem?_toArray, List.getElem?_cons_succ, List.getElem?_cons_zero, Option.getD_some]
            rfl
          refine' Rgd.op_is _ [] 0 0 rfl rfl rfl (by kernel_rfl) ?_ ?_
          rotate_left
          · intro p wx hp1 hp2 hb
            obtain rfl : p = 0 := by omega
            refine Rgd.from_nil fun T hT => ?_
            go_wp2
            refine hT _ _ rfl (by first | exact Rgd.Keep.refl _ | exact below_of_dr hw2 | exact hw2 | exact (Below.refl _ _).alloc (Nat.le_refl _) _) ?_
            simp only [Rgd.last, List.getElem?_toArray, List.getElem?_cons_succ, List.getElem?_cons_zero, Option.getD_some]
            rfl
          refine Rgd.op_turn (undef) [4, 10] 0 rfl rfl (by kernel_rfl) ?_ ?_
          · intro wx hb
            refine Rgd.from_is (some 89) rfl rfl ?_
            refine Rgd.from_is (some 95) rfl rfl ?_
            refine Rgd.from_nil fun T hT => ?_
            obtain ⟨hB1, hlt1, hr⟩ := hb
            have c1 := hr.cell (k := 1) rfl
            have f1 := hr.frozen 1
            go_wp2
            exact hT _ _ rfl trivial ⟨hB1.setCell (p := ⟨gx, 1, none⟩) (Nat.le_refl _) _, by simp; omega, hr.set 1 _⟩ rfl
          refine Rgd.walk_nil [0, 1, 2, 3, 4, 5, 6, 7, 8, 9, 10, 11] (by kernel_rfl) ?_
          intro wx hb
          refine Rgd.from_is (some 85) rfl rfl ?_
          refine Rgd.from_is (some 86) rfl rfl ?_
          refine Rgd.from_is (some 87) rfl rfl ?_
          refine Rgd.from_is (some 88) rfl rfl ?_
          refine Rgd.from_is (some 89) rfl rfl ?_
          refine Rgd.from_is (some 90) rfl rfl ?_
          refine Rgd.from_is (some 91) rfl rfl ?_
          refine Rgd.from_is (some 92) rfl rfl ?_
          refine Rgd.from_is (some 93) rfl rfl ?_
          refine Rgd.from_is (some 94) rfl rfl ?_
          refine Rgd.from_is (some 95) rfl rfl ?_
          refine Rgd.from_is (none) rfl rfl ?_
          refine Rgd.from_nil ?_
          simp only [List.map, Act.put, List.setIfInBounds_toArray, List.set_cons_zero, List.set_cons_succ]
          obtain ⟨hB1, hlt1, hr⟩ := hb
          rename_i wq
          have c2 := hr.cell (k := 2) rfl
          have f2 := hr.frozen 2
          go_wp2
          have hr2 : Row1 (wx.setCell ⟨gx, 2, none⟩ (.int .u8 x.kd)) gx 30 (vcl ⟨x0.fr, x.rd, x.kd, x0.va, x0.tx⟩) := hr.set 2 (.int .u8 x.kd)
          have hB2 := hB1.setCell (p := ⟨gx, 2, none⟩) (Nat.le_refl gx) (.int .u8 x.kd)
          clear c2 f2 hr hB1 H1 hlt1
          generalize wx.setCell _ _ = wz at *
          have hoo : Vt.Ok ⟨x0.fr, x.rd, x.kd, x0.va, x0.tx⟩ := ⟨hxo0.fr, hxo.rd, hxo.kd, hxo0.va, hxo0.tx⟩
          rw [← HGX.out] at hB2
          have hTz := hTa.below hB2
          have hRz := hRb.below hB2
          have hBz := below_next hB hz hB2
          have HOO := hid hoo
          clear hoo hTa hRb hB hz hB2 hxo0
          have H2 : Below wz.heap.size wz wz := Below.refl _ _
          refine Rgd.wp_region (l := [_, _, _, _, _, _, _, _, _, _, _, _, _, _, _]) (tail := [_]) (wayNew wz [9, 13] [(0, 0), (0, 0), (0, 0), (0, 0), (0, 0), (0, 0), (0, 0), (0, 0), (0, 0), (0, 0), (0, 1), (1, 1), (0, 1), (1, 1), (2, 2)]) [some 97, some 98, some 99, some 100, some 101, some 102, some 103, some 104, some 105, some 106, some 107, some 108, some 109, some 110, some 111, some 112] 114 rfl [[], [], [], [0, 1, 2], [0, 1, 2, 3], [0, 1, 2, 3, 4], [0, 1, 2, 3, 4, 5], [0, 1, 2, 3, 4, 5, 6], [0, 1, 2, 3, 4, 5], [0, 1, 2, 3, 4, 5, 6, 7, 8], [0, 1, 2, 3, 4, 5], [0, 1, 2, 3, 4, 5, 6, 7, 8, 9, 10], [0, 1, 2, 3, 4, 5], [0, 1, 2, 3, 4, 5, 6, 7, 8, 9, 10, 11, 12], [0, 1, 2, 3, 4, 5, 6, 7, 8, 9, 10, 11, 12, 13]] (by kernel_rfl) (by kernel_rfl) (by kernel_rfl) (by kernel_rfl) (by kernel_rfl) rfl (wayNew_fair) (wayNew_fair.bk 0 _ _ H2 (Rgd.keep_drew _)) ?_
          refine' Rgd.op_is _ [] 0 0 rfl rfl rfl (by kernel_rfl) ?_ ?_
          rotate_left
          · intro p wx hp1 hp2 hb
            obtain rfl : p = 0 := by omega
            refine Rgd.from_nil fun T hT => ?_
            go_wp2
            refine hT _ _ rfl (by first | exact Rgd.Keep.refl _ | exact below_of_dr hw2 | exact hw2 | exact (Below.refl _ _).alloc (Nat.le_refl _) _) ?_
            simp only [Rgd.last, List.getElem?_toArray, List.getElem?_cons_succ, List.getElem?_cons_zero, Option.getD_some]
            rfl
          refine' Rgd.op_is _ [] 0 0 rfl rfl rfl (by kernel_rfl) ?_ ?_
          rotate_left
          · intro p wx hp1 hp2 hb
            obtain rfl : p = 0 := by omega
            refine Rgd.from_nil fun T hT => ?_
            go_wp2
            refine hT _ _ rfl (by first | exact Rgd.Keep.refl _ | exact below_of_dr hw2 | exact hw2 | exact (Below.refl _ _).alloc (Nat.le_refl _) _) ?_
            simp only [Rgd.last, List.getElem?_toArray, List.getElem?_cons_succ, List.getElem?_cons_zero, Option.getD_some]
            rfl
          refine' Rgd.op_is _ [] 0 0 rfl rfl rfl (by kernel_rfl) ?_ ?_
          rotate_left
          · intro p wx hp1 hp2 hb
            obtain rfl : p = 0 := by omega
            refine Rgd.from_nil fun T hT => ?_
            have hrow := hr2.below hb
            obtain ⟨c0, c1, c2, c3, c4⟩ := hrow.five
            go_wp2
            refine hT _ _ rfl (by first | exact Rgd.Keep.refl _ | exact below_of_dr hw2 | exact hw2 | exact (Below.refl _ _).alloc (Nat.le_refl _) _) ?_
            simp only [Rgd.last, List.getElem?_toArray, List.getElem?_cons_succ, List.getElem?_cons_zero, Option.getD_some]
            rfl
          refine Rgd.op_is (.bool true) [0, 1, 2] 0 0 rfl rfl rfl (by kernel_rfl) ?_ ?_
          · intro p wx hp1 hp2 hb
            obtain rfl : p = 0 := by omega
            refine Rgd.from_is (some 97) rfl rfl ?_
            refine Rgd.from_is (some 98) rfl rfl ?_
            refine Rgd.from_is (some 99) rfl rfl ?_
            refine Rgd.from_nil fun T hT => ?_
            go_wp2_with (fail)
            refine (like_c ga gma n _ gb gl' n _ _ (hTz.below hb) (hRz.below hb) HOO.out).mono ?_
            rintro e wy ⟨rfl, hk⟩
            go_wp2
            exact hT _ _ rfl hk rfl
          refine Rgd.op_is (.bool false) [3] 0 0 rfl rfl rfl (by kernel_rfl) ?_ ?_
          · intro p wx hp1 hp2 hb
            obtain rfl : p = 0 := by omega
            refine Rgd.from_is (some 100) rfl rfl ?_
            refine Rgd.from_nil fun T hT => ?_
            go_wp2
            exact hT _ _ rfl (by first | exact Rgd.Keep.refl _ | exact below_of_dr hw2 | exact hw2 | exact (Below.refl _ _).alloc (Nat.le_refl _) _) (by first | rfl | exact congrArg _ (by decide))
          refine Rgd.op_is (.bool false) [4] 0 0 rfl rfl rfl (by kernel_rfl) ?_ ?_
          · intro p wx hp1 hp2 hb
            obtain rfl : p = 0 := by omega
            refine Rgd.from_is (some 101) rfl rfl ?_
            refine Rgd.from_nil fun T hT => ?_
            go_wp2
            exact hT _ _ rfl (by first | exact Rgd.Keep.refl _ | exact below_of_dr hw2 | exact hw2 | exact (Below.refl _ _).alloc (Nat.le_refl _) _) (by first | rfl | exact congrArg _ (by decide))
          refine' Rgd.op_is _ [] 0 0 rfl rfl rfl (by kernel_rfl) ?_ ?_
          rotate_left
          · intro p wx hp1 hp2 hb
            obtain rfl : p = 0 := by omega
            refine Rgd.from_nil fun T hT => ?_
            go_wp2
            refine hT _ _ rfl (by first | exact Rgd.Keep.refl _ | exact below_of_dr hw2 | exact hw2 | exact (Below.refl _ _).alloc (Nat.le_refl _) _) ?_
            simp only [Rgd.last, List.getElem?_toArray, List.getElem?_cons_succ, List.getElem?_cons_zero, Option.getD_some]
            rfl
          refine Rgd.op_of (fun p w v => p = 0 → ∃ gc gmc, v = .pointer (some ⟨gc, 0, none⟩) ∧ Tly w gc gmc n (putL n L x) ∧ wz.heap.size ≤ gc ∧ wz.heap.size ≤ gmc) [6] 0 0 rfl rfl ?_ ?_ rfl (by kernel_rfl) ?_ ?_
          · exact fun p w1 w2 v _ hk h hp => by obtain ⟨gc, gmc, h1, h2, h3⟩ := h hp; exact ⟨gc, gmc, h1, h2.below hk, h3⟩
          · exact fun p w1 w2 v _ _ _ _ _ _ hp => by omega
          · intro p wx hp1 hp2 hb
            obtain rfl : p = 0 := by omega
            refine Rgd.from_is (some 103) rfl rfl ?_
            refine Rgd.from_nil fun T hT => ?_
            go_wp2_with (fail)
            refine (tcopy_c ga gma n _ _ (hTz.below hb)).mono ?_
            rintro e wy ⟨g1, g2, rfl, hC, h1, h2, hk⟩
            have hsb := hb.size
            go_wp2
            exact hT _ _ rfl hk fun _ => ⟨g1, g2, rfl, hC, Nat.le_trans hsb h1, Nat.le_trans hsb h2⟩
          refine' Rgd.op_is _ [] 0 0 rfl rfl rfl (by kernel_rfl) ?_ ?_
          rotate_left
          · intro p wx hp1 hp2 hb
            obtain rfl : p = 0 := by omega
            refine Rgd.from_nil fun T hT => ?_
            have hrow := hr2.below hb
            obtain ⟨c0, c1, c2, c3, c4⟩ := hrow.five
            go_wp2
            refine hT _ _ rfl (by first | exact Rgd.Keep.refl _ | exact below_of_dr hw2 | exact hw2 | exact (Below.refl _ _).alloc (Nat.le_refl _) _) ?_
            simp only [Rgd.last, List.getElem?_toArray, List.getElem?_cons_succ, List.getElem?_cons_zero, Option.getD_some]
            rfl
          refine Rgd.op_turn (.bool (putB n (putL n L x) ⟨x0.fr, x.rd, x.kd, x0.va, x0.tx⟩)) [7, 8] 0 rfl rfl (by kernel_rfl) ?_ ?_
          · intro wx hb
            refine Rgd.from_of (some 104) rfl rfl fun v104 h104 => ?_
            refine Rgd.from_is (some 105) rfl rfl ?_
            refine Rgd.from_nil fun T hT => ?_
            obtain ⟨g1, g2, rfl, hC, h1, h2⟩ := h104 rfl
            go_wp2_with (fail)
            refine (tput_c g1 g2 n _ ⟨x0.fr, x.rd, x.kd, x0.va, x0.tx⟩ _ hC HOO.out).mono ?_
            rintro e wy ⟨rfl, hTy, hg⟩
            go_wp2
            exact hT _ _ rfl trivial (below_but hb hg h2 hb.size) rfl
          refine' Rgd.op_is _ [] 0 1 rfl rfl rfl (by kernel_rfl) ?_ ?_
          rotate_left
          · intro p wx hp1 hp2 hb
            refine Rgd.from_nil fun T hT => ?_
            go_wp2
            refine hT _ _ rfl (by first | exact Rgd.Keep.refl _ | exact below_of_dr hw2 | exact hw2 | exact (Below.refl _ _).alloc (Nat.le_refl _) _) ?_
            simp only [Rgd.last, List.getElem?_toArray, List.getElem?_cons_succ, List.getElem?_cons_zero, Option.getD_some]
            rfl
          refine Rgd.op_of (fun p w v => p = 1 → ∃ gd gld, v = .pointer (some ⟨gd, 0, none⟩) ∧ RTly w gd gld n (putL n L x) ∧ wz.heap.size ≤ gd) [10] 1 1 rfl rfl ?_ ?_ rfl (by kernel_rfl) ?_ ?_
          · exact fun p w1 w2 v _ hk h hp => by obtain ⟨gc, gmc, h1, h2, h3⟩ := h hp; exact ⟨gc, gmc, h1, h2.below hk, h3⟩
          · exact fun p w1 w2 v h0 _ _ _ _ _ hp => by omega
          · intro p wx hp1 hp2 hb
            obtain rfl : p = 1 := by omega
            refine Rgd.from_is (some 107) rfl rfl ?_
            refine Rgd.from_nil fun T hT => ?_
            go_wp2_with (fail)
            refine (rcopy_c gb gl' n _ _ (hRz.below hb) hTz.len).mono ?_
            rintro e wy ⟨g1, g2, rfl, hC, h1, h2, hk⟩
            have hsb := hb.size
            go_wp2
            exact hT _ _ rfl hk fun _ => ⟨g1, g2, rfl, hC, Nat.le_trans hsb h1⟩
          refine' Rgd.op_is _ [] 0 1 rfl rfl rfl (by kernel_rfl) ?_ ?_
          rotate_left
          · intro p wx hp1 hp2 hb
            refine Rgd.from_nil fun T hT => ?_
            have hrow := hr2.below hb
            obtain ⟨c0, c1, c2, c3, c4⟩ := hrow.five
            go_wp2
            refine hT _ _ rfl (by first | exact Rgd.Keep.refl _ | exact below_of_dr hw2 | exact hw2 | exact (Below.refl _ _).alloc (Nat.le_refl _) _) ?_
            simp only [Rgd.last, List.getElem?_toArray, List.getElem?_cons_succ, List.getElem?_cons_zero, Option.getD_some]
            rfl
          refine Rgd.op_turn (.bool (putB n (putL n L x) ⟨x0.fr, x.rd, x.kd, x0.va, x0.tx⟩)) [11, 12] 1 rfl rfl (by kernel_rfl) ?_ ?_
          · intro wx hb
            refine Rgd.from_of (some 108) rfl rfl fun v108 h108 => ?_
            refine Rgd.from_is (some 109) rfl rfl ?_
            refine Rgd.from_nil fun T hT => ?_
            obtain ⟨g1, g2, rfl, hC, h1⟩ := h108 rfl
            go_wp2_with (fail)
            refine (rput_c g1 g2 n _ ⟨x0.fr, x.rd, x.kd, x0.va, x0.tx⟩ _ hC hTz.len hTz.srt HOO.out hn).mono ?_
            rintro e wy ⟨gl2, rfl, hRy, hgl2, hg⟩
            go_wp2
            exact hT _ _ rfl trivial (below_but hb hg h1 hb.size) rfl
          refine Rgd.op_is (.bool false) [9, 13] 2 2 rfl rfl rfl (by kernel_rfl) ?_ ?_
          · intro p wx hp1 hp2 hb
            obtain rfl : p = 2 := by omega
            refine Rgd.from_is (some 106) rfl rfl ?_
            refine Rgd.from_is (some 110) rfl rfl ?_
            refine Rgd.from_nil fun T hT => ?_
            go_wp2
            exact hT _ _ rfl (Rgd.Keep.refl _) (by simp [Rgd.last])
          refine Rgd.walk_nil [0, 1, 2, 3, 4, 5, 6, 7, 8, 9, 10, 11, 12, 13, 14] (by kernel_rfl) ?_
          intro wx hb
          refine Rgd.from_is (some 97) rfl rfl ?_
          refine Rgd.from_is (some 98) rfl rfl ?_
          refine Rgd.from_is (some 99) rfl rfl ?_
          refine Rgd.from_is (some 100) rfl rfl ?_
          refine Rgd.from_is (some 101) rfl rfl ?_
          refine Rgd.from_is (some 102) rfl rfl ?_
          refine Rgd.from_is (some 103) rfl rfl ?_
          refine Rgd.from_of (some 104) rfl rfl fun v104 h104 => ?_
          refine Rgd.from_is (some 105) rfl rfl ?_
          refine Rgd.from_is (some 106) rfl rfl ?_
          refine Rgd.from_is (some 107) rfl rfl ?_
          refine Rgd.from_of (some 108) rfl rfl fun v108 h108 => ?_
          refine Rgd.from_is (some 109) rfl rfl ?_
          refine Rgd.from_is (some 110) rfl rfl ?_
          refine Rgd.from_is (some 111) rfl rfl ?_
          refine Rgd.from_nil ?_
          simp only [List.map, Act.put, List.setIfInBounds_toArray, List.set_cons_zero, List.set_cons_succ]
          go_wp2
          go_roundw
          case rel => exact ⟨k + 1, gl', putL n L x, by go_num, by omega, hTz.below hb, hRz.below hb, hq4, below_next hBz hBz.size hb⟩
          case measure => simp [intOf]; omega
        · obtain rfl : k = l.length := by omega
          go_wp2_with (fail)
          refine (awake_c wr).mono ?_
          rintro e w9 ⟨rfl, hb9⟩
          go_wp2
          go_ret
          exact ⟨rfl, below_next hb hb.size hb9⟩

set_option maxRecDepth 100000 in
theorem tallyPlays_lifted (os : Os) (started : os.Started) (H : Type) (enc : TypeId × Value → H) :
    ReturnsInHanded {} Try.checked os 7 .any (Rows.tallyPlaysSpec.pre6 enc Try.prog Try.f7 Rows.tallyPlaysRow.domain false) (Rows.tallyPlaysSpec.post enc Try.prog Try.f7 false true false false) := by
  haveI : DecidableEq Lit := fun a b => Classical.propDecidable (a = b)
  refine returnsInHanded_of_change (C := Try.checked) Try.own started (by kernel_rfl) Try.func7
    (ChangeSpec.witness6 (enc := enc) (C := Try.checked) false ⟨#[], #[.int .i64 0, .slice none 0 0], []⟩ 8 (by kernel_rfl) (by kernel_rfl) (by kernel_rfl) (by kernel_rfl)) ?_
  intro W base args ds gs before hval0 hW hcnd _
  have hval : ∀ (j : Nat) t v, Try.f7.params[j]? = some t → args[j]? = some v → Value.okWide Try.prog W .any base t v := hval0
  have hW' := hW
  obtain ⟨p, q, hA0, hV, rfl, hfz, hnd⟩ := hW
  have hA : DataW.TrodAll enc Try.prog W 0 (fun _ => true) true Try.f7.params.toList args.toList ds p := hA0
  rw [Try.params7] at hA hval
  obtain ⟨v0, v1, d0, d1, p0, p1, rfl, rfl, rfl, h0, h1⟩ := trodAll_two hA
  obtain ⟨rfl, rfl⟩ := trodVars_none hV
  obtain ⟨x0, rfl, _, _, w0⟩ := open_int Try.underlying3 (hval 0 3 v0 rfl rfl) h0
  obtain ⟨_, k1⟩ := one_ofV Try.underlying22 (hval 1 22 v1 rfl rfl) h1
  obtain ⟨A1, x1, c1, rfl, a1, b1, e1⟩ := votes_at k1
  clear hA0 hval0
  refine (tallyPlays_c x0 A1 x1 c1 W (i64_of w0) a1 b1 e1).mono fun e W' ⟨he, hb⟩ => ?_
  subst he
  exact ⟨_, rfl, post_true hW' hb Try.laidOut (by kernel_rfl) rfl rfl rfl rfl rfl Try.underlying4⟩

theorem tallyPlays_holds : Rows.TallyPlaysSaid :=
  OpenClaim.holds_of_wide 7 Try.f7 rfl rfl rfl rfl rfl rfl rfl ⟨rfl, rfl, rfl, rfl, rfl⟩ rfl rfl rfl rfl rfl (by kernel_rfl) Try.func7 (by kernel_rfl)
    (of_decide_eq_true (by kernel_rfl)) (by unfold Func.isWrapper; first | (rw [if_pos (by decide +kernel)]; kernel_rfl) | (rw [if_neg (by decide +kernel)]; exact ⟨rfl, rfl⟩))
    (fun os started H enc _ => tallyPlays_lifted os started H enc)
#print axioms tallyPlays_holds

end Go.Proofs.Ytnngnekfgijejaa
