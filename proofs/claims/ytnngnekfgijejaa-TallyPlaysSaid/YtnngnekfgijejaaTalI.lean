/-
  How many members sent a vote that counts.
-/
import Derived.Test.YtnngnekfgijejaaTalH
namespace Go.Proofs.Ytnngnekfgijejaa
open Go.RowKit Go.Maps

set_option maxRecDepth 100000 in
theorem members_nil (fv : Value) (w : World) :
    Calls Try.prog 36 #[.pointer none, fv] w fun e w' => e = .returned (.int .i64 0) ∧ w = w' := by
  go_enter Try.func36, Try.ntmps36
  go_wp2
  go_ret
  exact ⟨rfl, rfl⟩

/-- what holds between two rounds. -/
structure MemI (p : Vt → Bool) (gm gh r : Nat) (n : Nat) (L : List Vt) (w0 : World) (c : Value) (wr : World) (rest : List Vt) (cnt : Nat) (pre : List Vt) : Prop where
  c : c = .int .i64 (memN n p pre)
  rg : RangeAt tM wr gm r L rest cnt
  perm : L.Perm (pre ++ rest)
  had : Row1 wr gh 3 (hadL n p pre)
  b : Below w0.heap.size w0 wr

set_option maxRecDepth 100000 in
set_option maxHeartbeats 1000000 in
theorem members_c (gf : Nat) (lb : Array Value) (p : Vt → Bool) (g gm : Nat) (n : Nat) (L : List Vt) (w : World) (h : Tly w g gm n L) (eg : ∀ args w, (callFunc gf args).run Try.prog w = .ok (.enter gf args) w)
    (hcl : ∀ (W : World) (v : Vt), Below w.heap.size w W → Calls Try.prog gf (#[vval v] ++ lb) W fun e W' => e = .returned (.bool (p v)) ∧ Below W.heap.size W W') :
    Calls Try.prog 36 #[.pointer (some ⟨g, 0, none⟩), .func (.func gf) #[] lb] w fun e w' => e = .returned (.int .i64 (memN n p L)) ∧ Below w.heap.size w w' := by
  have hn := h.n
  have c0 := h.row.cell (k := 0) rfl
  have c1 := h.row.cell (k := 1) rfl
  have HCL := hid hcl
  have hglt := h.lt.1
  clear hcl
  go_enter Try.func36, Try.ntmps36
  go_wp2_with (first | (at_make; refine wpList_make_row elt_int _ rfl _ _ rfl .i64 .i64 _ _ (n + 1) rfl rfl (by omega) (by omega) (by omega) (by omega) ?_; intro w1 hH1 hs1 hb1; rw [← hadL_nil n p] at hH1; have c1' := (hb1.cell (p := ⟨g, 1, none⟩) hglt).trans c1) | (at_range; refine wpList_range_vote _ rfl _ rfl rfl (h.map.below hb1) ?_; intro w2 cnt hrg2 hg2 hs2))
  go_frame
  have hr1 : gm ≠ w.heap.size := fun e => by have := h.lt.2.1; omega
  have hgl := h.lt.2.1
  have hsz := hb1.size
  have hH2 := hH1.keep (hg2.block _ hH1.lt (by simp))
  have hB2 : Below w.heap.size w w2 := hb1.trans ⟨hg2.os, hg2.tape, hg2.output, hg2.size, fun k hk => hg2.block k (by omega) (by simp)⟩
  have HM := hid h.mays
  have HX := hid (⟨hs1, hs2, h.len⟩ : _ ∧ _ ∧ _)
  have hr2 : w.heap.size < w1.heap.size := by omega
  clear hH1 hs1 hs2 hg2 hb1 c0 c1 c1' h hr1
  generalize w1.heap.size = r at *
  clear w1
  go_loopw [6] (fun c wr => ∃ rest cnt pre, MemI p gm w.heap.size r n L w c wr rest cnt pre) (fun _ wr => wr.rangeLeft gm r)
  case atStart => exact ⟨L, cnt, [], by rw [memN_nil]; rfl, hrg2, .refl _, hH2, hB2⟩
  case round =>
    obtain ⟨rest, cnt2, pre, I⟩ := hrel
    obtain ⟨rfl, hrg, hp, hH, hB⟩ := I
    rename_i wr
    have HL := hid hrg.left
    have HP := hid hp
    clear hp hrg2 hH2 hB2
    go_wp2_with (at_next; refine wpList_next_vote _ rfl _ rfl rfl hrg ?_ ?_)
    · intro hr
      subst hr
      go_wp2
      go_ret
      exact ⟨ret_int (by rw [memN_perm HP.out, List.append_nil]), hB⟩
    · intro x rest' w3 cnt3 hperm hx hrg3 hlt hg3 hs3 hen
      have hfr := mays_fr HM.out hx
      have HPM := hid hperm
      have HS3 := hid hs3
      clear hperm hs3
      have hB3 := below_but hB hg3 (by omega) hB.size
      have hH3 := hH.but hg3 (by omega)
      have hV3 := row1_new w3 (vcl x) 30
      have hB4 := hB3.alloc hB3.size (.cells (vcl x).toArray 30)
      have hH4 := hH3.alloc (.cells (vcl x).toArray 30)
      have hrg4 := hrg3.below (below_alloc w3 (.cells (vcl x).toArray 30))
      have hfrN : x.fr.toNat < n + 1 := by omega
      have hpre := HP.out.length_eq
      have hlen := HX.out.2.2
      rw [List.length_append] at hpre
      have hadb := hadN_le p pre x.fr.toNat
      have hadb2 : (hadN p pre x.fr.toNat : Int) ≤ 10000 := by omega
      clear hpre hlen hadb hH3 hrg3 hB3 hg3 hH hrg hB
      simp only [List.toArray] at hV3 hB4 hH4 hrg4
      go_wp2_with (fail)
      generalize w3.alloc (.cells #[.int .i64 x.fr, .int .i64 x.rd, .int .u8 x.kd, .int .i64 x.va, .string x.tx] 30) = w4 at *
      refine (HCL.out w4 x hB4).mono ?_
      rintro e w5 ⟨rfl, hb5⟩
      have hB5 := below_next hB4 hB4.size hb5
      have hH5 := hH4.below hb5
      have hV5 := hV3.below hb5
      have hrg5 := hrg4.below hb5
      obtain ⟨d0, d1, d2, d3, d4⟩ := hV5.five
      clear hb5 hB4 hH4 hV3 hrg4
      have hpp : L.Perm ((pre ++ [x]) ++ rest') := by
        refine HP.out.trans ?_
        rw [List.append_assoc]
        exact HPM.out.append_left pre
      have HPP := hid hpp
      clear hpp
      cases hpx : p x with
      | false =>
        go_wp2
        go_roundw
        case rel => exact ⟨rest', cnt3, pre ++ [x], by rw [memN_snoc hfr, if_neg (by simp [hpx])]; rfl, hrg5, HPP.out, by rw [hadL_no hpx]; exact hH5, hB5⟩
        case measure => rw [HL.out, hrg5.left]; exact hlt
      | true =>
        have hI : (x.fr.toNat : Int) = x.fr := by omega
        have e0 := hH5.cell (hadL_at (p := p) (pre := pre) hfr.1 hfr.2)
        have f0 := hH5.frozen x.fr.toNat
        have hH6 := hH5.set x.fr.toNat (.int .i64 ((hadN p pre x.fr.toNat : Nat) + 1 : Int))
        rw [← hadL_yes hpx hfr.1 hfr.2] at hH6
        have HI := hid hI
        clear hI
        have hmem := memN_le n p pre
        have hmem2 : (memN n p pre : Int) ≤ 10 := by omega
        have HZ := hid (hadN_zero (p := p) (pre := pre) hfr.1)
        have HB6 := hid (hB5.setCell (p := ⟨w.heap.size, x.fr.toNat, none⟩) (Nat.le_refl _) (.int .i64 ((hadN p pre x.fr.toNat : Nat) + 1 : Int)))
        have hg1 : gm ≠ w.heap.size := by omega
        have hg2 : r ≠ w.heap.size := by omega
        have hrg6 := hrg5.keep (Below.heap_setCell w5 ⟨w.heap.size, x.fr.toNat, none⟩ (.int .i64 ((hadN p pre x.fr.toNat : Nat) + 1 : Int)) gm hg1) (Below.heap_setCell w5 ⟨w.heap.size, x.fr.toNat, none⟩ (.int .i64 ((hadN p pre x.fr.toNat : Nat) + 1 : Int)) r hg2)
        clear hmem hB5 hH5 hrg5 hV5
        cases hz : ((hadN p pre x.fr.toNat : Int) == 0) with
        | false =>
          have hz2 : ¬ (p x = true ∧ ∀ u ∈ pre, p u = true → u.fr ≠ x.fr) := fun h => by
            rw [HZ.out.2 h.2] at hz; simp at hz
          have HZ2 := hid hz2
          clear hz2
          go_wp2
          go_roundw
          case rel => exact ⟨rest', cnt3, pre ++ [x], by rw [memN_snoc hfr, if_neg HZ2.out]; rfl, hrg6, HPP.out, hH6, HB6.out⟩
          case measure => rw [HL.out, hrg6.left]; exact hlt
        | true =>
          have hz2 : p x = true ∧ ∀ u ∈ pre, p u = true → u.fr ≠ x.fr := ⟨hpx, HZ.out.1 (by simpa using hz)⟩
          have HZ2 := hid hz2
          clear hz2
          go_wp2
          go_roundw
          case rel => exact ⟨rest', cnt3, pre ++ [x], by rw [memN_snoc hfr, if_pos HZ2.out]; go_num, hrg6, HPP.out, hH6, HB6.out⟩
          case measure => rw [HL.out, hrg6.left]; exact hlt
end Go.Proofs.Ytnngnekfgijejaa
