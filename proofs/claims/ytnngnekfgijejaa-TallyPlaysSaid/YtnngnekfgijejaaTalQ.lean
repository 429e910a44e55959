/-
  Votes as the document's; whether two rows of them, or of numbers, are the same.
-/
import Derived.Test.YtnngnekfgijejaaTalO
import Derived.Laws.StructEq
namespace Go.Proofs.Ytnngnekfgijejaa
open Go.RowKit Go.Maps Go.Shelf Go.Proofs

theorem neq_vote (a b : Vt) (W : World) : (binOp .neq 56 (vval a) (vval b)).run Try.prog W = .ok (.bool (!((a.fr == b.fr) && (a.rd == b.rd) && (a.kd == b.kd) && (a.va == b.va) && (a.tx.toList == b.tx.toList)))) W := by
  have u3 := Try.underlying3
  have a3 := Try.isAgg3
  have z3 := Try.sizeOf3
  have u5 := Try.underlying5
  have a5 := Try.isAgg5
  have z5 := Try.sizeOf5
  have u9 := Try.underlying9
  have a9 := Try.isAgg9
  have z9 := Try.sizeOf9
  have hS : Try.prog.underlying 56 = some (.struct (Try.prog.fieldsOf 56)) := by kernel_rfl
  have hp : Try.prog.stoodInHeld 56 = false := by kernel_rfl
  rw [run_neq_struct, show (10000 : Nat) = 9999 + 1 from rfl, run_equalIn_agg W 9999 56 _ _ hS hp]
  simp only [Program.fieldsOf, Try.underlying56]
  go_simp
  cases h1 : (a.fr == b.fr) <;> cases h2 : (a.rd == b.rd) <;> cases h3 : (a.kd == b.kd) <;> cases h4 : (a.va == b.va) <;> cases h5 : (a.tx.toList == b.tx.toList) <;> simp_all
theorem neq_same (a : Vt) (W : World) : (binOp .neq 56 (vval a) (vval a)).run Try.prog W = .ok (.bool false) W := by
  rw [neq_vote]; simp
theorem neq_other (a b : Vt) (h : a ≠ b) (W : World) : (binOp .neq 56 (vval a) (vval b)).run Try.prog W = .ok (.bool true) W := by
  rw [neq_vote]
  have : ((a.fr == b.fr) && (a.rd == b.rd) && (a.kd == b.kd) && (a.va == b.va) && (a.tx.toList == b.tx.toList)) = false := by
    cases h0 : ((a.fr == b.fr) && (a.rd == b.rd) && (a.kd == b.kd) && (a.va == b.va) && (a.tx.toList == b.tx.toList)) with
    | false => rfl
    | true =>
      rw [← beq_toListBytes] at h0
      simp only [Bool.and_eq_true, beq_iff_eq] at h0
      obtain ⟨⟨⟨⟨e1, e2⟩, e3⟩, e4⟩, e5⟩ := h0
      have he : a = b := by
        obtain ⟨a1, a2, a3, a4, a5⟩ := a
        obtain ⟨b1, b2, b3, b4, b5⟩ := b
        simp only at e1 e2 e3 e4 e5
        have e6 : a5 = b5 := by
          obtain ⟨a5⟩ := a5
          obtain ⟨b5⟩ := b5
          first | exact of_decide_eq_true e5 | (have := eq_of_beq (show (a5 == b5) = true from e5); rw [this])
        rw [e1, e2, e3, e4, e6]
      exact absurd he h
  rw [this]; rfl

def SameUpto {α : Type} (la lb : List α) (k : Nat) : Prop := ∀ i, i < k → la[i]? = lb[i]?
theorem SameUpto.step {α : Type} {la lb : List α} {k : Nat} {x : α} (h : SameUpto la lb k) (h1 : la[k]? = some x) (h2 : lb[k]? = some x) : SameUpto la lb (k + 1) := by
  intro i hi
  rcases Nat.lt_or_ge i k with h3 | h3
  · exact h i h3
  · obtain rfl : i = k := by omega
    rw [h1, h2]
theorem SameUpto.all {α : Type} {la lb : List α} (h : SameUpto la lb la.length) (hl : la.length = lb.length) : la = lb := by
  apply List.ext_getElem?
  intro i
  rcases Nat.lt_or_ge i la.length with h1 | h1
  · exact h i h1
  · rw [List.getElem?_eq_none h1, List.getElem?_eq_none (by omega)]

theorem info_rvote : (Try.prog.info? 56).map (fun i => (i.zero, i.size, i.bytes)) = some (some (vval zeroVt), 5, 48) := by kernel_rfl
theorem ints_c (A B : Option Addr) (la lb : List Int) (ca cb : Nat) (w : World) (hA : Cells w A (la.map (.int .i64))) (hB : Cells w B (lb.map (.int .i64))) (hl : la.length ≤ 9223372036854775807) (hl' : lb.length ≤ 9223372036854775807) :
    Calls Try.prog 23 #[.slice A la.length ca, .slice B lb.length cb] w fun e w' => e = .returned (.bool (decide (la = lb))) ∧ Dr w w' := by
  by_cases hlen : la.length = lb.length
  · have hb : (((la.length : Nat) : Int) != ((lb.length : Nat) : Int)) = false := by simp [hlen]
    have HL := hid hlen
    clear hlen
    go_enter Try.func23, Try.ntmps23
    go_wp2
    go_loopw [5] (fun i wr => ∃ k : Nat, i = .int .i64 k ∧ k ≤ la.length ∧ SameUpto la lb k ∧ Dr w wr) (fun i _ => la.length - (intOf i).toNat)
    case atStart => exact ⟨0, rfl, by omega, fun i hi => absurd hi (by omega), Dr.refl w⟩
    case round =>
      obtain ⟨k, rfl, hk, hsame, hw⟩ := hrel
      by_cases hlt : k < la.length
      · obtain ⟨x, hx⟩ := get_of_lt hlt
        obtain ⟨y, hy⟩ := get_of_lt (l := lb) (show k < lb.length by have := HL.out; omega)
        obtain ⟨b, off, rfl, hc⟩ := (hA.dr hw).at_map hx
        obtain ⟨b', off', rfl, hc'⟩ := (hB.dr hw).at_map hy
        have hlt' : k < lb.length := by have := HL.out; omega
        by_cases hxy : x = y
        · subst hxy
          have hn : (x != x) = false := by simp
          have hs := hsame.step hx hy
          go_wp2
          go_quiet (fail)
          go_wp2
          go_roundw
          case rel => exact ⟨k + 1, by go_num, by omega, hs, hw.more _⟩
          case measure => simp [intOf]; omega
        · have hn : (x != y) = true := by simpa using hxy
          have hfin : decide (la = lb) = false := by
            simp only [decide_eq_false_iff_not]
            rintro rfl
            rw [hx] at hy
            exact hxy (Option.some.inj hy)
          have HF := hid hfin
          clear hfin hxy
          go_wp2
          go_quiet (fail)
          go_wp2
          go_ret
          exact ⟨ret_bool HF.out.symm, hw.more _⟩
      · have hfin : decide (la = lb) = true := by
          obtain rfl : k = la.length := by omega
          simp only [decide_eq_true_eq]
          exact hsame.all HL.out
        have HF := hid hfin
        clear hfin
        go_wp2
        go_ret
        exact ⟨ret_bool HF.out.symm, hw⟩
  · have hb : (((la.length : Nat) : Int) != ((lb.length : Nat) : Int)) = true := by simp; omega
    have hfin : decide (la = lb) = false := by
      simp only [decide_eq_false_iff_not]
      rintro rfl
      exact hlen rfl
    have HF := hid hfin
    clear hfin hlen
    go_enter Try.func23, Try.ntmps23
    go_wp2
    go_ret
    exact ⟨ret_bool HF.out.symm, Dr.refl w⟩

theorem same15_c (A B : Option Addr) (la lb : List Vt) (ca cb : Nat) (w : World) (hA : CellsV w A la) (hB : CellsV w B lb) (hl : la.length ≤ 9223372036854775807) (hl' : lb.length ≤ 9223372036854775807) :
    Calls Try.prog 28 #[.slice A la.length ca, .slice B lb.length cb] w fun e w' => e = .returned (.bool (decide (la = lb))) ∧ Dr w w' := by
  by_cases hlen : la.length = lb.length
  · have hb : (((la.length : Nat) : Int) != ((lb.length : Nat) : Int)) = false := by simp [hlen]
    have HL := hid hlen
    clear hlen
    go_enter Try.func28, Try.ntmps28
    go_wp2
    go_loopw [5] (fun i wr => ∃ k : Nat, i = .int .i64 k ∧ k ≤ la.length ∧ SameUpto la lb k ∧ Dr w wr) (fun i _ => la.length - (intOf i).toNat)
    case atStart => exact ⟨0, rfl, by omega, fun i hi => absurd hi (by omega), Dr.refl w⟩
    case round =>
      obtain ⟨k, rfl, hk, hsame, hw⟩ := hrel
      by_cases hlt : k < la.length
      · obtain ⟨x, hx⟩ := get_of_lt hlt
        obtain ⟨y, hy⟩ := get_of_lt (l := lb) (show k < lb.length by have := HL.out; omega)
        obtain ⟨b, off, rfl, hbl, d0, d1, d2, d3, d4⟩ := (hA.dr hw).at_ hx
        obtain ⟨b', off', rfl, hbl', e0, e1, e2, e3, e4⟩ := (hB.dr hw).at_ hy
        have hlt' : k < lb.length := by have := HL.out; omega
        by_cases hxy : x = y
        · subst hxy
          have hn := fun W => neq_same x W
          have hm : Try.prog.eqGuardType Try.prog.depth 56 = false := by kernel_rfl
          have hs := hsame.step hx hy
          go_wp2
          go_quiet (fail)
          go_wp2
          go_roundw
          case rel => exact ⟨k + 1, by go_num, by omega, hs, hw.more _⟩
          case measure => simp [intOf]; omega
        · have hn := fun W => neq_other x y hxy W
          have hm : Try.prog.eqGuardType Try.prog.depth 56 = false := by kernel_rfl
          have hfin : decide (la = lb) = false := by
            simp only [decide_eq_false_iff_not]
            rintro rfl
            rw [hx] at hy
            exact hxy (Option.some.inj hy)
          have HF := hid hfin
          clear hfin hxy
          go_wp2
          go_quiet (fail)
          go_wp2
          go_ret
          exact ⟨ret_bool HF.out.symm, hw.more _⟩
      · have hfin : decide (la = lb) = true := by
          obtain rfl : k = la.length := by omega
          simp only [decide_eq_true_eq]
          exact hsame.all HL.out
        have HF := hid hfin
        clear hfin
        go_wp2
        go_ret
        exact ⟨ret_bool HF.out.symm, hw⟩
  · have hb : (((la.length : Nat) : Int) != ((lb.length : Nat) : Int)) = true := by simp; omega
    have hfin : decide (la = lb) = false := by
      simp only [decide_eq_false_iff_not]
      rintro rfl
      exact hlen rfl
    have HF := hid hfin
    clear hfin hlen
    go_enter Try.func28, Try.ntmps28
    go_wp2
    go_ret
    exact ⟨ret_bool HF.out.symm, Dr.refl w⟩

/-- votes, as the document's. -/
def StaysV (w w' : World) (A : Option Addr) (L : List Vt) : Prop := CellsV w A L → CellsV w' A L
set_option maxRecDepth 100000 in
set_option maxHeartbeats 1000000 in
theorem told_c (A : Option Addr) (L : List Vt) (c : Nat) (w : World) (hA : CellsV w A L) (hl : L.length ≤ 10000) :
    Calls Try.prog 29 #[.slice A L.length c] w fun e w' => ∃ v, e = .returned v ∧ OwnV w' w.heap.size 56 v L ∧ Below w.heap.size w w' := by
  go_enter Try.func29, Try.ntmps29
  go_wp2
  go_loopw [3, 4] (fun o i wr => ∃ k : Nat, i = .int .i64 k ∧ k ≤ L.length ∧ OwnV wr w.heap.size 56 o (L.take k) ∧ Below w.heap.size w wr) (fun _ i _ => L.length - (intOf i).toNat)
  case atStart => exact ⟨0, rfl, by omega, OwnV.nil _ _ _, Below.refl _ _⟩
  case round =>
    obtain ⟨k, rfl, hk, hown, hb⟩ := hrel
    rename_i wr
    by_cases hlt : k < L.length
    · obtain ⟨x, hx⟩ := get_of_lt hlt
      obtain ⟨b, off, rfl, hbl, d0, d1, d2, d3, d4⟩ := (hA.below hb).at_ hx
      have hown2 := hown.below (below_alloc wr (.cells (vcl x).toArray 56))
      have hl2 : (L.take k).length = k := by simp; omega
      have hsz := hb.size
      have HT := hid (show L.take k ++ [x] = L.take (k + 1) by rw [List.take_add_one, hx]; rfl)
      have HL := hid hl2
      obtain ⟨i0, hi, hz0, hz1, hz2⟩ := info_parts info_rvote
      clear hx hown hl2
      go_wp2_with (at_builtin; refine wpList_append_own _ rfl _ _ 61 rfl w.heap.size 56 i0 (vval zeroVt) 5 48 Try.underlying61 hi hz0 hz1 hz2 rfl (by decide) _ _ _ rfl hown2 ⟨wr.heap.size, 0, none⟩ 1 1 (vcl x) rfl rfl (news_five wr x _) (one_five x) (by rw [HL.out]; unfold maxLen; omega) (by rw [HL.out]; omega) (by simp; omega) ?_; intro v' w3 hO2 hg2 _)
      go_roundw
      case rel =>
        refine ⟨k + 1, by go_num, by omega, ?_, (hb.alloc hb.size _).grown hg2 (by simp; omega) fun k e => (hown2.block k e).1⟩
        rw [← HT.out]
        unfold OwnV
        rw [List.length_append, List.flatMap_append]
        exact hO2
      case measure => simp [intOf]; omega
    · obtain rfl : k = L.length := by omega
      rw [List.take_length] at hown
      go_wp2
      go_ret
      exact ⟨_, rfl, hown, hb⟩

/-- have two tallies the same votes? -/
theorem same_c (g1 m1 g2 m2 : Nat) (n1 n2 : Int) (L1 L2 : List Vt) (w : World) (h1 : Tly w g1 m1 n1 L1) (h2 : Tly w g2 m2 n2 L2) :
    Calls Try.prog 14 #[.pointer (some ⟨g1, 0, none⟩), .pointer (some ⟨g2, 0, none⟩)] w fun e w' => e = .returned (.bool (decide (L1 = L2))) ∧ Below w.heap.size w w' := by
  have l1 := h1.len
  have l2 := h2.len
  go_enter Try.func14, Try.ntmps14
  go_wp2_with (fail)
  refine (votes_c g1 m1 n1 L1 w h1).mono ?_
  rintro e w2 ⟨v, rfl, ho, hb⟩
  obtain ⟨A, c, rfl, hc⟩ := ho.form
  clear ho
  go_wp2_with (fail)
  refine (told_c A L1 c w2 hc l1).mono ?_
  rintro e w3 ⟨v, rfl, ho, hb3⟩
  obtain ⟨A3, c3, rfl, hc3⟩ := ho.form
  replace hb := below_next hb hb.size hb3
  clear ho hb3 hc
  go_wp2_with (fail)
  refine (votes_c g2 m2 n2 L2 w3 (h2.below hb)).mono ?_
  rintro e w4 ⟨v, rfl, ho, hb4⟩
  obtain ⟨A4, c4, rfl, hc4⟩ := ho.form
  replace hb := below_next hb hb.size hb4
  replace hc3 := hc3.below hb4
  clear ho hb4
  go_wp2_with (fail)
  refine (told_c A4 L2 c4 w4 hc4 l2).mono ?_
  rintro e w5 ⟨v, rfl, ho, hb5⟩
  obtain ⟨A5, c5, rfl, hc5⟩ := ho.form
  replace hb := below_next hb hb.size hb5
  replace hc3 := hc3.below hb5
  clear ho hb5 hc4
  go_wp2_with (fail)
  refine (same15_c A3 A5 L1 L2 c3 c5 w5 hc3 hc5 (by omega) (by omega)).mono ?_
  rintro e w6 ⟨rfl, hw⟩
  go_wp2
  go_ret
  exact ⟨rfl, below_dr hb hw⟩
end Go.Proofs.Ytnngnekfgijejaa
