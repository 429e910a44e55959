/-
  So many 00s; the same numbers.
-/
import Derived.Test.YthllhnjbddpeoaaDkK
import Derived.Laws.BytesArg
namespace Go.Proofs.Ythllhnjbddpeoaa
open Go.RowKit Go.Maps Go.Shelf Go.Proofs

theorem elt_u8 : Elt Try.prog 64 5 (.int .u8 0) 1 := Elt.of Try.underlying64 (by kernel_rfl) rfl
theorem zs_nums (n : Nat) : strOfNums (List.replicate n 0) = zs n := by
  simp [strOfNums, zs]
theorem conv_zeros {w : World} {g n : Nat} (h : Row1 w g 5 (List.replicate n (.int .u8 0))) : (convert 64 9 (.slice (some ⟨g, 0, none⟩) n n)).run Try.prog w = .ok (.string (zs n)) w := by
  rw [← zs_nums]
  refine run_convert_bytes_arg w 64 5 Try.underlying64 Try.underlying5 g 0 n n (List.replicate n 0) List.length_replicate (fun i hi => ?_) 9 Try.underlying9
  have := h.cell (k := i) (u := .int .u8 0) (by rw [List.getElem?_replicate, if_pos hi])
  rw [Nat.zero_add, this, List.getD_eq_getElem?_getD, List.getElem?_replicate, if_pos hi]
  rfl
set_option maxHeartbeats 1000000 in
theorem zeros_c (n : Nat) (w : World) (hn : n ≤ 1000000) :
    Calls Try.prog 21 #[.int .i64 (n : Int)] w fun e w' => e = .returned (.string (zs n)) ∧ Below w.heap.size w w' := by
  go_enter Try.func21, Try.ntmps21
  go_wp2_with (at_make; refine wpList_make_row elt_u8 _ rfl _ _ rfl .i64 .i64 (n : Int) (n : Int) n rfl rfl rfl rfl (by omega) (by omega) ?_; intro w1 hR hs hb; have hcv := conv_zeros hR)
  go_ret
  exact ⟨rfl, hb⟩

/-- the slice at A reads as these numbers. -/
abbrev CellsI (w : World) (A : Option Addr) (xs : List Int) : Prop := Cells w A (xs.map (Value.int .i64))
theorem OwnI.cellsI {w : World} {base : Nat} {v : Value} {xs : List Int} (h : OwnI w base v xs) : ∃ A cap, v = .slice A xs.length cap ∧ CellsI w A xs := by
  obtain ⟨A, cap, h1, h2⟩ := h.own.form
  rw [List.length_map] at h1
  exact ⟨A, cap, h1, h2⟩
def SameUpto {α : Type} (la lb : List α) (k : Nat) : Prop := ∀ i, i < k → la[i]? = lb[i]?
theorem SameUpto.step {α : Type} {la lb : List α} {k : Nat} {x : α} (h : SameUpto la lb k) (h1 : la[k]? = some x) (h2 : lb[k]? = some x) : SameUpto la lb (k + 1) := by
  intro i hi
  rcases Nat.lt_or_ge i k with h3 | h3
  · exact h i h3
  · obtain rfl : i = k := by omega
    rw [h1, h2]
theorem SameUpto.all {α : Type} {la lb : List α} (h : SameUpto la lb la.length) (hl : la.length = lb.length) : la = lb := by
  apply List.ext_getElem?
  intro i
  rcases Nat.lt_or_ge i la.length with h1 | h1
  · exact h i h1
  · rw [List.getElem?_eq_none h1, List.getElem?_eq_none (by omega)]

theorem ints_c (A B : Option Addr) (la lb : List Int) (ca cb : Nat) (w : World) (hA : Cells w A (la.map (.int .i64))) (hB : Cells w B (lb.map (.int .i64))) (hl : la.length ≤ 9223372036854775807) (hl' : lb.length ≤ 9223372036854775807) :
    Calls Try.prog 33 #[.slice A la.length ca, .slice B lb.length cb] w fun e w' => e = .returned (.bool (decide (la = lb))) ∧ Dr w w' := by
  by_cases hlen : la.length = lb.length
  · have hb : (((la.length : Nat) : Int) != ((lb.length : Nat) : Int)) = false := by simp [hlen]
    have HL := hid hlen
    clear hlen
    go_enter Try.func33, Try.ntmps33
    go_wp2
    go_loopw [5] (fun i wr => ∃ k : Nat, i = .int .i64 k ∧ k ≤ la.length ∧ SameUpto la lb k ∧ Dr w wr) (fun i _ => la.length - (intOf i).toNat)
    case atStart => exact ⟨0, rfl, by omega, fun i hi => absurd hi (by omega), Dr.refl w⟩
    case round =>
      obtain ⟨k, rfl, hk, hsame, hw⟩ := hrel
      by_cases hlt : k < la.length
      · obtain ⟨x, hx⟩ := get_of_lt hlt
        obtain ⟨y, hy⟩ := get_of_lt (l := lb) (show k < lb.length by have := HL.out; omega)
        obtain ⟨b, off, rfl, hc⟩ := (hA.dr hw).at_map hx
        obtain ⟨b', off', rfl, hc'⟩ := (hB.dr hw).at_map hy
        have hlt' : k < lb.length := by have := HL.out; omega
        by_cases hxy : x = y
        · subst hxy
          have hn : (x != x) = false := by simp
          have hs := hsame.step hx hy
          go_wp2
          go_quiet (fail)
          go_wp2
          go_roundw
          case rel => exact ⟨k + 1, by go_num, by omega, hs, hw.more _⟩
          case measure => simp [intOf]; omega
        · have hn : (x != y) = true := by simpa using hxy
          have hfin : decide (la = lb) = false := by
            simp only [decide_eq_false_iff_not]
            rintro rfl
            rw [hx] at hy
            exact hxy (Option.some.inj hy)
          have HF := hid hfin
          clear hfin hxy
          go_wp2
          go_quiet (fail)
          go_wp2
          go_ret
          exact ⟨ret_bool HF.out.symm, hw.more _⟩
      · have hfin : decide (la = lb) = true := by
          obtain rfl : k = la.length := by omega
          simp only [decide_eq_true_eq]
          exact hsame.all HL.out
        have HF := hid hfin
        clear hfin
        go_wp2
        go_ret
        exact ⟨ret_bool HF.out.symm, hw⟩
  · have hb : (((la.length : Nat) : Int) != ((lb.length : Nat) : Int)) = true := by simp; omega
    have hfin : decide (la = lb) = false := by
      simp only [decide_eq_false_iff_not]
      rintro rfl
      exact hlen rfl
    have HF := hid hfin
    clear hfin hlen
    go_enter Try.func33, Try.ntmps33
    go_wp2
    go_ret
    exact ⟨ret_bool HF.out.symm, Dr.refl w⟩

end Go.Proofs.Ythllhnjbddpeoaa
