/-
  Rows of the statements on ranks: is a list too large, two lists as one, turned about, how wide; is a number a prime.
-/
import Derived.Test.YtgdfphcggjclkaaDoorRaG
import Derived.Test.YtgdfphcggjclkaaDoorMore
namespace Go.Proofs.YtgdfphcggjclkaaDoor
open Go Go.RowKit Go.Maps Go.Shelf Go.Proofs

/-- rows that this call owns read as lists. -/
theorem ownRows_grid {w : World} {base : Nat} {v : Value} {F : List (List Int)} (h : OwnRows w base 22 23 v (F.map (·.map (.int .u64)))) : ∃ A c, v = .slice A F.length c ∧ Grid w A F := by
  obtain ⟨vs, h1, h2, h3⟩ := h
  obtain ⟨A, c, rfl, hc⟩ := h1.form
  rw [List.length_map] at h2
  refine ⟨A, c, by rw [h2], vs, hc, h2, fun i l hl => ?_⟩
  have hi : i < vs.length := by rw [h2]; exact (List.getElem?_eq_some_iff.1 hl).1
  have hv : vs[i]? = some vs[i] := List.getElem?_eq_getElem hi
  obtain ⟨A', c', e1, e2, e3⟩ := (h3 i _ _ hv (by rw [List.getElem?_map, hl]; rfl)).form
  rw [List.length_map] at e1 e3
  exact ⟨_, hv, A', c', e1, e2, e3⟩
set_option maxRecDepth 100000 in
set_option maxHeartbeats 1000000 in
theorem both_c (A B : Option Addr) (a b : List (List Int)) (c d : Nat) (w : World) (hA : Grid w A a) (hB : Grid w B b) (ha : a.length ≤ 1000) (hb : b.length ≤ 1000) :
    Calls Tryd.prog 55 #[.slice A a.length c, .slice B b.length d] w fun e w' => ∃ A' c' f, e = .returned (.slice A' f.length c') ∧ Hid (f = a ++ b) ∧ Grid w' A' f ∧ Below w.heap.size w w' := by
  obtain ⟨va, ca, la, ra⟩ := hA
  obtain ⟨vb, cb, lb, rb⟩ := hB
  have oa : ∀ u ∈ va, u.oneCell' = true := fun u hu => by
    obtain ⟨i, hi, rfl⟩ := List.getElem_of_mem hu
    obtain ⟨v, hv, A', c', rfl, _⟩ := ra i _ (List.getElem?_eq_getElem (by omega))
    rw [List.getElem?_eq_getElem hi] at hv
    rw [Option.some.inj hv]; rfl
  have ob : ∀ u ∈ vb, u.oneCell' = true := fun u hu => by
    obtain ⟨i, hi, rfl⟩ := List.getElem_of_mem hu
    obtain ⟨v, hv, A', c', rfl, _⟩ := rb i _ (List.getElem?_eq_getElem (by omega))
    rw [List.getElem?_eq_getElem hi] at hv
    rw [Option.some.inj hv]; rfl
  rw [← la, ← lb]
  rw [← la] at ha
  rw [← lb] at hb
  have HR := hid (⟨ra, rb, la, lb, oa, ob⟩ : _ ∧ _ ∧ _ ∧ _ ∧ _ ∧ _)
  clear ra rb la lb oa ob
  go_enter Tryd.func55, Tryd.ntmps55
  have hr0 := row1_new w [] 22
  have hb0 := below_alloc w (.cells [].toArray 22)
  have ho0 := hr0.own (Nat.le_refl _) (by decide)
  simp only [List.toArray, List.length_nil] at hr0 hb0 ho0
  clear hr0
  go_wp2_with (first
    | (at_builtin; refine wpList_more elt_rows (w.alloc (.cells #[] 22)) (by rfl) _ _ rfl w.heap.size ho0 rfl (ca.below hb0) rfl HR.out.2.2.2.2.1 (by simp; omega) (by simp; omega) (by simp) ?_; intro v1 w1 ho1 hb1; replace hb1 := hb0.trans hb1; clear hb0 ho0)
    | (at_builtin; refine wpList_more elt_rows w1 (by rfl) _ _ rfl w.heap.size ho1 rfl (cb.below hb1) rfl HR.out.2.2.2.2.2 (by simp; omega) (by simp; omega) hb1.size ?_; intro v2 w2 ho2 hb2; replace hb2 := hb1.trans hb2; clear hb1 ho1))
  go_ret
  obtain ⟨ra, rb, la, lb, _, _⟩ := HR.out
  rw [List.nil_append] at ho2
  obtain ⟨A', c', rfl, hc⟩ := ho2.form
  have hlen : (va ++ vb).length = (a ++ b).length := by rw [List.length_append, List.length_append, la, lb]
  rw [hlen]
  refine ⟨A', c', _, rfl, hid rfl, ⟨va ++ vb, hc, hlen, fun i l hl => ?_⟩, hb2⟩
  rcases Nat.lt_or_ge i a.length with h | h
  · rw [List.getElem?_append_left h] at hl
    obtain ⟨v, hv, hr⟩ := ra i l hl
    exact ⟨v, by rw [List.getElem?_append_left (by omega)]; exact hv, hr.below hb2⟩
  · rw [List.getElem?_append_right h] at hl
    obtain ⟨v, hv, hr⟩ := rb _ l hl
    exact ⟨v, by rw [List.getElem?_append_right (by omega), la]; exact hv, hr.below hb2⟩
set_option maxRecDepth 100000 in
theorem wide04_c (A : Option Addr) (f : List (List Int)) (c : Nat) (w : World) (hA : Grid w A f) (hl : f.length ≤ 9223372036854775807) :
    Calls Tryd.prog 54 #[.slice A f.length c] w fun e w' => e = .returned (.int .i64 (wideL f : Int)) ∧ w = w' := by
  go_enter Tryd.func54, Tryd.ntmps54
  go_wp2
  go_loop [3, 4] (fun n i => ∃ k : Nat, i = .int .i64 k ∧ k ≤ f.length ∧ n = .int .i64 (wideL (f.take k) : Int)) (fun _ i => f.length - (intOf i).toNat)
  case atStart => exact ⟨0, rfl, by omega, rfl⟩
  case round =>
    obtain ⟨k, rfl, hk, rfl⟩ := hrel
    by_cases hlt : k < f.length
    · obtain ⟨l, hx⟩ := get_of_lt hlt
      obtain ⟨b, off, A', c', rfl, hc, hcs, hln⟩ := hA.at_ hx
      have hs := wideL_take hx
      obtain ⟨n, hn⟩ : ∃ n, wideL (f.take k) = n := ⟨_, rfl⟩
      rw [hn] at hs ⊢
      have HS := hid hs
      clear hs hn
      go_wp2
      go_round
      case rel => exact ⟨k + 1, by go_num, by omega, by rw [HS.out]; exact congrArg _ (by omega)⟩
      case measure => simp [intOf]; omega
    · obtain rfl : k = f.length := by omega
      go_wp2
      go_ret
      exact ⟨ret_int (by first | rfl | rw [List.take_length]), rfl⟩
/-- the slice at A reads as these lists of rows. -/
def Grids (w : World) (A : Option Addr) (fs : List (List (List Int))) : Prop :=
  ∃ vs : List Value, Cells w A vs ∧ vs.length = fs.length ∧ ∀ (i : Nat) (f : List (List Int)), fs[i]? = some f → ∃ A' c', vs[i]? = some (.slice A' f.length c') ∧ Grid w A' f ∧ f.length ≤ 9223372036854775807
theorem Grids.at_ {w : World} {A : Option Addr} {fs : List (List (List Int))} (h : Grids w A fs) {k : Nat} {f : List (List Int)} (hk : fs[k]? = some f) :
    ∃ b off A' c, A = some ⟨b, off, none⟩ ∧ w.cell? ⟨b, off + k, none⟩ = some (.slice A' f.length c) ∧ Grid w A' f ∧ f.length ≤ 9223372036854775807 := by
  obtain ⟨vs, h1, h2, h3⟩ := h
  obtain ⟨A', c, hv, hg, hl⟩ := h3 k f hk
  obtain ⟨b, off, rfl, hcell⟩ := h1.at_ hv
  exact ⟨b, off, A', c, rfl, hcell, hg, hl⟩
theorem Grids.dr {w w' : World} {A : Option Addr} {fs : List (List (List Int))} (h : Grids w A fs) (hd : Dr w w') : Grids w' A fs := by
  obtain ⟨n, rfl⟩ := hd; exact h
/-- few rows, and short ones. -/
def Few (f : List (List Int)) : Prop := f.length ≤ 20 ∧ ∀ l ∈ f, l.length ≤ 20
theorem mem_take {α : Type} {l : List α} {k : Nat} {x : α} {P : α → Prop} (hx : l[k]? = some x) (h : ∀ u ∈ l.take k, P u) (h2 : P x) : ∀ u ∈ l.take (k + 1), P u := by
  rw [take_snocR hx]
  intro u hu
  rcases List.mem_append.1 hu with hu | hu
  · exact h u hu
  · rw [List.mem_singleton.1 hu]; exact h2
set_option maxRecDepth 100000 in
theorem large04_c (A : Option Addr) (fs : List (List (List Int))) (c : Nat) (w : World) (hA : Grids w A fs) (hl : fs.length ≤ 9223372036854775807) :
    Calls Tryd.prog 52 #[.slice A fs.length c] w fun e w' => (∃ b, e = .returned (.bool b) ∧ (b = false → ∀ f ∈ fs, Few f)) ∧ Dr w w' := by
  go_enter Tryd.func52, Tryd.ntmps52
  go_wp2
  go_loopw [3, 4] (fun i _ wr => ∃ k : Nat, i = .int .i64 k ∧ k ≤ fs.length ∧ Hid (∀ f ∈ fs.take k, Few f) ∧ Dr w wr) (fun i _ _ => fs.length - (intOf i).toNat)
  case atStart => exact ⟨0, rfl, by omega, hid (fun f hf => by simp at hf), Dr.refl _⟩
  case round =>
    obtain ⟨k, rfl, hk, HI, hw⟩ := hrel
    by_cases hlt : k < fs.length
    · obtain ⟨f, hx⟩ := get_of_lt hlt
      obtain ⟨b, off, A', c', rfl, hc, hg, hfl⟩ := (hA.dr hw).at_ hx
      have HX := hid hx
      clear hx
      by_cases hf : f.length ≤ 20
      · go_wp2
        generalize wr = wo at *
        go_loopw [4] (fun j w4 => ∃ m : Nat, j = .int .i64 m ∧ m ≤ f.length ∧ Hid (∀ l ∈ f.take m, l.length ≤ 20) ∧ Dr wo w4) (fun j _ => f.length - (intOf j).toNat)
        case atStart => exact ⟨0, rfl, by omega, hid (fun f hf => by simp at hf), Dr.refl _⟩
        case round =>
          obtain ⟨m, rfl, hm, HJ, hw4⟩ := hrel
          have hc4 := (hw4.cell _).trans hc
          by_cases hlt2 : m < f.length
          · obtain ⟨l, hxl⟩ := get_of_lt hlt2
            obtain ⟨b2, off2, A2, c2, rfl, hc2, _, hln⟩ := (hg.dr hw4).at_ hxl
            have HL := hid hxl
            clear hxl
            by_cases hl20 : l.length ≤ 20
            · go_wp2
              go_roundw
              case rel => exact ⟨m + 1, by go_num, by omega, hid (mem_take HL.out HJ.out hl20), hw4⟩
              case measure => simp [intOf]; omega
            · go_wp2
              go_ret
              exact ⟨⟨true, rfl, fun h => by cases h⟩, hw.trans hw4⟩
          · obtain rfl : m = f.length := by omega
            go_wp2
            go_roundw
            case rel => exact ⟨k + 1, by go_num, by omega, hid (mem_take HX.out HI.out ⟨hf, by have := HJ.out; rwa [List.take_length] at this⟩), hw.trans hw4⟩
            case measure => simp [intOf]; omega
      · go_wp2
        go_ret
        exact ⟨⟨true, rfl, fun h => by cases h⟩, hw⟩
    · obtain rfl : k = fs.length := by omega
      go_wp2
      go_ret
      exact ⟨⟨false, rfl, fun _ => by have := HI.out; rwa [List.take_length] at this⟩, hw⟩
set_option maxRecDepth 100000 in
theorem prime04_c (q : Int) (hq : U64 q) (hp : primeV q = true → rankV [[1]] q = 1) (w : World) (hT : Tabs w) [DecidableEq Lit] :
    Calls Tryd.prog 53 #[.int .u64 q] w fun e w' => e = .returned (.bool (primeV q)) ∧ Below w.heap.size w w' := by
  have hv : decide ((rankV [[1]] q : Int) = 1) = primeV q := by
    cases h : primeV q with
    | true => rw [hp h]; rfl
    | false => rw [rankV_no h]; rfl
  have HV := hid hv
  clear hv
  go_enter Tryd.func53, Tryd.ntmps53
  have hB := Bun.nil w
  go_wp2_with (refine wpList_named hB rfl ?_; clear hB; intro wn gn hB hbn hg; (try rw [hg]); clear hg)
  have hs := hB.b
  refine (rank_c _ [[1]] 1 q _ (grid_of (f := [[1]]) (hB.row (i := 0) rfl) ⟨rowV_at [1] (hB.row (i := 1) rfl) (by decide), trivial⟩) (rowsOk_of (by decide)) hq (hT.below hs)).mono ?_
  rintro e x1 ⟨rfl, hb⟩
  generalize rankV [[1]] q = n at *
  go_wp2
  go_ret
  exact ⟨ret_bool (by rw [← HV.out]; first | rfl | (congr 1) | simp), below_next hs hs.size hb⟩
end Go.Proofs.YtgdfphcggjclkaaDoor
