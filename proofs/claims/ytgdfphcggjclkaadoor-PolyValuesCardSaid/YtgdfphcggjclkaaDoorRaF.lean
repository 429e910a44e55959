/-
  The same numbers; what ranks, and solutions, come to at given numbers.
-/
import Derived.Test.YtgdfphcggjclkaaDoorRaE
import Derived.Test.YtgdfphcggjclkaaDoorLitB
namespace Go.Proofs.YtgdfphcggjclkaaDoor
open Go Go.RowKit Go.Maps Go.Shelf Go.Proofs

def SameUpto {α : Type} (la lb : List α) (k : Nat) : Prop := ∀ i, i < k → la[i]? = lb[i]?
theorem SameUpto.step {α : Type} {la lb : List α} {k : Nat} {x : α} (h : SameUpto la lb k) (h1 : la[k]? = some x) (h2 : lb[k]? = some x) : SameUpto la lb (k + 1) := by
  intro i hi
  rcases Nat.lt_or_ge i k with h3 | h3
  · exact h i h3
  · obtain rfl : i = k := by omega
    rw [h1, h2]
theorem SameUpto.all {α : Type} {la lb : List α} (h : SameUpto la lb la.length) (hl : la.length = lb.length) : la = lb := by
  apply List.ext_getElem?
  intro i
  rcases Nat.lt_or_ge i la.length with h1 | h1
  · exact h i h1
  · rw [List.getElem?_eq_none h1, List.getElem?_eq_none (by omega)]

theorem nums_c (A B : Option Addr) (la lb : List Int) (ca cb : Nat) (w : World) (hA : Cells w A (la.map (.int .u64))) (hB : Cells w B (lb.map (.int .u64))) (hl : la.length ≤ 9223372036854775807) (hl' : lb.length ≤ 9223372036854775807) :
    Calls Tryd.prog 48 #[.slice A la.length ca, .slice B lb.length cb] w fun e w' => e = .returned (.bool (decide (la = lb))) ∧ Dr w w' := by
  by_cases hlen : la.length = lb.length
  · have hb : (((la.length : Nat) : Int) != ((lb.length : Nat) : Int)) = false := by simp [hlen]
    have HL := hid hlen
    clear hlen
    go_enter Tryd.func48, Tryd.ntmps48
    go_wp2
    go_loopw [5] (fun i wr => ∃ k : Nat, i = .int .i64 k ∧ k ≤ la.length ∧ SameUpto la lb k ∧ Dr w wr) (fun i _ => la.length - (intOf i).toNat)
    case atStart => exact ⟨0, rfl, by omega, fun i hi => absurd hi (by omega), Dr.refl w⟩
    case round =>
      obtain ⟨k, rfl, hk, hsame, hw⟩ := hrel
      by_cases hlt : k < la.length
      · obtain ⟨x, hx⟩ := get_of_lt hlt
        obtain ⟨y, hy⟩ := get_of_lt (l := lb) (show k < lb.length by have := HL.out; omega)
        obtain ⟨b, off, rfl, hc⟩ := (hA.dr hw).at_map hx
        obtain ⟨b', off', rfl, hc'⟩ := (hB.dr hw).at_map hy
        have hlt' : k < lb.length := by have := HL.out; omega
        by_cases hxy : x = y
        · subst hxy
          have hn : (x != x) = false := by simp
          have hs := hsame.step hx hy
          go_wp2
          go_quiet (fail)
          go_wp2
          go_roundw
          case rel => exact ⟨k + 1, by go_num, by omega, hs, hw.more _⟩
          case measure => simp [intOf]; omega
        · have hn : (x != y) = true := by simpa using hxy
          have hfin : decide (la = lb) = false := by
            simp only [decide_eq_false_iff_not]
            rintro rfl
            rw [hx] at hy
            exact hxy (Option.some.inj hy)
          have HF := hid hfin
          clear hfin hxy
          go_wp2
          go_quiet (fail)
          go_wp2
          go_ret
          exact ⟨ret_bool HF.out.symm, hw.more _⟩
      · have hfin : decide (la = lb) = true := by
          obtain rfl : k = la.length := by omega
          simp only [decide_eq_true_eq]
          exact hsame.all HL.out
        have HF := hid hfin
        clear hfin
        go_wp2
        go_ret
        exact ⟨ret_bool HF.out.symm, hw⟩
  · have hb : (((la.length : Nat) : Int) != ((lb.length : Nat) : Int)) = true := by simp; omega
    have hfin : decide (la = lb) = false := by
      simp only [decide_eq_false_iff_not]
      rintro rfl
      exact hlen rfl
    have HF := hid hfin
    clear hfin hlen
    go_enter Tryd.func48, Tryd.ntmps48
    go_wp2
    go_ret
    exact ⟨ret_bool HF.out.symm, Dr.refl w⟩

/-- the inverse, by trying all. -/
def invS (q x : Int) : Int := match (List.range q.toNat).find? (fun (y : Nat) => decide ((y : Int) * x % q = 1)) with
  | some y => (y : Int)
  | none => 0
theorem iVal_invS {q : Int} (h : okm q = true) (h2 : 2 ≤ q) (x : Int) : iVal x q = invS q x := by
  unfold invS
  cases hf : (List.range q.toNat).find? (fun (y : Nat) => decide ((y : Int) * x % q = 1)) with
  | some y =>
    have h1 := List.find?_some hf
    have h3 := List.mem_range.1 (List.mem_of_find?_eq_some hf)
    have h1 : (y : Int) * x % q = 1 := by simpa using h1
    show iVal x q = (y : Int)
    refine iVal_is h ⟨by omega, by omega, (y : Int) * x / q, ?_⟩
    have := Int.mul_ediv_add_emod ((y : Int) * x) q
    omega
  | none =>
    refine iVal_none ?_
    rintro ⟨z, z0, z1, k, hk⟩
    rw [List.find?_eq_none] at hf
    refine hf z.toNat (List.mem_range.2 (by omega)) ?_
    have e : ((z.toNat : Nat) : Int) = z := by omega
    simp only [decide_eq_true_eq]
    rw [e, hk, Int.add_mul_emod_self_left]
    exact Int.emod_eq_of_lt (by omega) (by omega)
theorem iv_invS {q : Int} (h : primeV q = true) : iv q = invS q := funext fun x => iVal_invS (okm_prime h).1 (okm_prime h).2 x
theorem rankV_at {f : List (List Int)} {q : Int} (h : primeV q = true) : rankV f q = rankL q (invS q) f := by
  unfold rankV
  rw [if_pos h, iv_invS h]
theorem rankV_no {f : List (List Int)} {q : Int} (h : primeV q = false) : rankV f q = 0 := by
  unfold rankV
  rw [if_neg (by rw [h]; decide)]
theorem hangsV_at {f : List (List Int)} {row : List Int} {q : Int} (h : primeV q = true) : hangsV f row q = hangsL q (invS q) f row := by
  unfold hangsV
  rw [h, iv_invS h]; rfl
theorem hangsV_no {f : List (List Int)} {row : List Int} {q : Int} (h : primeV q = false) : hangsV f row q = false := by
  unfold hangsV
  rw [h]; rfl
def solveC (inv : Int → Int) (f : List (List Int)) (right : List Int) (q : Int) : List Int × Int :=
  if right.length ≤ f.length then
    let S := spaceL q inv (wideL (allR (wideL f) f right f.length)) (allR (wideL f) f right f.length)
    if (S.any fun p => decide (p.at_ = wideL f)) = true then ([], 5) else (tabL (wideL f) (valAt S (wideL f)), 0)
  else ([], 1)
theorem solveV_iv {f : List (List Int)} {right : List Int} {q : Int} (h : primeV q = true) : solveV f right q = solveC (iv q) f right q := by
  unfold solveV solveC
  by_cases hl : right.length ≤ f.length
  · rw [if_pos ⟨h, hl⟩, if_pos hl]
    have e : ((solveS f right q).any fun p => decide (p.at_ = wideL f)) = true ↔ ∃ p ∈ solveS f right q, p.at_ = wideL f := by
      rw [List.any_eq_true]
      constructor
      · rintro ⟨p, h1, h2⟩; exact ⟨p, h1, by simpa using h2⟩
      · rintro ⟨p, h1, h2⟩; exact ⟨p, h1, by simpa using h2⟩
    by_cases hb : ∃ p ∈ solveS f right q, p.at_ = wideL f
    · rw [if_pos hb]
      exact (if_pos (e.2 hb)).symm
    · rw [if_neg hb]
      exact (if_neg (fun h' => hb (e.1 h'))).symm
  · rw [if_neg (fun h' => hl h'.2), if_neg hl]
theorem solveV_at {f : List (List Int)} {right : List Int} {q : Int} (h : primeV q = true) : solveV f right q = solveC (invS q) f right q := by rw [solveV_iv h, iv_invS h]
theorem solveV_no {f : List (List Int)} {right : List Int} {q : Int} (h : primeV q = false) : solveV f right q = ([], 1) := by
  unfold solveV
  rw [if_neg (fun h' => by rw [h] at h'; exact absurd h'.1 (by decide))]

/-- rows, one by one. -/
def RowsV (w : World) : List Value → List (List Int) → Prop
  | [], [] => True
  | v :: vs, l :: f => RowV w v l ∧ RowsV w vs f
  | _, _ => False
theorem RowsV.len {w : World} : ∀ {vs : List Value} {f : List (List Int)}, RowsV w vs f → vs.length = f.length
  | [], [], _ => rfl
  | _ :: _, _ :: _, h => by rw [List.length_cons, List.length_cons, RowsV.len h.2]
theorem RowsV.at_ {w : World} : ∀ {vs : List Value} {f : List (List Int)} (_ : RowsV w vs f) (i : Nat) (l : List Int), f[i]? = some l → ∃ v, vs[i]? = some v ∧ RowV w v l
  | v :: _, l' :: _, h, 0, l, hl => ⟨v, rfl, by obtain rfl : l' = l := by simpa using hl
                                                exact h.1⟩
  | _ :: _, _ :: _, h, i + 1, l, hl => by
    obtain ⟨v, h1, h2⟩ := RowsV.at_ h.2 i l (by simpa using hl)
    exact ⟨v, by simpa using h1, h2⟩
  | [], [], _, i, l, hl => by simp at hl
theorem grid_of {w : World} {g : Nat} {e : TypeId} {vs : List Value} {f : List (List Int)} (hO : Row1 w g e vs) (h : RowsV w vs f) : Grid w (some ⟨g, 0, none⟩) f := ⟨vs, hO.cells, h.len, h.at_⟩
theorem grid_none (w : World) : Grid w none [] := ⟨[], .inl rfl, rfl, fun i l h => by simp at h⟩
theorem rowV_none (w : World) : RowV w (.slice none 0 0) [] := ⟨none, 0, rfl, .inl rfl, by decide⟩
theorem rowV_at {w : World} {g : Nat} {e : TypeId} (l : List Int) (h : Row1 w g e (l.map (.int .u64))) (hl : l.length ≤ 1000) : RowV w (.slice (some ⟨g, 0, none⟩) l.length l.length) l := ⟨_, _, rfl, h.cells, by omega⟩
def okF (f : List (List Int)) : Bool := decide (f.length ≤ 100000) && f.all fun l => decide (l.length ≤ 100000) && l.all fun z => decide (0 ≤ z) && decide (z < 18446744073709551616)
theorem u64s_of {l : List Int} (h : (l.all fun z => decide (0 ≤ z) && decide (z < 18446744073709551616)) = true) : U64s l := by
  intro z hz
  have := List.all_eq_true.1 h z hz
  simp only [Bool.and_eq_true, decide_eq_true_eq] at this
  exact this
theorem rowsOk_of {f : List (List Int)} (h : okF f = true) : RowsOk f := by
  unfold okF at h
  simp only [Bool.and_eq_true, decide_eq_true_eq] at h
  refine ⟨by omega, fun l hl => ?_, fun l hl => ?_⟩
  · have := List.all_eq_true.1 h.2 l hl
    simp only [Bool.and_eq_true, decide_eq_true_eq] at this
    omega
  · have := List.all_eq_true.1 h.2 l hl
    simp only [Bool.and_eq_true, decide_eq_true_eq] at this
    exact u64s_of this.2
theorem p2 : primeV 2 = true := by decide +kernel
theorem p3 : primeV 3 = true := by decide +kernel
theorem p5 : primeV 5 = true := by decide +kernel
theorem rk1 : rankV [[1, 2], [2, 4]] 7 = 1 := by rw [rankV_at prime_7]; decide +kernel
theorem rk2 : rankV [[1, 2], [2, 4], [0, 1]] 7 = 2 := by rw [rankV_at prime_7]; decide +kernel
theorem hg1 : hangsV [[1, 2]] [3, 6] 7 = true := by rw [hangsV_at prime_7]; decide +kernel
theorem hg2 : hangsV [] [0, 0] 7 = true := by rw [hangsV_at prime_7]; decide +kernel
theorem hg3 : hangsV [[1, 2]] [1] 7 = false := by rw [hangsV_at prime_7]; decide +kernel
theorem sv1 : solveV [[1, 2], [2, 4]] [3, 6] 7 = ([3, 0], 0) := by rw [solveV_at prime_7]; decide +kernel
theorem sv2 : solveV [[1, 2], [2, 4]] [3, 5] 7 = ([], 5) := by rw [solveV_at prime_7]; decide +kernel
theorem sv3 : solveV [[0, 2]] [3] 7 = ([0, 5], 0) := by rw [solveV_at prime_7]; decide +kernel
theorem sv4 : solveV [[1, 2], [2, 4]] [] 6 = ([], 1) := solveV_no (by decide +kernel)
theorem rn1 : rankV [] 7 = 0 := by rw [rankV_at prime_7]; decide +kernel
theorem rn2 : rankV [[], []] 7 = 0 := by rw [rankV_at prime_7]; decide +kernel
theorem rn3 : rankV [[7, 14]] 7 = 0 := by rw [rankV_at prime_7]; decide +kernel
theorem rn4 : rankV [[1], [0, 1], [0, 0, 1]] 2 = 3 := by rw [rankV_at p2]; decide +kernel
theorem rn5 : rankV [[1, 1], [1, 2305843009213693953]] 3 = 2 := by rw [rankV_at p3]; decide +kernel
def badq : List Int := [0, 1, 4, 9, 91, 2305843009213693952, 2305843009213693953, 18446744073709551557]
theorem badq_no : ∀ q ∈ badq, primeV q = false := by decide +kernel
theorem sn1 : solveV [] [] 5 = ([], 0) := by rw [solveV_at p5]; decide +kernel
theorem sn2 : solveV [] [0] 5 = ([], 1) := by rw [solveV_at p5]; decide +kernel
theorem sn3 : solveV [[1, 1, 0], [0, 0, 2]] [4] 5 = ([4, 0, 0], 0) := by rw [solveV_at p5]; decide +kernel
theorem sn4 : solveV [[0, 0]] [1] 5 = ([], 5) := by rw [solveV_at p5]; decide +kernel
theorem iv3 : iVal 3 2305843009213693951 = 1537228672809129301 := iVal_is (okm_prime prime_big).1 ⟨by decide, by decide, 2, by decide⟩
theorem sn5g : ∀ inv : Int → Int, solveC inv [[3]] [1] 2305843009213693951 = ([inv 3 % 2305843009213693951], 0) := by
  intro inv
  have h1 : spaceL 2305843009213693951 inv 2 [[3, 1]] = [⟨0, timesL 2305843009213693951 [3, 1] (inv 3)⟩] := by rfl
  have h2 : allR (wideL [[3]]) [[3]] [1] ([[3]] : List (List Int)).length = [[3, 1]] := by decide
  unfold solveC
  rw [h2, show wideL [[3]] = 1 from rfl, show wideL [[3, 1]] = 2 from rfl, if_pos (by decide)]
  simp only [h1]
  rw [if_neg (by simp)]
  have : tabL 1 (valAt [⟨0, timesL 2305843009213693951 [3, 1] (inv 3)⟩] 1) = [1 * inv 3 % 2305843009213693951] := rfl
  rw [this, Int.one_mul]
theorem sn5 : solveV [[3]] [1] 2305843009213693951 = ([1537228672809129301], 0) := by
  rw [solveV_iv prime_big, sn5g, show iv 2305843009213693951 3 = 1537228672809129301 from iv3]
  decide +kernel
end Go.Proofs.YtgdfphcggjclkaaDoor
