/-
  Parts of: XNum, XFixF, XFixG (by pick.py).
  Lists held against one another by layer 22's document (by mkScB.py).
  Layer 22: whether shares of members may be asked.
  Layer 22: a member's share of the scores; what the iterator over the rows is made of.
  A range over a function whose rounds may end it, where a round also leaves alone what lies below some place (after XRobL). (No program in sight.)
  Layer 22: the iterator over the rows.
  Layer 22: the iterator over the rows, walked.
  Layer 22: the scores that shares tell.
  Layer 22: the params of the examples.
  Layer 22: the keys of a map, sorted.
  Layer 22: the set of the members whose share is wrong; what Liars tells.
  Layer 22: which shares a row tells as wrong; the keys of a set of the call's own, sorted. (No walk.)
-/
import Derived.Test.YtmmmdidbnjcooaaDoorFxA
import Derived.Test.YtmmmdidbnjcooaaDoorRobE
import Derived.BigQuiet
import Derived.Test.YtmmmdidbnjcooaaDoorAdB
import Derived.Test.YtmmmdidbnjcooaaDoorRobL
import Derived.Test.YtmmmdidbnjcooaaDoorRobP
import Derived.Test.YtmmmdidbnjcooaaDoorShelfK
import Derived.Test.YtmmmdidbnjcooaaDoorTab
import Derived.Test.YtmmmdidbnjcooaaDoorRaB

section
namespace Go.Proofs.YtmmmdidbnjcooaaDoor
/-! From XNum. -/
open Go.RowKit

/-- m is no modulus: two ways. -/
theorem okm_ways {m : Int} (h : ¬ okm m = true) (h0 : 0 ≤ m) : m = 0 ∨ (2305843009213693952 < m ∧ (m == 0) = false) := by
  have := okm_not (by simpa using h) h0
  rcases this with h | h
  · exact .inl h
  · exact .inr ⟨h, by simp; omega⟩

theorem mInt_ok {x q : Int} (h : okm q = true) : mInt x q = if 2 * (x % q) < q then x % q else x % q - q := by rw [mInt, if_pos h]
theorem mInt_no {x q : Int} (h : okm q = false) : mInt x q = 0 := by simp [mInt, h]
theorem mInt_i64 {x q : Int} : I64 (mInt x q) := by
  unfold mInt
  split
  · rename_i h
    have h0 := okm_pos h
    have h1 := okm_le h
    have x1 := Int.emod_nonneg x (b := q) (by omega)
    have x2 := Int.emod_lt_of_pos x h0
    split
    · exact ⟨by omega, by omega⟩
    · exact ⟨by omega, by omega⟩
  · exact ⟨by omega, by omega⟩

set_option maxHeartbeats 400000 in
theorem int_c (x q : Int) (hx : U64 x) (hq : U64 q) (w : World) :
    Calls Tryd.prog 77 #[.int .u64 x, .int .u64 q] w fun e w' => e = .returned (.int .i64 (mInt x q)) ∧ Dr w w' := by
  have hq' := hq
  obtain ⟨q1, q2⟩ := hq
  have hadd := mAdd_zero x q
  by_cases hm : okm q = true
  · have h0 := okm_pos hm
    have h1 := okm_le hm
    rw [mNum_ok hm] at hadd
    have x1 := Int.emod_nonneg x (b := q) (by omega)
    have x2 := Int.emod_lt_of_pos x h0
    have hd : (q == 0) = false := by simp; omega
    have hf := mInt_ok (x := x) hm
    obtain ⟨y, hy⟩ : ∃ y, x % q = y := ⟨_, rfl⟩
    rw [hy] at hadd x1 x2 hf
    have hw1 : IntKind.i64.wrap y = y := by rw [IntKind.wrap_i64]; omega
    have hw2 : IntKind.i64.wrap q = q := by rw [IntKind.wrap_i64]; omega
    by_cases hs : y ≤ (q - 1) / 2
    · have hfin : mInt x q = y := by rw [hf, if_pos (by omega)]
      have HF := hid hfin
      clear hf hfin hy
      go_enter Tryd.func77, Tryd.ntmps77
      go_wp2_with (fail)
      refine (add_c _ _ _ hx ⟨by omega, by omega⟩ hq' _).mono ?_; rintro e1 w1 ⟨rfl, hw⟩
      go_wp2
      go_ret
      exact ⟨ret_int HF.out.symm, hw⟩
    · have hfin : mInt x q = y - q := by rw [hf, if_neg (by omega)]
      have HF := hid hfin
      clear hf hfin hy
      go_enter Tryd.func77, Tryd.ntmps77
      go_wp2_with (fail)
      refine (add_c _ _ _ hx ⟨by omega, by omega⟩ hq' _).mono ?_; rintro e1 w1 ⟨rfl, hw⟩
      go_wp2
      go_ret
      exact ⟨ret_int HF.out.symm, hw⟩
  · have hz := mInt_no (x := x) (q := q) (by simpa using hm)
    rw [mNum_no (by simpa using hm)] at hadd
    have HZ := hid hz
    clear hz
    rcases okm_ways hm q1 with rfl | ⟨h1, h2⟩
    · go_enter Tryd.func77, Tryd.ntmps77
      go_wp2_with (fail)
      refine (add_c _ _ _ hx ⟨by omega, by omega⟩ hq' _).mono ?_; rintro e1 w1 ⟨rfl, hw⟩
      go_wp2
      go_ret
      exact ⟨ret_int HZ.out.symm, hw⟩
    · go_enter Tryd.func77, Tryd.ntmps77
      go_wp2_with (fail)
      refine (add_c _ _ _ hx ⟨by omega, by omega⟩ hq' _).mono ?_; rintro e1 w1 ⟨rfl, hw⟩
      go_wp2
      go_ret
      exact ⟨ret_int HZ.out.symm, hw⟩

/-! From XFixF. -/
open Go.RowKit

/-- the sum of the first k products, from a place on. -/
def dsum (l row : List Int) (q : Int) (at_ : Nat) : Nat → Int
  | 0 => 0
  | k + 1 => match l[at_ + k]?, row[k]? with
    | some a, some b => mAdd (dsum l row q at_ k) (mMul a b q) q
    | _, _ => dsum l row q at_ k
theorem dsum_u64 (l row : List Int) (q : Int) (at_ k : Nat) : U64 (dsum l row q at_ k) := by
  induction k with
  | zero => exact (⟨by decide, by decide⟩ : U64 0)
  | succ k ih => unfold dsum; split; exact mAdd_u64 _ _ _; exact ih
theorem dsum_in {l row : List Int} {q : Int} {at_ k : Nat} {a b : Int} (h1 : l[at_ + k]? = some a) (h2 : row[k]? = some b) : dsum l row q at_ (k + 1) = mAdd (dsum l row q at_ k) (mMul a b q) q := by
  conv => lhs; unfold dsum
  rw [h1, h2]
theorem dsum_out {l row : List Int} {q : Int} {at_ k : Nat} (h1 : l.length ≤ at_ + k) : dsum l row q at_ (k + 1) = dsum l row q at_ k := by
  conv => lhs; unfold dsum
  rw [List.getElem?_eq_none h1]

set_option maxHeartbeats 1000000 in
theorem dot1_c (at_ : Nat) (R L G : Nat) (A B : Option Addr) (row l : List Int) (c d : Nat) (q : Int) (w : World) (hat : at_ ≤ 1000) (hR : w.cell? ⟨R, 0, none⟩ = some (.slice A row.length c)) (hL : w.cell? ⟨L, 0, none⟩ = some (.slice B l.length d)) (hG : w.cell? ⟨G, 1, none⟩ = some (.int .u64 q))
    (hA : Cells w A (row.map (.int .u64))) (hB : Cells w B (l.map (.int .u64))) (hl : row.length ≤ 1000) (hl' : l.length ≤ 9223372036854775807) (hu : U64s row) (hu' : U64s l) (hq : U64 q) :
    Calls Tryd.prog 110 #[.int .i64 at_, .pointer (some ⟨R, 0, none⟩), .pointer (some ⟨L, 0, none⟩), .pointer (some ⟨G, 0, none⟩)] w fun e w' => e = .returned (.int .u64 (dsum l row q at_ row.length)) ∧ Dr w w' := by
  go_enter Tryd.func110, Tryd.ntmps110
  go_wp2
  go_loopw [5, 6, 7, 10] (fun s _ _ i wr => ∃ k : Nat, i = .int .i64 k ∧ k ≤ row.length ∧ s = .int .u64 (dsum l row q at_ k) ∧ Dr w wr) (fun _ _ _ i _ => row.length - (intOf i).toNat)
  case atStart => exact ⟨0, rfl, by omega, rfl, Dr.refl w⟩
  case round =>
    obtain ⟨k, rfl, hk, rfl, hw⟩ := hrel
    rename_i wr
    have hR' := (hw.cell _).trans hR
    have hL' := (hw.cell _).trans hL
    have hG' := (hw.cell _).trans hG
    have hSu : U64 (dsum l row q at_ k) := dsum_u64 _ _ _ _ _
    by_cases hlt : k < row.length
    · obtain ⟨b, hxb⟩ := get_of_lt hlt
      obtain ⟨o1, off1, rfl, hc1⟩ := (hA.dr hw).at_map hxb
      have hub := hu.at_ hxb
      by_cases hin : at_ + k < l.length
      · obtain ⟨a, hxa⟩ := get_of_lt hin
        obtain ⟨o2, off2, rfl, hc2⟩ := (hB.dr hw).at_map hxa
        have hua := hu'.at_ hxa
        have hstep := dsum_in (q := q) hxa hxb
        obtain ⟨S, hS⟩ : ∃ S, dsum l row q at_ k = S := ⟨_, rfl⟩
        rw [hS] at hstep hSu ⊢
        have HS := hid hstep
        clear hstep hS
        go_wp2
        go_quiet (first | (go_at_call 16; exact quiet_dr (mul_c _ _ _ hua hub hq _)) | (go_at_call 29; exact quiet_dr (add_c _ _ _ hSu (mMul_u64 _ _ _) hq _)))
        go_wp2
        go_roundw
        case rel => exact ⟨k + 1, by go_num, by omega, by rw [HS.out], hw.more _⟩
        case measure => simp [intOf]; omega
      · have HS := hid (dsum_out (row := row) (q := q) (at_ := at_) (k := k) (l := l) (by omega))
        go_wp2
        go_roundw
        case rel => exact ⟨k + 1, by go_num, by omega, by rw [HS.out], hw⟩
        case measure => simp [intOf]; omega
    · obtain rfl : k = row.length := by omega
      go_wp2
      go_ret
      exact ⟨rfl, hw⟩

/-! From XFixG. -/
open Go.RowKit

/-- the products. -/
def dotS (p : Par) (l x : List Int) : List Int := if fits p = true then (List.range p.K.toNat).map fun k => dsum l (rowS p x) p.Q (k * (p.D.toNat + 1)) (p.D.toNat + 1) else []

theorem pars_at {p : Par} {w : World} {g : Nat} {e : TypeId} (h : Row1 w g e (pcells p)) :
    w.cell? ⟨g, 0, none⟩ = some (.int .u64 p.P) ∧ w.cell? ⟨g, 1, none⟩ = some (.int .u64 p.Q) ∧ w.cell? ⟨g, 2, none⟩ = some (.int .u64 p.G) ∧ w.cell? ⟨g, 3, none⟩ = some (.int .u64 p.H) ∧
    w.cell? ⟨g, 4, none⟩ = some (.int .i64 p.Nodes) ∧ w.cell? ⟨g, 5, none⟩ = some (.int .i64 p.N) ∧ w.cell? ⟨g, 6, none⟩ = some (.int .i64 p.T) ∧ w.cell? ⟨g, 7, none⟩ = some (.int .i64 p.K) ∧
    w.cell? ⟨g, 8, none⟩ = some (.int .i64 p.D) ∧ w.cell? ⟨g, 9, none⟩ = some (.int .i64 p.R) ∧ w.cell? ⟨g, 10, none⟩ = some (.int .i64 p.M) ∧ w.cell? ⟨g, 11, none⟩ = some (.int .i64 p.X) :=
  ⟨h.cell (k := 0) rfl, h.cell (k := 1) rfl, h.cell (k := 2) rfl, h.cell (k := 3) rfl, h.cell (k := 4) rfl, h.cell (k := 5) rfl, h.cell (k := 6) rfl, h.cell (k := 7) rfl, h.cell (k := 8) rfl, h.cell (k := 9) rfl, h.cell (k := 10) rfl, h.cell (k := 11) rfl⟩

set_option maxRecDepth 100000 in
set_option maxHeartbeats 1000000 in
theorem fdot_c (p : Par) (hp : p.ok) (A B : Option Addr) (l x : List Int) (c d : Nat) (w : World) (hA : Cells w A (l.map (.int .u64))) (hB : Cells w B (x.map (.int .i64))) (hl : l.length ≤ 9223372036854775807) (hl' : x.length ≤ 17592186044415) (hu : U64s l) (hu' : I64s x) :
    Calls Tryd.prog 95 #[pval p, .slice A l.length c, .slice B x.length d] w (NewNums (dotS p l x) w) := by
  go_enter Tryd.func95, Tryd.ntmps95
  go_wp2_with (fail)
  have hb2 := ((below_alloc w (.cells (pcells p).toArray 34)).alloc (by simp) (.cells #[.slice A l.length c] 25))
  have hP : Row1 ((w.alloc (.cells (pcells p).toArray 34)).alloc (.cells #[.slice A l.length c] 25)) w.heap.size 34 (pcells p) := (row1_new w (pcells p) 34).alloc _
  have hL : Row1 ((w.alloc (.cells (pcells p).toArray 34)).alloc (.cells #[.slice A l.length c] 25)) (w.heap.size + 1) 25 [.slice A l.length c] := by
    have := row1_new (w.alloc (.cells (pcells p).toArray 34)) [.slice A l.length c] 25
    simpa using this
  have hA1 := hA.below hb2
  have hB1 := hB.below hb2
  have hsz : ((w.alloc (.cells (pcells p).toArray 34)).alloc (.cells #[.slice A l.length c] 25)).heap.size = w.heap.size + 2 := by simp
  refine (frow_c p hp _ _ _ _ hB1 hl' hu').mono ?_
  rintro e w1 ⟨v, rfl, hown, hb3⟩
  have hb4 := below_next hb2 hb2.size hb3
  have hP1 := hP.below hb3
  have hL1 := hL.below hb3
  have hA2 := hA1.below hb3
  rw [hsz] at hown
  obtain ⟨R, c', rfl, hR⟩ := hown.form
  rw [List.length_map]
  clear hP hL hA1 hB1 hb3 hb2 hsz hown
  have hRr := row1_new w1 [.slice R (rowS p x).length c'] 25
  have hbW := below_alloc w1 (.cells #[.slice R (rowS p x).length c'] 25)
  have hb5 := below_next hb4 hb4.size hbW
  have hP2 := hP1.below hbW
  have hL2 := hL1.below hbW
  have hA3 := hA2.below hbW
  have hR2 := hR.below hbW
  go_wp2
  generalize w1.alloc (.cells #[.slice R (rowS p x).length c'] 25) = W at *
  clear hP1 hL1 hA2 hR hbW hb4 hA hB
  have hKb : fits p = true → p.K.toNat ≤ 2 ∧ (p.K.toNat : Int) = p.K ∧ p.D.toNat ≤ 4 := fun h => by
    have hF := (fits_iff p).1 h
    have h1 := hF.K
    have h2 := hF.K0
    have h3 := hF.D
    have h4 := hF.D0
    omega
  have hrl : fits p = true → (rowS p x).length = p.D.toNat + 1 := fun h => by simp [rowS, h, padded_len]
  have hrl5 : (rowS p x).length ≤ 5 := by
    cases hf : fits p with
    | true => rw [hrl hf]; have := hKb hf; omega
    | false => simp [rowS, hf]
  have HKB := hid hKb
  have HRL := hid hrl
  clear hKb hrl
  go_loopw [9, 10] (fun o i wr => ∃ k : Nat, i = .int .i64 k ∧ k ≤ (dotS p l x).length ∧ Own wr W.heap.size 24 o (((dotS p l x).take k).map (.int .u64)) ∧ Below W.heap.size W wr) (fun _ i _ => (dotS p l x).length - (intOf i).toNat)
  case atStart => exact ⟨0, rfl, by omega, by simpa using Own.nil W W.heap.size 24, Below.refl _ _⟩
  case round =>
    obtain ⟨k, rfl, hk, hown, hb⟩ := hrel
    rename_i wr
    have hP3 := hP2.below hb
    obtain ⟨q0, q1, q2, q3, q4, q5, q6, q7, q8, q9, q10, q11⟩ := pars_at hP3
    cases hf : fits p with
    | false =>
      have hd0 : dotS p l x = [] := by simp [dotS, hf]
      have HD := hid hd0
      rw [hd0] at hk hown
      obtain rfl : k = 0 := by simpa using hk
      clear hd0
      go_wp2_with (go_at_call 51; refine (fit_c p _).mono ?_; rintro e w3 ⟨rfl, hb6⟩; rw [hf])
      go_ret
      have hb7 := below_next hb hb.size hb6
      refine ⟨_, rfl, ?_, hb5.trans (hb7.mono hb5.size)⟩
      rw [HD.out]
      exact (hown.below hb6).from_ hb5.size
    | true =>
      have hlen : (dotS p l x).length = p.K.toNat := by simp [dotS, hf]
      obtain ⟨K2, KK, D4⟩ := HKB.out hf
      have hrl' := HRL.out hf
      have hb1 : Below wr.heap.size wr wr := Below.refl _ _
      by_cases hlt : k < (dotS p l x).length
      · have hz : (dotS p l x)[k]? = some (dsum l (rowS p x) p.Q (k * (rowS p x).length) (rowS p x).length) := by
          rw [hlen] at hlt
          rw [hrl']
          simp [dotS, hf, hlt]
        have hs : ((dotS p l x).take k).map (Value.int .u64) ++ [Value.int .u64 (dsum l (rowS p x) p.Q (k * (rowS p x).length) (rowS p x).length)] = ((dotS p l x).take (k + 1)).map (.int .u64) := by
          rw [take_snoc' hz]; simp
        have hlen3 : (((dotS p l x).take k).map (Value.int .u64)).length = k := by simp; omega
        have hmul : ((k : Int) * ((rowS p x).length : Int)) = ((k * (rowS p x).length : Nat) : Int) := by simp
        have hat : k * (rowS p x).length ≤ 10 := by
          have : k ≤ 2 := by omega
          exact Nat.le_trans (Nat.mul_le_mul this hrl5) (by omega)
        have HS := hid hs
        have hrow := rowS_u64 p x
        have hrl3 : (rowS p x).length ≤ 1000 := by omega
        clear hs hz
        generalize k * (rowS p x).length = at_ at *
        go_wp2_with (fail)
        refine (fit_c p _).mono ?_
        rintro e w3 ⟨rfl, hb6⟩
        rw [hf]
        have hb7 := below_next hb hb.size hb6
        have hP4 := hP3.below hb6
        have q7' : w3.cell? ⟨w.heap.size, 7, none⟩ = some (.int .i64 (p.K.toNat : Int)) := by rw [KK]; exact hP4.cell (k := 7) rfl
        have hlt' : k < p.K.toNat := by omega
        have hRc := (hRr.below hb7).cell (k := 0) rfl
        have hLc := (hL2.below hb7).cell (k := 0) rfl
        have hGc := hP4.cell (k := 1) rfl
        have hown6 := hown.below hb6
        have hat2 : at_ ≤ 1000 := by omega
        have HK := hid (⟨hlt, hlen, hlen3⟩ : _ ∧ _ ∧ _)
        clear q0 q1 q2 q3 q4 q5 q6 q7 q8 q9 q10 q11 hP3 hown hrl' hlen hlen3 KK hlt
        go_wp2_with (first | (go_at_call 110; refine (dot1_c at_ _ _ _ _ _ _ _ _ _ _ _ hat2 hRc hLc hGc (hR2.below hb7) (hA3.below hb7) hrl3 hl hrow hu hp.Q).mono ?_; rintro e w4 ⟨rfl, hw4⟩) | (at_builtin; refine wpList_push elt_u64 w4 rfl _ _ rfl W.heap.size (hown6.dr hw4) rfl (.int .u64 (dsum l (rowS p x) p.Q at_ (rowS p x).length)) rfl rfl (by rw [HK.out.2.2]; have := HK.out.1; have := HK.out.2.1; omega) (by rw [HK.out.2.2]; have := HK.out.1; have := HK.out.2.1; omega) (by have := (below_dr hb7 hw4).size; omega) ?_; intro v' w5 hown5 _ hb8))
        go_roundw
        case rel =>
          rw [HS.out] at hown5
          exact ⟨k + 1, by go_num, HK.out.1, hown5, (below_dr hb7 hw4).trans hb8⟩
        case measure => have := HK.out.1; simp [intOf]; omega
      · obtain rfl : k = (dotS p l x).length := by omega
        have q7' : wr.cell? ⟨w.heap.size, 7, none⟩ = some (.int .i64 (p.K.toNat : Int)) := by rw [KK]; exact q7
        have HL := hid hlen
        have hlt' : ((dotS p l x).length : Int) = (p.K.toNat : Int) := by omega
        go_wp2_with (fail)
        refine (fit_c p _).mono ?_
        rintro e w3 ⟨rfl, hb6⟩
        rw [hf]
        have q7'' := (hb6.cell (lt_of_cell q7')).trans q7'
        rw [← hlt'] at q7''
        clear q0 q1 q2 q3 q4 q5 q6 q7 q8 q9 q10 q11 q7' hlt'
        go_wp2
        go_ret
        have hb7 := below_next hb hb.size hb6
        rw [List.take_length] at hown
        exact ⟨_, rfl, (hown.below hb6).from_ hb5.size, hb5.trans (hb7.mono hb5.size)⟩

end Go.Proofs.YtmmmdidbnjcooaaDoor
end

section
namespace Go.Proofs.YtmmmdidbnjcooaaDoor
open Go.RowKit Go.Shelf

attribute [local go_sem] Oper.semAt_some

set_option maxHeartbeats 400000 in
theorem nums22_c (A B : Option Addr) (la lb : List Int) (ca cb : Nat) (w : World) (hA : Cells w A (la.map (.int .u64))) (hB : Cells w B (lb.map (.int .u64))) (hl : la.length ≤ 9223372036854775807) (hl' : lb.length ≤ 9223372036854775807) :
    Calls Tryd.prog 74 #[.slice A la.length ca, .slice B lb.length cb] w fun e w' => e = .returned (.bool (decide (la = lb))) ∧ Dr w w' := by
  by_cases hlen : la.length = lb.length
  · have hb : (((la.length : Nat) : Int) != ((lb.length : Nat) : Int)) = false := by simp [hlen]
    have HL := hid hlen
    clear hlen
    go_enter Tryd.func74, Tryd.ntmps74
    go_wp2
    go_loopw [5] (fun i wr => ∃ k : Nat, i = .int .i64 k ∧ k ≤ la.length ∧ SameUpto la lb k ∧ Dr w wr) (fun i _ => la.length - (intOf i).toNat)
    case atStart => exact ⟨0, rfl, by omega, fun i hi => absurd hi (by omega), Dr.refl w⟩
    case round =>
      obtain ⟨k, rfl, hk, hsame, hw⟩ := hrel
      by_cases hlt : k < la.length
      · obtain ⟨x, hx⟩ := get_of_lt hlt
        obtain ⟨y, hy⟩ := get_of_lt (l := lb) (show k < lb.length by have := HL.out; omega)
        obtain ⟨b, off, rfl, hc⟩ := (hA.dr hw).at_map hx
        obtain ⟨b', off', rfl, hc'⟩ := (hB.dr hw).at_map hy
        have hlt' : k < lb.length := by have := HL.out; omega
        by_cases hxy : x = y
        · subst hxy
          have hn : (x != x) = false := by simp
          have hs := hsame.step hx hy
          go_wp2
          go_quiet (fail)
          go_wp2
          go_roundw
          case rel => exact ⟨k + 1, by go_num, by omega, hs, hw.more _⟩
          case measure => simp [intOf]; omega
        · have hn : (x != y) = true := by simpa using hxy
          have hfin : decide (la = lb) = false := by
            simp only [decide_eq_false_iff_not]
            rintro rfl
            rw [hx] at hy
            exact hxy (Option.some.inj hy)
          have HF := hid hfin
          clear hfin hxy
          go_wp2
          go_quiet (fail)
          go_wp2
          go_ret
          exact ⟨ret_bool HF.out.symm, hw.more _⟩
      · have hfin : decide (la = lb) = true := by
          obtain rfl : k = la.length := by omega
          simp only [decide_eq_true_eq]
          exact hsame.all HL.out
        have HF := hid hfin
        clear hfin
        go_wp2
        go_ret
        exact ⟨ret_bool HF.out.symm, hw⟩
  · have hb : (((la.length : Nat) : Int) != ((lb.length : Nat) : Int)) = true := by simp; omega
    have hfin : decide (la = lb) = false := by
      simp only [decide_eq_false_iff_not]
      rintro rfl
      exact hlen rfl
    have HF := hid hfin
    clear hfin hlen
    go_enter Tryd.func74, Tryd.ntmps74
    go_wp2
    go_ret
    exact ⟨ret_bool HF.out.symm, Dr.refl w⟩

set_option maxHeartbeats 400000 in
theorem ints22_c (A B : Option Addr) (la lb : List Int) (ca cb : Nat) (w : World) (hA : Cells w A (la.map (.int .i64))) (hB : Cells w B (lb.map (.int .i64))) (hl : la.length ≤ 9223372036854775807) (hl' : lb.length ≤ 9223372036854775807) :
    Calls Tryd.prog 44 #[.slice A la.length ca, .slice B lb.length cb] w fun e w' => e = .returned (.bool (decide (la = lb))) ∧ Dr w w' := by
  by_cases hlen : la.length = lb.length
  · have hb : (((la.length : Nat) : Int) != ((lb.length : Nat) : Int)) = false := by simp [hlen]
    have HL := hid hlen
    clear hlen
    go_enter Tryd.func44, Tryd.ntmps44
    go_wp2
    go_loopw [5] (fun i wr => ∃ k : Nat, i = .int .i64 k ∧ k ≤ la.length ∧ SameUpto la lb k ∧ Dr w wr) (fun i _ => la.length - (intOf i).toNat)
    case atStart => exact ⟨0, rfl, by omega, fun i hi => absurd hi (by omega), Dr.refl w⟩
    case round =>
      obtain ⟨k, rfl, hk, hsame, hw⟩ := hrel
      by_cases hlt : k < la.length
      · obtain ⟨x, hx⟩ := get_of_lt hlt
        obtain ⟨y, hy⟩ := get_of_lt (l := lb) (show k < lb.length by have := HL.out; omega)
        obtain ⟨b, off, rfl, hc⟩ := (hA.dr hw).at_map hx
        obtain ⟨b', off', rfl, hc'⟩ := (hB.dr hw).at_map hy
        have hlt' : k < lb.length := by have := HL.out; omega
        by_cases hxy : x = y
        · subst hxy
          have hn : (x != x) = false := by simp
          have hs := hsame.step hx hy
          go_wp2
          go_quiet (fail)
          go_wp2
          go_roundw
          case rel => exact ⟨k + 1, by go_num, by omega, hs, hw.more _⟩
          case measure => simp [intOf]; omega
        · have hn : (x != y) = true := by simpa using hxy
          have hfin : decide (la = lb) = false := by
            simp only [decide_eq_false_iff_not]
            rintro rfl
            rw [hx] at hy
            exact hxy (Option.some.inj hy)
          have HF := hid hfin
          clear hfin hxy
          go_wp2
          go_quiet (fail)
          go_wp2
          go_ret
          exact ⟨ret_bool HF.out.symm, hw.more _⟩
      · have hfin : decide (la = lb) = true := by
          obtain rfl : k = la.length := by omega
          simp only [decide_eq_true_eq]
          exact hsame.all HL.out
        have HF := hid hfin
        clear hfin
        go_wp2
        go_ret
        exact ⟨ret_bool HF.out.symm, hw⟩
  · have hb : (((la.length : Nat) : Int) != ((lb.length : Nat) : Int)) = true := by simp; omega
    have hfin : decide (la = lb) = false := by
      simp only [decide_eq_false_iff_not]
      rintro rfl
      exact hlen rfl
    have HF := hid hfin
    clear hfin hlen
    go_enter Tryd.func44, Tryd.ntmps44
    go_wp2
    go_ret
    exact ⟨ret_bool HF.out.symm, Dr.refl w⟩


set_option maxHeartbeats 400000 in
theorem whole22_c (A B : Option Addr) (la lb : List Int) (ca cb : Nat) (w : World) (hA : Cells w A (la.map (.int .i64))) (hB : Cells w B (lb.map (.int .i64))) (hl : la.length ≤ 9223372036854775807) (hl' : lb.length ≤ 9223372036854775807) :
    Calls Tryd.prog 43 #[.slice A la.length ca, .slice B lb.length cb] w fun e w' => e = .returned (.bool (decide (la = lb))) ∧ Dr w w' := by
  by_cases hlen : la.length = lb.length
  · have hb : (((la.length : Nat) : Int) != ((lb.length : Nat) : Int)) = false := by simp [hlen]
    have HL := hid hlen
    clear hlen
    go_enter Tryd.func43, Tryd.ntmps43
    go_wp2
    go_loopw [5] (fun i wr => ∃ k : Nat, i = .int .i64 k ∧ k ≤ la.length ∧ SameUpto la lb k ∧ Dr w wr) (fun i _ => la.length - (intOf i).toNat)
    case atStart => exact ⟨0, rfl, by omega, fun i hi => absurd hi (by omega), Dr.refl w⟩
    case round =>
      obtain ⟨k, rfl, hk, hsame, hw⟩ := hrel
      by_cases hlt : k < la.length
      · obtain ⟨x, hx⟩ := get_of_lt hlt
        obtain ⟨y, hy⟩ := get_of_lt (l := lb) (show k < lb.length by have := HL.out; omega)
        obtain ⟨b, off, rfl, hc⟩ := (hA.dr hw).at_map hx
        obtain ⟨b', off', rfl, hc'⟩ := (hB.dr hw).at_map hy
        have hlt' : k < lb.length := by have := HL.out; omega
        by_cases hxy : x = y
        · subst hxy
          have hn : (x != x) = false := by simp
          have hs := hsame.step hx hy
          go_wp2
          go_quiet (fail)
          go_wp2
          go_roundw
          case rel => exact ⟨k + 1, by go_num, by omega, hs, hw.more _⟩
          case measure => simp [intOf]; omega
        · have hn : (x != y) = true := by simpa using hxy
          have hfin : decide (la = lb) = false := by
            simp only [decide_eq_false_iff_not]
            rintro rfl
            rw [hx] at hy
            exact hxy (Option.some.inj hy)
          have HF := hid hfin
          clear hfin hxy
          go_wp2
          go_quiet (fail)
          go_wp2
          go_ret
          exact ⟨ret_bool HF.out.symm, hw.more _⟩
      · have hfin : decide (la = lb) = true := by
          obtain rfl : k = la.length := by omega
          simp only [decide_eq_true_eq]
          exact hsame.all HL.out
        have HF := hid hfin
        clear hfin
        go_wp2
        go_ret
        exact ⟨ret_bool HF.out.symm, hw⟩
  · have hb : (((la.length : Nat) : Int) != ((lb.length : Nat) : Int)) = true := by simp; omega
    have hfin : decide (la = lb) = false := by
      simp only [decide_eq_false_iff_not]
      rintro rfl
      exact hlen rfl
    have HF := hid hfin
    clear hfin hlen
    go_enter Tryd.func43, Tryd.ntmps43
    go_wp2
    go_ret
    exact ⟨ret_bool HF.out.symm, Dr.refl w⟩
end Go.Proofs.YtmmmdidbnjcooaaDoor
end

section
namespace Go.Proofs.YtmmmdidbnjcooaaDoor
open Go Go.RowKit Go.Maps Go.Shelf Go.Proofs

attribute [local go_sem] Oper.semAt_some

def argAt (K : Int) (at_ : List Int) (sh : List (List Int)) (i : Nat) : Bool := decide (1 ≤ at_.getD i 0) && (decide (at_.getD i 0 ≤ 7) && decide (((sh.getD i []).length : Int) = K))
def argsK (K : Int) (at_ : List Int) (sh : List (List Int)) (k : Nat) : Bool := (List.range k).all (argAt K at_ sh)
/-- may shares of these members be asked? -/
def argsB (K : Int) (at_ : List Int) (sh : List (List Int)) : Bool := decide (1 ≤ K) && (decide (K ≤ 2) && (decide (at_.length = sh.length) && argsK K at_ sh at_.length))
theorem argsK_succ (K : Int) (at_ : List Int) (sh : List (List Int)) (k : Nat) : argsK K at_ sh (k + 1) = (argsK K at_ sh k && argAt K at_ sh k) := by
  unfold argsK
  rw [List.range_succ, List.all_append]
  simp
theorem argsK_no {K : Int} {at_ : List Int} {sh : List (List Int)} {k n : Nat} (h : argAt K at_ sh k = false) (hk : k < n) : argsK K at_ sh n = false := by
  unfold argsK
  rw [List.all_eq_false]
  exact ⟨k, List.mem_range.2 hk, by rw [h]; simp⟩
set_option maxRecDepth 100000 in
set_option maxHeartbeats 4000000 in
theorem args_c (p : Par) (A B : Option Addr) (at_ : List Int) (sh : List (List Int)) (c d : Nat) (w : World) (hA : Cells w A (at_.map (.int .i64))) (hB : Grid w B sh) (hl : at_.length ≤ 1000) (hl' : sh.length ≤ 1000) :
    Calls Tryd.prog 75 #[pval p, .slice A at_.length c, .slice B sh.length d] w fun e w' => e = .returned (.bool (argsB p.K at_ sh)) ∧ Below w.heap.size w w' := by
  have hb0 := below_alloc w (.cells (pcells p).toArray 34)
  have hP := row1_new w (pcells p) 34
  have cK := hP.cell (k := 7) rfl
  have HA := hid hA
  have HB := hid hB
  obtain ⟨R, hR⟩ : ∃ R, argsB p.K at_ sh = R := ⟨_, rfl⟩
  rw [hR]
  have HR := hid hR
  clear hA hB hR hP
  go_enter Tryd.func75, Tryd.ntmps75
  simp only [List.toArray] at hb0 cK
  by_cases hK1 : p.K < 1
  · have HF := hid (show R = false by rw [← HR.out]; unfold argsB; rw [show decide (1 ≤ p.K) = false by simp; omega]; rfl)
    go_wp2
    go_ret
    exact ⟨ret_bool HF.out.symm, hb0⟩
  · by_cases hK2 : p.K > 2
    · have HF := hid (show R = false by rw [← HR.out]; unfold argsB; rw [show decide (p.K ≤ 2) = false by simp; omega]; simp)
      go_wp2
      go_ret
      exact ⟨ret_bool HF.out.symm, hb0⟩
    · by_cases hlen : at_.length = sh.length
      · have hbne : (((at_.length : Nat) : Int) != ((sh.length : Nat) : Int)) = false := by simp [hlen]
        have HL := hid hlen
        have HF := hid (show R = argsK p.K at_ sh at_.length by
          rw [← HR.out]; unfold argsB
          rw [show decide (1 ≤ p.K) = true by simp; omega, show decide (p.K ≤ 2) = true by simp; omega, show decide (at_.length = sh.length) = true by simp [hlen]]
          simp)
        clear hlen
        go_wp2
        generalize w.alloc (.cells _ 34) = w1 at *
        obtain ⟨gp, hgp⟩ : ∃ n, w.heap.size = n := ⟨_, rfl⟩
        have HGP := hid hgp
        rw [hgp] at cK ⊢
        have HCK := hid cK
        have HB0 := hid hb0
        clear hgp cK hb0 hbne
        go_loopw [7, 8, 26] (fun _ _ i wr => ∃ k : Nat, i = .int .i64 (k : Int) ∧ k ≤ at_.length ∧ Hid (argsK p.K at_ sh k = true ∧ Dr w1 wr)) (fun _ _ i _ => at_.length - (intOf i).toNat)
        case atStart => exact ⟨0, rfl, by omega, hid ⟨rfl, Dr.refl _⟩⟩
        case round =>
          obtain ⟨k, rfl, hk, HI⟩ := hrel
          by_cases hlt : k < at_.length
          · have hlt1 : (k : Int) < (at_.length : Int) := by omega
            obtain ⟨x, hx⟩ := get_of_lt hlt
            obtain ⟨s, hs⟩ := get_of_lt (l := sh) (show k < sh.length by have := HL.out; omega)
            have hlt2 : (k : Int) < (sh.length : Int) := by have := HL.out; omega
            have hbw := below_dr HB0.out HI.out.2
            obtain ⟨b1, o1, rfl, c1⟩ := (HA.out.below hbw).at_map hx
            obtain ⟨b2, o2, A2, c2, rfl, c3, _, hsl⟩ := (HB.out.below hbw).at_ hs
            have cK := (HI.out.2.cell ⟨gp, 7, none⟩).trans HCK.out
            have HAT := hid (show argAt p.K at_ sh k = (decide (1 ≤ x) && (decide (x ≤ 7) && decide ((s.length : Int) = p.K))) by
              unfold argAt
              rw [List.getD_eq_getElem?_getD, List.getD_eq_getElem?_getD, hx, hs]; rfl)
            have HSU := hid (argsK_succ p.K at_ sh k)
            have hdr := HI.out.2
            have HI1 := hid HI.out.1
            clear hx hs HI hbw
            by_cases h1 : x < 1
            · have HN := hid (show R = false by rw [HF.out]; exact argsK_no (by rw [HAT.out, show decide (1 ≤ x) = false by simp; omega]; rfl) hlt)
              have h1d : decide (x < 1) = true := by simpa using h1
              clear h1
              go_wp2
              go_quiet (fail)
              go_wp2
              go_ret
              exact ⟨ret_bool HN.out.symm, below_dr HB0.out (hdr.more _)⟩
            · by_cases h2 : x > 7
              · have HN := hid (show R = false by rw [HF.out]; exact argsK_no (by rw [HAT.out, show decide (x ≤ 7) = false by simp; omega]; simp) hlt)
                have h1d : decide (x < 1) = false := by simpa using h1
                have h2d : decide (x > 7) = true := by simpa using h2
                clear h1 h2
                go_wp2
                go_quiet (fail)
                go_wp2
                go_ret
                exact ⟨ret_bool HN.out.symm, below_dr HB0.out (hdr.more _)⟩
              · by_cases h3 : (s.length : Int) = p.K
                · have hn : ((s.length : Int) != p.K) = false := by simpa using h3
                  have HN := hid (show argsK p.K at_ sh (k + 1) = true by
                    rw [HSU.out, HI1.out, HAT.out, show decide (1 ≤ x) = true by simp; omega, show decide (x ≤ 7) = true by simp; omega, show decide ((s.length : Int) = p.K) = true by simpa using h3]; rfl)
                  have h1d : decide (x < 1) = false := by simpa using h1
                  have h2d : decide (x > 7) = false := by simpa using h2
                  clear h1 h2 h3
                  go_wp2
                  go_quiet (fail)
                  go_wp2
                  go_roundw
                  case rel => exact ⟨k + 1, by go_num, by omega, hid ⟨HN.out, hdr.more _⟩⟩
                  case measure => simp [intOf]; omega
                · have hn : ((s.length : Int) != p.K) = true := by simpa using h3
                  have HN := hid (show R = false by rw [HF.out]; exact argsK_no (by rw [HAT.out, show decide ((s.length : Int) = p.K) = false by simpa using h3]; simp) hlt)
                  have h1d : decide (x < 1) = false := by simpa using h1
                  have h2d : decide (x > 7) = false := by simpa using h2
                  clear h1 h2 h3
                  go_wp2
                  go_quiet (fail)
                  go_wp2
                  go_ret
                  exact ⟨ret_bool HN.out.symm, below_dr HB0.out (hdr.more _)⟩
          · obtain rfl : k = at_.length := by omega
            have HN := hid (show R = true by rw [HF.out]; exact HI.out.1)
            have hdr := HI.out.2
            clear HI
            go_wp2
            go_ret
            exact ⟨ret_bool HN.out.symm, below_dr HB0.out hdr⟩
      · have hbne : (((at_.length : Nat) : Int) != ((sh.length : Nat) : Int)) = true := by simp; omega
        have HF := hid (show R = false by rw [← HR.out]; unfold argsB; rw [show decide (at_.length = sh.length) = false by simpa using hlen]; simp)
        clear hlen
        go_wp2
        go_ret
        exact ⟨ret_bool HF.out.symm, hb0⟩
end Go.Proofs.YtmmmdidbnjcooaaDoor
end

section
namespace Go.Proofs.YtmmmdidbnjcooaaDoor
open Go Go.RowKit Go.Maps Go.Shelf Go.Proofs

attribute [local go_sem] Oper.semAt_some

abbrev prcl (y : Int × Int) : List Value := [.int .u64 y.1, .int .u64 y.2]
def valL (l : List (Int × Int)) (k : Nat) : List Int := (List.range l.length).map fun i => if i < k then (l.getD i (0, 0)).1 else 0
theorem valL_len (l : List (Int × Int)) (k : Nat) : (valL l k).length = l.length := by simp [valL]
theorem valL_zero (l : List (Int × Int)) : (valL l 0).map (Value.int .u64) = List.replicate l.length (.int .u64 0) := by
  apply List.ext_getElem?
  intro i
  unfold valL
  rw [List.getElem?_map, List.getElem?_map]
  by_cases h : i < l.length
  · rw [List.getElem?_range h, List.getElem?_replicate_of_lt h]; rfl
  · rw [List.getElem?_eq_none (by simpa using h), List.getElem?_eq_none (by simpa using h)]; rfl
theorem valL_set {l : List (Int × Int)} {k : Nat} {y : Int × Int} (hy : l[k]? = some y) : ((valL l k).map (Value.int .u64)).set k (.int .u64 y.1) = (valL l (k + 1)).map (Value.int .u64) := by
  apply List.ext_getElem?
  intro i
  rw [List.getElem?_set, List.length_map, valL_len]
  unfold valL
  rw [List.getElem?_map, List.getElem?_map, List.getElem?_map, List.getElem?_map]
  by_cases h : i < l.length
  · rw [List.getElem?_range h]
    by_cases e : k = i
    · subst e
      rw [if_pos rfl, if_pos h]
      simp only [Option.map_some]
      rw [if_pos (by omega), List.getD_eq_getElem?_getD, hy]; rfl
    · rw [if_neg e]
      simp only [Option.map_some]
      rw [show (if i < k then (l.getD i (0, 0)).1 else 0) = (if i < k + 1 then (l.getD i (0, 0)).1 else 0) by
        by_cases h1 : i < k
        · rw [if_pos h1, if_pos (by omega)]
        · rw [if_neg h1, if_neg (by omega)]]
  · rw [List.getElem?_eq_none (by simpa using h)]
    by_cases e : k = i
    · subst e
      rw [if_pos rfl, if_neg h]; rfl
    · rw [if_neg e]; rfl
theorem valL_all (l : List (Int × Int)) : valL l l.length = l.map (·.1) := by
  apply List.ext_getElem?
  intro i
  unfold valL
  rw [List.getElem?_map, List.getElem?_map]
  by_cases h : i < l.length
  · rw [List.getElem?_range h, List.getElem?_eq_getElem h]
    simp only [Option.map_some]
    rw [if_pos h, List.getD_eq_getElem?_getD, List.getElem?_eq_getElem h]; rfl
  · rw [List.getElem?_eq_none (by simpa using h), List.getElem?_eq_none (by simpa using h)]; rfl
set_option maxRecDepth 100000 in
set_option maxHeartbeats 4000000 in
theorem scoreOf_c (p : Par) (hp : p.ok) (A B : Option Addr) (l : List (Int × Int)) (x : List Int) (c d : Nat) (w : World) (hA : Cells w A (l.flatMap prcl)) (hB : Cells w B (x.map (.int .i64))) (hl : l.length ≤ 1000) (hl' : x.length ≤ 1000) (hu : U64s (l.map (·.1))) (hu' : I64s x) :
    Calls Tryd.prog 73 #[pval p, .slice A l.length c, .slice B x.length d] w (NewNums (dotS p (l.map (·.1)) x) w) := by
  have hb0 := below_alloc w (.cells (pcells p).toArray 34)
  have hP := row1_new w (pcells p) 34
  have HA := hid hA
  have HB := hid hB
  clear hA hB
  go_enter Tryd.func73, Tryd.ntmps73
  go_wp2_with (at_make; refine wpList_make_row elt_u64 _ rfl _ _ rfl .i64 .i64 _ _ l.length rfl rfl rfl rfl (by omega) (by omega) ?_; intro w2 hr2 hs2 hb2)
  have hsz1 : (w.alloc (.cells (pcells p).toArray 34)).heap.size = w.heap.size + 1 := by simp
  simp only [List.toArray] at hb0 hP hr2 hs2 hb2 hsz1
  generalize w.alloc (.cells _ 34) = w1 at *
  obtain ⟨gp, hgp⟩ : ∃ n, w.heap.size = n := ⟨_, rfl⟩
  obtain ⟨gv, hgv⟩ : ∃ n, w.heap.size + 1 = n := ⟨_, rfl⟩
  have hw1 := hP.lt
  have HP := hid (hP.below hb2)
  have HR2 := hid hr2
  have HB2 := hid (below_next hb0 hb0.size hb2)
  have HGV := hid (show w.heap.size ≤ gv by omega)
  have HLT := hid (show gp < gv by omega)
  rw [hsz1, hgv] at HR2
  rw [hgp] at HP
  rw [hgv, hgp]
  have HGP := hid hgp
  clear hP hr2 hs2 hb2 hb0 hgp hgv hw1 hsz1
  generalize w2 = w3 at *
  rw [← valL_zero] at HR2
  go_loopw [8, 9, 15] (fun _ _ i wr => ∃ k : Nat, i = .int .i64 (k : Int) ∧ k ≤ l.length ∧ Hid (Row1 wr gv 24 ((valL l k).map (.int .u64)) ∧ Row1 wr gp 34 (pcells p) ∧ Below w.heap.size w wr ∧ gp < gv)) (fun _ _ i _ => l.length - (intOf i).toNat)
  case atStart => exact ⟨0, rfl, by omega, hid ⟨HR2.out, HP.out, HB2.out, HLT.out⟩⟩
  case round =>
    obtain ⟨k, rfl, hk, HI⟩ := hrel
    by_cases hlt : k < l.length
    · have hlt1 : (k : Int) < (l.length : Int) := by omega
      obtain ⟨y, hy⟩ := get_of_lt hlt
      have f1 := flat_at prcl 2 (fun _ => rfl) l k 0 (by decide)
      have f2 := flat_at prcl 2 (fun _ => rfl) l k 1 (by decide)
      rw [hy] at f1 f2
      obtain ⟨b, off, rfl, c1⟩ := (HA.out.below HI.out.2.2.1).at_ f1
      obtain ⟨b', off', e', c2⟩ := (HA.out.below HI.out.2.2.1).at_ f2
      injection e' with e'
      injection e' with e1 e2 _
      subst e1
      subst e2
      have hb9 := below_alloc wr (.cells (prcl y).toArray 109)
      have hr9 := row1_new wr (prcl y) 109
      have hrv := HI.out.1.below hb9
      have hset := hrv.set k (.int .u64 y.1)
      rw [valL_set hy] at hset
      obtain ⟨x0, hx0⟩ := get_of_lt (l := valL l k) (show k < _ by rw [valL_len]; exact hlt)
      have d0 := hrv.cell (k := k) (u := .int .u64 x0) (by rw [List.getElem?_map, hx0]; rfl)
      have g0 := hrv.frozen k
      have e0 := hr9.cell (k := 0) rfl
      have hbn := (below_next HI.out.2.2.1 HI.out.2.2.1.size hb9).setCell (p := ⟨gv, k, none⟩) HGV.out (.int .u64 y.1)
      have hpn := (HI.out.2.1.below hb9).far (p := ⟨gv, k, none⟩) (by show gv ≠ gp; have := HI.out.2.2.2; omega) (.int .u64 y.1)
      have HN := hid (And.intro hset (And.intro hpn (And.intro hbn HI.out.2.2.2)))
      clear hy hx0 hset hbn hpn hrv hb9 hr9 f1 f2 HI
      simp only [List.toArray] at d0 g0 e0 HN
      rw [Nat.add_zero] at c1
      rw [← Nat.add_assoc] at c2
      go_wp2
      go_roundw
      case rel => exact ⟨k + 1, by go_num, by omega, HN⟩
      case measure => simp [intOf]; omega
    · rw [show (k : Int) = (l.length : Int) by omega]
      obtain rfl : k = l.length := by omega
      obtain ⟨p0, p1, p2, p3, p4, p5, p6, p7, p8, p9, p10, p11⟩ := par_cells HI.out.2.1
      have hc := HI.out.1.cells
      rw [valL_all] at hc
      have hp2 := fdot_c p hp (some ⟨gv, 0, none⟩) B (l.map (·.1)) x l.length d wr hc (HB.out.below HI.out.2.2.1) (by rw [List.length_map]; omega) (by omega) hu hu'
      rw [List.length_map] at hp2
      have HP2 := hid hp2
      have HBW := hid HI.out.2.2.1
      clear hc hp2 HI
      go_wp2_with (fail)
      refine HP2.out.mono ?_
      rintro e w9 ⟨v9, rfl, ho9, hb9⟩
      go_wp2
      go_ret
      exact ⟨v9, rfl, ho9.from_ HBW.out.size, below_next HBW.out HBW.out.size hb9⟩
end Go.Proofs.YtmmmdidbnjcooaaDoor
end

section
namespace Go.Proofs.YtmmmdidbnjcooaaDoor
open Go.RowKit

/-- what a round leaves: some blocks, and all that lies below N1. -/
def RelU (Kp : Nat → Prop) (N1 : Nat) (A B : World) : Prop := (∀ b, Kp b → b < A.heap.size → B.heap[b]? = A.heap[b]?) ∧ Below N1 A B
theorem RelU.trans {Kp : Nat → Prop} {N1 : Nat} {A B C : World} (hs : A.heap.size ≤ B.heap.size) (h : RelU Kp N1 A B) (k : RelU Kp N1 B C) : RelU Kp N1 A C := ⟨fun b h1 h2 => (k.1 b h1 (Nat.lt_of_lt_of_le h2 hs)).trans (h.1 b h1 h2), h.2.trans k.2⟩
theorem RelU.put {Kp : Nat → Prop} {N1 l : Nat} {A : World} {o' : Obj} (hk : ¬ Kp l) (hn : N1 ≤ l) : RelU Kp N1 A (A.putObj l o') :=
  ⟨fun b h1 _ => World.putObj_heap_other (fun e => hk (e ▸ h1)), ⟨rfl, rfl, rfl, by simp, fun b hb => World.putObj_heap_other (by omega)⟩⟩
theorem RelU.below {Kp : Nat → Prop} {N1 : Nat} {A B : World} (h : Below A.heap.size A B) (hn : N1 ≤ A.heap.size) : RelU Kp N1 A B := ⟨fun b _ h2 => h.block b h2, h.mono hn⟩
/-- the memory that rounds have made for themselves, and turn. -/
structure MnOk (Mine : World → Nat → Prop) : Prop where
  cells : ∀ A b, Mine A b → ∃ arr e fz, A.heap[b]? = some (.cells arr e fz)
  put : ∀ A l o o' b, A.heap[l]? = some o → o.isCells = false → o'.isCells = false → Mine (A.putObj l o') b → Mine A b
/-- what lies from N on stays, but for that memory. -/
structure UpM (Mine : World → Nat → Prop) (N : Nat) (A B : World) : Prop where
  size : A.heap.size ≤ B.heap.size
  keep : ∀ b, N ≤ b → b < A.heap.size → ¬ Mine A b → B.heap[b]? = A.heap[b]?
  mine : ∀ b, Mine B b → b < A.heap.size → Mine A b
theorem UpM.trans {Mine : World → Nat → Prop} {N : Nat} {A B C : World} (h : UpM Mine N A B) (k : UpM Mine N B C) : UpM Mine N A C :=
  ⟨Nat.le_trans h.size k.size, fun b h1 h2 h3 => (k.keep b h1 (Nat.lt_of_lt_of_le h2 h.size) fun hm => h3 (h.mine b hm h2)).trans (h.keep b h1 h2 h3), fun b hm h2 => h.mine b (k.mine b hm (Nat.lt_of_lt_of_le h2 h.size)) h2⟩
theorem UpM.from_ {Mine : World → Nat → Prop} {N M : Nat} {A B : World} (h : UpM Mine N A B) (hm : N ≤ M) : UpM Mine M A B := ⟨h.size, fun b h1 h2 h3 => h.keep b (Nat.le_trans hm h1) h2 h3, h.mine⟩
theorem UpM.put {Mine : World → Nat → Prop} (ok : MnOk Mine) {N l : Nat} {A : World} {o o' : Obj} (hl : A.heap[l]? = some o) (hc : o.isCells = false) (hc' : o'.isCells = false) (hn : l < N) : UpM Mine N A (A.putObj l o') :=
  ⟨by simp, fun b h1 _ _ => World.putObj_heap_other (by omega), fun b hm _ => ok.put A l o o' b hl hc hc' hm⟩
theorem MnOk.not {Mine : World → Nat → Prop} (ok : MnOk Mine) {A : World} {l : Nat} {o : Obj} (hl : A.heap[l]? = some o) (hc : o.isCells = false) : ¬ Mine A l := fun hm => by
  obtain ⟨arr, e, fz, h⟩ := ok.cells A l hm
  rw [hl] at h
  obtain rfl := Option.some.inj h
  cases hc
/-- no such memory. -/
theorem mnOk_none : MnOk fun _ _ => False := ⟨fun _ _ h => h.elim, fun _ _ _ _ _ _ _ _ h => h⟩

/-- how a round may end. -/
def StopsPostK {α : Type} (Mine : World → Nat → Prop) (Kp : Nat → Prop) (N1 N : Nat) (I : List α → World → Prop) (Ix : Code → List α → World → Prop) (xs : List α) (A : World) : Exit → Act → World → Prop
  | .normal, _, B => (UpM Mine N A B ∧ RelU Kp N1 A B) ∧ I xs B
  | .ret, _, B => (UpM Mine N A B ∧ RelU Kp N1 A B) ∧ Ix .ret xs B
  | .exit id, _, B => (UpM Mine N A B ∧ RelU Kp N1 A B) ∧ Ix (.exit id) xs B
  | .goto _, _, _ => False
  | .panic _, _, _ => False
  | .outgrown, _, _ => False

/-- an iterator: whoever asks it in whatever way, it hands on, one by one, what S tells, or the first ones, till it is told to stop. -/
def SeqK {α : Type} (F : Fence) (n : Nat) (P : Program) (gf : Nat) (lb : Array Value) (encs : α → Array Value) (Ok : α → World → Prop) (Pp S Sp : List α → Prop) (Mine : World → Nat → Prop) (Kp : Nat → Prop) (N1 : Nat) (w : World) : Prop :=
  ∀ (l : Nat) (J Jx : List α → World → Prop) (W : World), Below w.heap.size w W → (∀ xs A B, J xs A → Below A.heap.size A B → J xs B) → (∀ xs A B b, J xs A → Below A.heap.size A B → Mine B b → Mine A b) → (∀ xs A B, Jx xs A → Below W.heap.size A B → CellsUp 0 A B → Jx xs B) →
    (∀ pre x A, W.heap.size ≤ A.heap.size → J pre A → Ok x A → Pp (pre ++ [x]) → YieldAt F (n - 1) P l (encs x) A fun e B => ((e = .returned (.bool true) ∧ J (pre ++ [x]) B) ∨ (e = .returned (.bool false) ∧ Jx (pre ++ [x]) B)) ∧ UpM Mine W.heap.size A B ∧ RelU Kp N1 A B) →
    J [] W → CallsIn F n P gf (#[.func (.yield l) #[] #[]] ++ lb) W fun e B => (∃ v, e = .returned v) ∧ ((∃ xs, S xs ∧ J xs B) ∨ (∃ pre, Sp pre ∧ Jx pre B))

theorem wpIn_rangeStopK {α : Type} {F : Fence} {n : Nat} {P : Program} {g : Operand} {ps : Array Tmp} {assign body : Code} {Q : Exit → Act → World → Prop} {a : Act} {w : World}
    (hro : F.round = none) (h1 : 1 ≤ n) {gf : Nat} {lb : Array Value} (hg : a.eval g = .func (.func gf) #[] lb) (hFg : F.fn gf) (eg : ∀ args w, (callFunc gf args).run P w = .ok (.enter gf args) w)
    {encs : α → Array Value} (hps : ∀ x, (encs x).size = ps.size) (I : List α → World → Prop) (Ix : Code → List α → World → Prop) (Ok : α → World → Prop) (Pp S Sp : List α → Prop) {Mine : World → Nat → Prop}
    (hIb : ∀ xs A B, I xs A → Below A.heap.size A B → I xs B) (hIm : ∀ xs A B b, I xs A → Below A.heap.size A B → Mine B b → Mine A b) (hIp : ∀ xs A l o o', I xs A → w.heap.size ≤ l → A.heap[l]? = some o → o.isCells = false → I xs (A.putObj l o')) (hIxb : ∀ c xs A B, Ix c xs A → Below w.heap.size A B → CellsUp 0 A B → Ix c xs B)
    (hOp : ∀ x A l o o', Ok x A → w.heap.size ≤ l → A.heap[l]? = some o → o.isCells = false → Ok x (A.putObj l o'))
    (h0 : I [] w) (ok : MnOk Mine) {Kp : Nat → Prop} (hKp : ∀ b, Kp b → b < w.heap.size) {N1 : Nat} (hN1 : N1 ≤ w.heap.size) (hit : SeqK F (n - 1) P gf lb encs Ok Pp S Sp Mine Kp N1 w)
    (Asg : Act → α → Act → World → Prop) (hAp : ∀ b x a A l o o', Asg b x a A → w.heap.size ≤ l → A.heap[l]? = some o → o.isCells = false → Asg b x a (A.putObj l o')) (hOb : ∀ x A B, Ok x A → Below A.heap.size A B → Ok x B)
    (hassign : ∀ (l : Nat) (pre : List α) (x : α) (W : World) (K : Act → World → Prop), I pre W → Ok x W → (∀ a' W', Asg { tmps := (ps.zip (encs x)).foldl (fun t (p, v) => t.setIfInBounds p v) a.tmps, defers := [] } x a' W' → Below W.heap.size W W' → K a' W') →
      assign.wpIn (F.inRound l) (n - 1 - 1) P (Exit.then K (fun _ _ _ => False)) { tmps := (ps.zip (encs x)).foldl (fun t (p, v) => t.setIfInBounds p v) a.tmps, defers := [] } W)
    (hbody : ∀ (l : Nat) (pre : List α) (x : α) (a' : Act) (A : World), w.heap.size + 2 ≤ A.heap.size → I pre A → Ok x A → Asg { tmps := (ps.zip (encs x)).foldl (fun t (p, v) => t.setIfInBounds p v) a.tmps, defers := [] } x a' A → Pp (pre ++ [x]) → body.wpIn (F.inRound l) (n - 1 - 1) P (StopsPostK Mine Kp N1 w.heap.size I Ix (pre ++ [x]) A) a' A)
    (hdone : ∀ (D : Nat) (xs : List α) (A : World), w.heap.size ≤ D → w.heap.size ≤ A.heap.size → S xs → I xs A → A.heap[D]? = some (.deferred (some [])) → Q .normal { a with defers := { target := .collected D, args := #[] } :: a.defers } A)
    (hstop : ∀ (D : Nat) (c : Code) (pre : List α) (A : World), w.heap.size ≤ D → w.heap.size ≤ A.heap.size → Sp pre → Ix c pre A → A.heap[D]? = some (.deferred (some [])) → c.wpIn F n P Q { a with defers := { target := .collected D, args := #[] } :: a.defers } A) :
    (Code.rangeFunc g ps assign body).wpIn F n P Q a w := by
  refine wpIn_rangeFunc fun fn hfn => ?_
  rw [hro]
  let R : LoopState → Option Code → Loop := fun st pe => { state := st, pending := pe, fn, tmps := a.tmps, params := ps, assign, body, defers := w.heap.size }
  let d := w.heap.size
  let l := w.heap.size + 1
  let W0 := (w.alloc (.deferred (some []))).alloc (.loop (R .ready none))
  have hL0 : W0.heap[l]? = some (.loop (R .ready none)) := by
    have := World.alloc_heap_new (w.alloc (.deferred (some []))) (.loop (R .ready none))
    rwa [World.size_alloc] at this
  have hD0 : W0.heap[d]? = some (.deferred (some [])) := (Below.heap_alloc _ _ _ (by simp [d])).trans (World.alloc_heap_new w _)
  have hb0 : Below w.heap.size w W0 := ((Below.refl _ w).alloc (Nat.le_refl _) _).alloc (by simp) _
  have hI0 : I [] W0 := hIb _ _ _ h0 hb0
  have hs0 : W0.heap.size = w.heap.size + 2 := by simp [W0]
  refine ⟨l, [{ target := .collected d, args := #[] }], W0, { target := .fn (.func gf) lb, args := #[.func (.yield l) #[] #[]] }, W0, gf, #[.func (.yield l) #[] #[]] ++ lb, W0, run_enterLoop_outer _ _ _ _ _, ?_, ?_, ?_, fun _ => h1, ?_⟩
  · simp only [resolve, hg]
    simp [go_sem]
  · intro f' hf'
    simp [Target.leads] at hf'
    subst hf'
    exact hFg
  · simp [invoke, go_sem, eg]
  · refine (hit l (fun xs A => I xs A ∧ A.heap[l]? = some (.loop (R .ready none)) ∧ A.heap[d]? = some (.deferred (some [])) ∧ W0.heap.size ≤ A.heap.size)
      (fun xs A => ∃ c, Ix c xs A ∧ A.heap[l]? = some (.loop (R .done (some c))) ∧ A.heap[d]? = some (.deferred (some [])) ∧ W0.heap.size ≤ A.heap.size) W0 hb0 (fun xs A B hJ hb => ?_) (fun xs A B b hJ hb hm => hIm xs A B b hJ.1 hb hm) (fun xs A B hJ hb hcu => ?_) (fun pre x A hA hJ hx hpp => ?_) ⟨hI0, hL0, hD0, Nat.le_refl _⟩).mono ?_
    · have hsz := hJ.2.2.2
      exact ⟨hIb _ _ _ hJ.1 hb, (hb.block _ (by omega)).trans hJ.2.1, (hb.block _ (by omega)).trans hJ.2.2.1, Nat.le_trans hJ.2.2.2 hb.size⟩
    · obtain ⟨c, hJ⟩ := hJ
      exact ⟨c, hIxb _ _ _ _ hJ.1 (hb.mono (by omega)) hcu, (hb.block _ (by omega)).trans hJ.2.1, (hb.block _ (by omega)).trans hJ.2.2.1, Nat.le_trans hJ.2.2.2 hb.size⟩
    · obtain ⟨hi, hl, hd, _⟩ := hJ
      have hy := run_yield (P := P) (args := encs x) hl (hps x)
      refine ⟨fn, _, assign, body, hy, roundIn_of_wpIn hfn (hassign l pre x A _ hi hx fun a1 A' hAs hbA => ?_)⟩
      have hup0 : UpM Mine W0.heap.size A A' := ⟨hbA.size, fun b _ h2 _ => hbA.block b h2, fun b hm _ => hIm pre A A' b hi hbA hm⟩
      have hrl0 : RelU Kp N1 A A' := RelU.below hbA (by omega)
      have hsA := hbA.size
      have hlA : A.heap.size = A.heap.size := rfl
      replace hi := hIb _ _ _ hi hbA
      replace hx := hOb _ _ _ hx hbA
      have hl0 := hl
      replace hl := (hbA.block l (by omega)).trans hl
      replace hd := (hbA.block d (by omega)).trans hd
      refine ⟨_, run_beginRound hl rfl, ?_⟩
      clear hl0 hlA
      rename_i hAW
      have hAW' : W0.heap.size ≤ A'.heap.size := by omega
      have hAs2 := hAp _ _ _ _ l _ (.loop { R .ready none with state := .busy }) hAs (by omega) hl rfl
      have hll : l < A'.heap.size := by omega
      have hi2 := hIp _ _ l _ (.loop { R .ready none with state := .busy }) hi (by omega) hl rfl
      have hx2 := hOp _ _ _ _ (.loop { R .ready none with state := .busy }) hx (by omega) hl rfl
      have hl2 : (A'.putObj l (.loop { R .ready none with state := .busy })).heap[l]? = some (.loop { R .ready none with state := .busy }) := World.putObj_heap_same hll
      have hd2 : (A'.putObj l (.loop { R .ready none with state := .busy })).heap[d]? = some (.deferred (some [])) := (World.putObj_heap_other (by omega)).trans hd
      refine wpIn_mono (hbody l pre x _ _ (by simp; omega) hi2 hx2 hAs2 hpp) ?_
      intro e a3 B hp
      have fin : ∀ jump : Option Code, UpM Mine w.heap.size (A'.putObj l (.loop { R .ready none with state := .busy })) B ∧ RelU Kp N1 (A'.putObj l (.loop { R .ready none with state := .busy })) B →
          (Instr.endRound l jump).run P B = .ok (.bool jump.isNone) (B.putObj l (.loop (R (if jump.isNone then .ready else .done) jump))) ∧ B.heap[l]? = some (.loop { R .ready none with state := .busy }) ∧
          (B.putObj l (.loop (R (if jump.isNone then .ready else .done) jump))).heap[l]? = some (.loop (R (if jump.isNone then .ready else .done) jump)) ∧
          (B.putObj l (.loop (R (if jump.isNone then .ready else .done) jump))).heap[d]? = some (.deferred (some [])) ∧ W0.heap.size ≤ (B.putObj l (.loop (R (if jump.isNone then .ready else .done) jump))).heap.size ∧
          UpM Mine W0.heap.size A (B.putObj l (.loop (R (if jump.isNone then .ready else .done) jump))) ∧ RelU Kp N1 A (B.putObj l (.loop (R (if jump.isNone then .ready else .done) jump))) := fun jump hu0 => by
        obtain ⟨hu, hcu⟩ := hu0
        have hsz := hu.size
        rw [World.putObj_size] at hsz
        have hl3 := (hu.keep l (by omega) (by simpa using hll) (ok.not hl2 rfl)).trans hl2
        have hd3 := (hu.keep d (Nat.le_refl _) (by simp; omega) (ok.not hd2 rfl)).trans hd2
        have hkl : ¬ Kp l := fun h => by have := hKp _ h; omega
        refine ⟨run_endRound (P := P) jump hl3, hl3, World.putObj_heap_same (by omega), (World.putObj_heap_other (by omega)).trans hd3, by simp; omega, ?_⟩
        exact ⟨hup0.trans ((UpM.put ok hl rfl rfl (by omega)).trans ((hu.from_ (by omega)).trans (UpM.put ok hl3 rfl rfl (by omega)))), hrl0.trans hsA ((RelU.put hkl (by omega)).trans (by simp) (hcu.trans hu.size (RelU.put hkl (by omega))))⟩
      cases e with
      | normal =>
        obtain ⟨hu, hib⟩ := hp
        obtain ⟨hr, hl3, hl4, hd4, hs4, hu4⟩ := fin none hu
        exact ⟨_, _, hr, .inl ⟨rfl, hIp _ _ l _ _ hib (by omega) hl3 rfl, hl4, hd4, hs4⟩, hu4⟩
      | ret =>
        obtain ⟨hu, hib⟩ := hp
        obtain ⟨hr, hl3, hl4, hd4, hs4, hu4⟩ := fin (some .ret) hu
        exact ⟨_, _, hr, .inr ⟨rfl, .ret, hIxb _ _ _ _ hib (below_putR _ (by have := (Array.getElem?_eq_some_iff.1 hl3).1; omega) (by omega)) (CellsUp.put hl3 rfl), hl4, hd4, hs4⟩, hu4⟩
      | exit id =>
        obtain ⟨hu, hib⟩ := hp
        obtain ⟨hr, hl3, hl4, hd4, hs4, hu4⟩ := fin (some (.exit id)) hu
        exact ⟨_, _, hr, .inr ⟨rfl, .exit id, hIxb _ _ _ _ hib (below_putR _ (by have := (Array.getElem?_eq_some_iff.1 hl3).1; omega) (by omega)) (CellsUp.put hl3 rfl), hl4, hd4, hs4⟩, hu4⟩
      | goto t => exact hp.elim
      | panic ch => exact hp.elim
      | outgrown => exact hp.elim
    · rintro e B ⟨⟨v, rfl⟩, (⟨xs, hS, hi, hl, hd, hsz⟩ | ⟨pre, hS, c, hi, hl, hd, hsz⟩)⟩
      · have hll := (Array.getElem?_eq_some_iff.1 hl).1
        exact ⟨none, _, run_endLoop hl (by simp [R]), hdone d xs _ (Nat.le_refl _) (by simp; omega) hS (hIp _ _ l _ _ hi (by omega) hl rfl) ((World.putObj_heap_other (by omega)).trans hd)⟩
      · have hll := (Array.getElem?_eq_some_iff.1 hl).1
        exact ⟨some c, _, run_endLoop hl (by simp [R]), hstop d c pre _ (Nat.le_refl _) (by simp; omega) hS (hIxb _ _ _ _ hi (below_putR _ (by omega) (by omega)) (CellsUp.put hl rfl)) ((World.putObj_heap_other (by omega)).trans hd)⟩
end Go.Proofs.YtmmmdidbnjcooaaDoor
end

section
namespace Go.Proofs.YtmmmdidbnjcooaaDoor
open Go Go.RowKit Go.Maps Go.Shelf Go.Proofs

attribute [local go_sem] Oper.semAt_some

/-- number k of each share. -/
def colL (sh : List (List Int)) (k : Nat) : List Int := sh.map fun s => s.getD k 0
/-- what is told of d rows from number k on. -/
noncomputable def told22 (T Q : Int) (ats : List Int) (sh : List (List Int)) : Nat → Nat → List (Int × List Nat × Int)
  | 0, _ => []
  | d + 1, k => if (decR ats (colL sh k) T Q).2.2 = 0 then ((decR ats (colL sh k) T Q).1.getD 0 0, (decR ats (colL sh k) T Q).2.1, 0) :: told22 T Q ats sh d (k + 1) else [(0, [], (decR ats (colL sh k) T Q).2.2)]
abbrev ItemR := Value × (Int × List Nat × Int)
abbrev encR (x : ItemR) : Array Value := #[.agg #[.int .u64 x.2.1, x.1], .int .i64 x.2.2.2]
def OkR (x : ItemR) (w : World) : Prop := RowT w 3 x.1 (natv x.2.2.1) ∧ U64 x.2.1
theorem told22_len (T Q : Int) (ats : List Int) (sh : List (List Int)) : ∀ d k, (told22 T Q ats sh d k).length ≤ d
  | 0, _ => by simp [told22]
  | d + 1, k => by
    rw [told22]
    split
    · have := told22_len T Q ats sh d (k + 1)
      simp; omega
    · simp
theorem dec_some {xs ys c : List Int} {wrong : List Nat} {t q : Int} (h : decR xs ys t q = (c, wrong, 0)) : ∃ z c', c = z :: c' ∧ U64 z := by
  unfold decR at h
  split at h
  · cases h
  rename_i h1
  split at h
  · cases h
  rename_i h2
  split at h
  · rename_i h3
    have := congrArg (fun r => r.2.2) h
    exact absurd this h3
  rename_i h3
  have h3 : eAll xs q = 0 := Decidable.not_not.1 h3
  have hp : primeV q = true := by cases e : primeV q with | true => rfl | false => exact absurd (.inr (.inr (.inr e))) h1
  obtain ⟨hq, hq2⟩ := okm_prime hp
  have hap := apart_of_eAll h3
  have hl : xs.length ≤ 7 := by omega
  cases hf : (setsL (t.toNat + 1) 0 xs.length).findSome? (tryS xs ys t q) with
  | none => rw [hf] at h; cases h
  | some r =>
  rw [hf] at h
  have h : r = (c, wrong, 0) := h
  subst h
  obtain ⟨l1, s, l2, hL, hs, hn⟩ := List.findSome?_eq_some_iff.1 hf
  have hsm : s ∈ setsL (t.toNat + 1) 0 xs.length := by rw [hL]; simp
  obtain ⟨s1, s2, s3⟩ := (setsL_mem _ _ _ _).1 hsm
  have hi : ∀ i ∈ s, i < xs.length := fun i hi => (s3 i hi).2
  obtain ⟨_, v1, v2, v3⟩ := tVal_spec (ys := ys) hq hq2 hap (by omega) s2 hi (by omega)
  obtain ⟨hr, hgt⟩ := tryS_some hq hq2 hap hl s2 hi (by omega) hs
  injection hr with hc hr
  cases c with
  | nil => rw [← hc] at v1; simp at v1; omega
  | cons z c' => exact ⟨z, c', rfl, tVal_u64 (pick xs s) (pick ys s) q z (by rw [← hc]; exact List.mem_cons_self ..)⟩
set_option maxRecDepth 100000 in
theorem rows_c (p : Par) (A B : Option Addr) (n m c d : Nat) (w : World) :
    Calls Tryd.prog 76 #[pval p, .slice A n c, .slice B m d] w fun e w' => ∃ ga gp gs : Nat, e = .returned (.func (.func 96) #[] #[.pointer (some ⟨ga, 0, none⟩), .pointer (some ⟨gp, 0, none⟩), .pointer (some ⟨gs, 0, none⟩)]) ∧
      Row1 w' ga 46 [.slice A n c] ∧ Row1 w' gp 34 (pcells p) ∧ Row1 w' gs 26 [.slice B m d] ∧ w.heap.size ≤ ga ∧ w.heap.size ≤ gp ∧ w.heap.size ≤ gs ∧ Below w.heap.size w w' := by
  have h1 := row1_new w (pcells p) 34
  have h2 := row1_in (w.alloc (.cells (pcells p).toArray 34)) [.slice A n c] 46 (w.heap.size + 1) (by simp)
  have h3 := row1_in ((w.alloc (.cells (pcells p).toArray 34)).alloc (.cells #[.slice A n c] 46)) [.slice B m d] 26 (w.heap.size + 1 + 1) (by simp)
  have hb := ((below_alloc w (.cells (pcells p).toArray 34)).alloc (by simp) (.cells #[.slice A n c] 46)).alloc (by simp; omega) (.cells #[.slice B m d] 26)
  go_enter Tryd.func76, Tryd.ntmps76
  go_wp2
  go_ret
  exact ⟨w.heap.size + 1, w.heap.size, w.heap.size + 1 + 1, rfl, h2.alloc _, (h1.alloc _).alloc _, h3, by omega, by omega, by omega, hb⟩
end Go.Proofs.YtmmmdidbnjcooaaDoor
end

section
namespace Go.Proofs.YtmmmdidbnjcooaaDoor
open Go Go.RowKit Go.Maps Go.Shelf Go.Proofs

attribute [local go_sem] Oper.semAt_some

abbrev prs (l : List Int) : List (Int × Int) := l.map fun x => (x, 0)
abbrev prc (sh : List (List Int)) (k : Nat) : List (Int × Int) := sh.map fun s => (s.getD k 0, 0)
theorem prs_all (l : List Int) : valL (prs l) l.length = l := by
  have := valL_all (prs l)
  rw [List.length_map] at this
  rw [this, List.map_map]
  exact List.map_id _
theorem prc_all (sh : List (List Int)) (k : Nat) : valL (prc sh k) sh.length = colL sh k := by
  have := valL_all (prc sh k)
  rw [List.length_map] at this
  rw [this, List.map_map]; rfl
theorem valL_u64 {l : List (Int × Int)} (h : ∀ y ∈ l, U64 y.1) (k : Nat) : U64s (valL l k) := fun z hz => by
  obtain ⟨i, hi, rfl⟩ := List.mem_map.1 hz
  have hl := List.mem_range.1 hi
  by_cases h1 : i < k
  · rw [if_pos h1, List.getD_eq_getElem?_getD, List.getElem?_eq_getElem hl]
    exact h _ (List.getElem_mem hl)
  · rw [if_neg h1]; exact ⟨by omega, by omega⟩
/-- what the iterator holds to, in world w. -/
structure RowsSt (p : Par) (A B : Option Addr) (ats : List Int) (sh : List (List Int)) (c d ga gp gs : Nat) (w : World) : Prop where
  ra : Row1 w ga 46 [.slice A ats.length c]
  rp : Row1 w gp 34 (pcells p)
  rs : Row1 w gs 26 [.slice B sh.length d]
  cA : Cells w A (ats.map (.int .i64))
  cB : Grid w B sh
  tabs : Tabs w
theorem RowsSt.below {p : Par} {A B : Option Addr} {ats : List Int} {sh : List (List Int)} {c d ga gp gs : Nat} {w w' : World} (h : RowsSt p A B ats sh c d ga gp gs w) (hb : Below w.heap.size w w') : RowsSt p A B ats sh c d ga gp gs w' :=
  ⟨h.ra.below hb, h.rp.below hb, h.rs.below hb, h.cA.below hb, h.cB.below hb, h.tabs.below hb⟩
/-- the arguments may be asked. -/
structure RowsOk22 (p : Par) (ats : List Int) (sh : List (List Int)) : Prop where
  K0 : 0 ≤ p.K
  K2 : p.K ≤ 2
  len : ats.length = sh.length
  few : ats.length ≤ 1000
  at_ : ∀ x ∈ ats, 0 ≤ x ∧ x < 9223372036854775808
  row : ∀ s ∈ sh, (s.length : Int) = p.K
  u : ∀ s ∈ sh, U64s s
theorem wrap_u64_small {x : Int} (h0 : 0 ≤ x) (h1 : x < 9223372036854775808) : IntKind.u64.wrap x = x := by
  rw [IntKind.wrap_u64]; omega
set_option maxRecDepth 100000 in
set_option maxHeartbeats 8000000 in
theorem rows1_ok (p : Par) (hp : p.ok) (A B : Option Addr) (ats : List Int) (sh : List (List Int)) (c d k ga gp gs N1 : Nat) (Mine : World → Nat → Prop) (Kp : Nat → Prop) (w : World) (hok : RowsOk22 p ats sh) (hmn : MnOk Mine)
    (hst : ∀ W, RelU Kp N1 w W → RowsSt p A B ats sh c d ga gp gs W) (hN1 : N1 ≤ w.heap.size) :
    SeqK Fence.wide k Tryd.prog 96 #[.pointer (some ⟨ga, 0, none⟩), .pointer (some ⟨gp, 0, none⟩), .pointer (some ⟨gs, 0, none⟩)] encR OkR (fun xs => ∃ rest, xs.map (·.2) ++ rest = told22 p.T p.Q ats sh p.K.toNat 0) (fun xs => xs.map (·.2) = told22 p.T p.Q ats sh p.K.toNat 0) (fun pre => pre ≠ [] ∧ ∃ rest, pre.map (·.2) ++ rest = told22 p.T p.Q ats sh p.K.toNat 0) Mine Kp N1 w := by
  intro l J Jx W hb hJ hback hJx hY h0
  refine callsIn_wide.2 ?_
  have hW := RelU.below (Kp := Kp) hb hN1
  have S := hst W hW
  have HST := hid hst
  have HY := hid hY
  have HOK := hid hok
  have ca := S.ra.cell (k := 0) rfl
  have hfew := hok.few
  have hWs : w.heap.size ≤ W.heap.size := hb.size
  clear hst hY hok
  go_enter Tryd.func96, Tryd.ntmps96
  go_wp2_with (at_make; refine wpList_make_row elt_u64 _ rfl _ _ rfl .i64 .i64 _ _ ats.length rfl rfl rfl rfl (by omega) (by omega) ?_; intro w2 hr2 hs2 hb2; have ca2 := (S.below hb2).ra.cell (k := 0) rfl)
  obtain ⟨gx, hgx⟩ : ∃ n, W.heap.size = n := ⟨_, rfl⟩
  have HGX := hid hgx
  rw [hgx] at hr2 ⊢
  have HS2 := hid (S.below hb2)
  have hr0 : Row1 w2 gx 24 ((valL (prs ats) 0).map (.int .u64)) := by rw [valL_zero, List.length_map]; exact hr2
  have HR0 := hid hr0
  have HB2 := hid hb2
  have HJ0 := hid h0
  have HW2 := hid (hW.trans hWs (RelU.below hb2 (by omega)))
  clear hr0 hr2 hs2 hb2 ca2 ca S hgx h0
  go_loopw [6, 7, 20] (fun _ _ i wr => ∃ j : Nat, i = .int .i64 (j : Int) ∧ j ≤ ats.length ∧ Hid (Row1 wr gx 24 ((valL (prs ats) j).map (.int .u64)) ∧ Below W.heap.size W wr)) (fun _ _ i _ => ats.length - (intOf i).toNat)
  case atStart => exact ⟨0, rfl, by omega, hid ⟨HR0.out, HB2.out⟩⟩
  case round =>
    obtain ⟨j, rfl, hj, HI⟩ := hrel
    by_cases hlt : j < ats.length
    · have hlt1 : (j : Int) < (ats.length : Int) := by omega
      obtain ⟨x, hx⟩ := get_of_lt hlt
      obtain ⟨hx0, hx1⟩ := HOK.out.at_ x (List.mem_of_getElem? hx)
      have hSr := HST.out wr (hW.trans hWs (RelU.below HI.out.2 (by omega)))
      obtain ⟨b1, o1, rfl, c1⟩ := hSr.cA.at_map hx
      have hxp : (prs ats)[j]? = some (x, 0) := by rw [List.getElem?_map, hx]; rfl
      obtain ⟨y0, hy0⟩ := get_of_lt (l := valL (prs ats) j) (show j < _ by rw [valL_len, List.length_map]; exact hlt)
      have d0 := HI.out.1.cell (k := j) (u := .int .u64 y0) (by rw [List.getElem?_map, hy0]; rfl)
      have g0 := HI.out.1.frozen j
      have hset := HI.out.1.set j (.int .u64 x)
      rw [show (Value.int .u64 x) = .int .u64 ((x, (0 : Int)).1) from rfl, valL_set hxp] at hset
      have HN := hid (And.intro hset (HI.out.2.setCell (p := ⟨gx, j, none⟩) (by rw [HGX.out]; exact Nat.le_refl _) (.int .u64 x)))
      clear hx hxp hy0 hset hSr HI
      go_wp2
      go_roundw
      case rel => exact ⟨j + 1, by go_num, by omega, HN⟩
      case measure => simp [intOf]; omega
    · obtain rfl : j = ats.length := by omega
      have hrel := hW.trans hWs (RelU.below HI.out.2 (by omega))
      have hSr := HST.out wr hrel
      have hrx := HI.out.1
      rw [prs_all] at hrx
      have hsz := HI.out.2.size
      have HINV := hid (show ([] : List ItemR).map (·.2) ++ told22 p.T p.Q ats sh (p.K.toNat - 0) 0 = told22 p.T p.Q ats sh p.K.toNat 0 ∧ J [] wr ∧ Row1 wr gx 24 (ats.map (.int .u64)) ∧ RelU Kp N1 w wr ∧ W.heap.size ≤ wr.heap.size ∧ ¬ Mine wr gx from
        ⟨rfl, hJ _ _ _ HJ0.out HI.out.2, hrx, hrel, hsz, fun hm => by obtain ⟨arr, e, fz, h⟩ := hmn.cells _ _ (hback _ W wr gx HJ0.out HI.out.2 hm); have := (Array.getElem?_eq_some_iff.1 h).1; have := HGX.out; omega⟩)
      have k7 := hSr.rp.cell (k := 7) rfl
      have hK0 := HOK.out.K0
      obtain ⟨K, hK⟩ : ∃ K : Nat, p.K = K := ⟨p.K.toNat, by omega⟩
      have hk2 : K ≤ 2 := by have := HOK.out.K2; omega
      have HK := hid hK
      rw [hK] at k7
      clear HI hrel hSr hrx hsz hK hK0
      go_upto_region 7 with (fail)
      generalize wr = wo at *
      go_loopw [8, 9, 10, 11, 12, 13, 14, 33] (fun _ _ _ _ _ _ _ i wr => ∃ (k : Nat) (pre : List ItemR), i = .int .i64 (k : Int) ∧ k ≤ K ∧ Hid (pre.map (·.2) ++ told22 p.T p.Q ats sh (p.K.toNat - k) k = told22 p.T p.Q ats sh p.K.toNat 0 ∧ J pre wr ∧ Row1 wr gx 24 (ats.map (.int .u64)) ∧ RelU Kp N1 w wr ∧ W.heap.size ≤ wr.heap.size ∧ ¬ Mine wr gx)) (fun _ _ _ _ _ _ _ i _ => K - (intOf i).toNat)
      case atStart => exact ⟨0, [], rfl, by omega, HINV⟩
      case round =>
        obtain ⟨kk, pre, rfl, hkk, HI⟩ := hrel
        by_cases hlt : kk < K
        · have hlt1 : (kk : Int) < (K : Int) := by omega
          have HLT := hid hlt
          have hS := HST.out wr HI.out.2.2.2.1
          have cs := hS.rs.cell (k := 0) rfl
          have hlen := HOK.out.len
          have hshl : sh.length ≤ 1000 := by omega
          have HSW := hid hS
          have HWR := hid HI.out
          have hws : W.heap.size ≤ wr.heap.size := HI.out.2.2.2.2.1
          clear HI hS hlen
          go_wp2_with (at_make; refine wpList_make_row elt_u64 _ rfl _ _ rfl .i64 .i64 _ _ sh.length rfl rfl rfl rfl (by omega) (by omega) ?_; intro w3 hr3 hs3 hb3; have cs3 := (HSW.out.below hb3).rs.cell (k := 0) rfl)
          obtain ⟨gy, hgy⟩ : ∃ n, wr.heap.size = n := ⟨_, rfl⟩
          have HGY := hid hgy
          rw [hgy] at hr3 ⊢
          have hr0 : Row1 w3 gy 24 ((valL (prc sh kk) 0).map (.int .u64)) := by rw [valL_zero, List.length_map]; exact hr3
          have HR3 := hid hr0
          have HB3 := hid hb3
          clear hr0 hr3 hs3 hb3 cs3 cs hgy
          generalize wr = wq at *
          go_loopw [10, 11, 41] (fun _ _ i wz => ∃ j : Nat, i = .int .i64 (j : Int) ∧ j ≤ sh.length ∧ Hid (Row1 wz gy 24 ((valL (prc sh kk) j).map (.int .u64)) ∧ Below wq.heap.size wq wz)) (fun _ _ i _ => sh.length - (intOf i).toNat)
          case atStart => exact ⟨0, rfl, by omega, hid ⟨HR3.out, HB3.out⟩⟩
          case round =>
            obtain ⟨j, rfl, hj, HI⟩ := hrel
            by_cases hlj : j < sh.length
            · have hlj1 : (j : Int) < (sh.length : Int) := by omega
              obtain ⟨s, hs⟩ := get_of_lt hlj
              have hrow := HOK.out.row s (List.mem_of_getElem? hs)
              obtain ⟨b1, o1, A1, c1, hB1, k1, k2, _⟩ := ((HSW.out.below HI.out.2).cB).at_ hs
              have hks : kk < s.length := by have := HK.out; omega
              have hks1 : (kk : Int) < (s.length : Int) := by omega
              obtain ⟨z, hz⟩ := get_of_lt hks
              obtain ⟨b2, o2, rfl, k3⟩ := k2.at_map hz
              subst hB1
              have hxp : (prc sh kk)[j]? = some (z, 0) := by
                rw [List.getElem?_map, hs]
                simp only [Option.map_some]
                rw [List.getD_eq_getElem?_getD, hz]; rfl
              obtain ⟨y0, hy0⟩ := get_of_lt (l := valL (prc sh kk) j) (show j < _ by rw [valL_len, List.length_map]; exact hlj)
              have d0 := HI.out.1.cell (k := j) (u := .int .u64 y0) (by rw [List.getElem?_map, hy0]; rfl)
              have g0 := HI.out.1.frozen j
              have hset := HI.out.1.set j (.int .u64 z)
              rw [show (Value.int .u64 z) = .int .u64 ((z, (0 : Int)).1) from rfl, valL_set hxp] at hset
              have HN := hid (And.intro hset (HI.out.2.setCell (p := ⟨gy, j, none⟩) (by rw [HGY.out]; exact Nat.le_refl _) (.int .u64 z)))
              clear hs hz hxp hy0 hset HI k2 hrow
              go_wp2
              go_roundw
              case rel => exact ⟨j + 1, by go_num, by omega, HN⟩
              case measure => simp [intOf]; omega
            · obtain rfl : j = sh.length := by omega
              have hrel := HWR.out.2.2.2.1.trans (by omega) (RelU.below HI.out.2 (by omega))
              have hSz := HST.out wr hrel
              have hxr := HWR.out.2.2.1.below HI.out.2
              have hyr := HI.out.1
              rw [prc_all] at hyr
              have hcl : (colL sh kk).length = sh.length := by simp [colL]
              have hux : U64s ats := fun x hx => by have := HOK.out.at_ x hx; exact ⟨by omega, by omega⟩
              have huy : U64s (colL sh kk) := by
                rw [← prc_all]
                refine valL_u64 (fun y hy => ?_) _
                obtain ⟨s, hs, rfl⟩ := List.mem_map.1 hy
                show U64 (s.getD kk 0)
                rw [List.getD_eq_getElem?_getD]
                cases hz : s[kk]? with
                | none => exact ⟨by simp, by simp⟩
                | some z => exact HOK.out.u s hs z (List.mem_of_getElem? hz)
              have hdc := dec_c (some ⟨gx, 0, none⟩) (some ⟨gy, 0, none⟩) ats (colL sh kk) ats.length sh.length p.T p.Q wr hxr.cells hyr.cells (by omega) (by omega) hux huy hp.T hp.Q hSz.tabs
              rw [hcl] at hdc
              have HDR := hid (show decR ats (colL sh kk) p.T p.Q = decR ats (colL sh kk) p.T p.Q from rfl)
              generalize hdr : decR ats (colL sh kk) p.T p.Q = r at *
              have HD := hid hdr
              have HDC := hid hdc
              have t6 := hSz.rp.cell (k := 6) rfl
              have t1 := hSz.rp.cell (k := 1) rfl
              have HREL := hid hrel
              have HXR := hid hxr
              have hzs : wq.heap.size ≤ wr.heap.size := HI.out.2.size
              have HZB := hid HI.out.2
              have HJZ := hid (hJ _ _ _ HWR.out.2.1 HI.out.2)
              clear hdr hdc HDR hrel hSz hxr hyr hux huy HI
              obtain ⟨r1, r2, r3⟩ := r
              go_wp2_with (fail)
              refine HDC.out.mono ?_
              rintro e w5 ⟨v12, v13, rfl, o1, o2, hb5⟩
              dsimp only at o1 o2 ⊢
              have HREL5 := hid (HREL.out.trans (by omega) (RelU.below hb5 (by omega)))
              have HXR5 := hid (HXR.out.below hb5)
              have HMN5 := hid (show ¬ Mine w5 gx from fun hm => HWR.out.2.2.2.2.2 (hback _ _ _ gx HWR.out.2.1 HZB.out (hback _ _ _ gx HJZ.out hb5 hm)))
              have HJ5 := hid (hJ _ _ _ HJZ.out hb5)
              have h5s : wr.heap.size ≤ w5.heap.size := hb5.size
              clear hb5 t6 t1
              by_cases he : r3 = 0
              · subst he
                obtain ⟨z, c', rfl, hz0⟩ := dec_some HD.out
                obtain ⟨A12, c12, e12, hc12⟩ := o1.form
                subst e12
                obtain ⟨b12, o12, rfl, d12⟩ := hc12.at_map (k := 0) rfl
                obtain ⟨A13, c13, e13, _⟩ := o2.form
                subst e13
                rw [List.length_map, List.length_cons, List.length_map]
                rw [Nat.add_zero] at d12
                have hrt := o2.rowT
                rw [List.length_map] at hrt
                have HO2 := hid (And.intro hrt hz0)
                have HST5 := hid (show told22 p.T p.Q ats sh (p.K.toNat - kk) kk = (z, r2, 0) :: told22 p.T p.Q ats sh (p.K.toNat - (kk + 1)) (kk + 1) by
                  rw [show p.K.toNat - kk = (p.K.toNat - (kk + 1)) + 1 by rw [HK.out]; omega]
                  rw [told22, HD.out]; rfl)
                clear o1 o2 hc12 hrt
                go_upto_region 18 with (fail)
                refine (wpIn_wide (n := k)).1 ?_
                obtain ⟨fn, tmps, assign, body, hy, hR⟩ := HY.out pre (.slice A13 r2.length c13, (z, r2, 0)) w5 (by omega) HJ5.out HO2.out ⟨told22 p.T p.Q ats sh (p.K.toNat - (kk + 1)) (kk + 1), by rw [← HWR.out.1, HST5.out]; simp⟩
                simp only [encR] at hy
                gi_wp2
                refine ⟨fun h => absurd h (by decide), ?_⟩
                refine hR.mono ?_
                rintro e B ⟨h3, hu, hrl⟩
                rcases h3 with h3 | h3
                · obtain ⟨rfl, hJ3⟩ := h3
                  have HN := hid (show (pre ++ [((.slice A13 r2.length c13, (z, r2, 0)) : ItemR)]).map (·.2) ++ told22 p.T p.Q ats sh (p.K.toNat - (kk + 1)) (kk + 1) = told22 p.T p.Q ats sh p.K.toNat 0 ∧ J (pre ++ [(.slice A13 r2.length c13, (z, r2, 0))]) B ∧ Row1 B gx 24 (ats.map (.int .u64)) ∧ RelU Kp N1 w B ∧ W.heap.size ≤ B.heap.size ∧ ¬ Mine B gx from
                    ⟨by rw [← HWR.out.1, HST5.out]; simp, hJ3, HXR5.out.keep (hu.keep gx (by rw [HGX.out]; exact Nat.le_refl _) HXR5.out.lt HMN5.out), HREL5.out.trans (by omega) hrl, Nat.le_trans (by omega) hu.size, fun hm => HMN5.out (hu.mine gx hm HXR5.out.lt)⟩)
                  clear hJ3 hu hrl
                  gi_wp2
                  go_wp2
                  go_roundw
                  case rel => exact ⟨kk + 1, _, by go_num, by have := HLT.out; omega, HN⟩
                  case measure => have := HLT.out; simp [intOf]; omega
                · obtain ⟨rfl, hJ3⟩ := h3
                  have HN := hid (show (pre ++ [((.slice A13 r2.length c13, (z, r2, 0)) : ItemR)]).map (·.2) ++ told22 p.T p.Q ats sh (p.K.toNat - (kk + 1)) (kk + 1) = told22 p.T p.Q ats sh p.K.toNat 0 from by rw [← HWR.out.1, HST5.out]; simp)
                  have HJ3 := hid hJ3
                  clear hJ3 hu hrl
                  gi_wp2
                  go_wp2
                  refine bodyPost_ret (results_none rfl _ _ _) rfl ?_
                  exact ⟨⟨_, rfl⟩, .inr ⟨_, ⟨by simp, _, HN.out⟩, HJ3.out⟩⟩
              · have hbne : (r3 != 0) = true := by simpa using he
                have HST5 := hid (show told22 p.T p.Q ats sh (p.K.toNat - kk) kk = [(0, [], r3)] by
                  rw [show p.K.toNat - kk = (p.K.toNat - (kk + 1)) + 1 by rw [HK.out]; omega]
                  rw [told22, HD.out, if_neg he])
                have HN := hid (show (pre ++ [((.slice none 0 0, (0, [], r3)) : ItemR)]).map (·.2) = told22 p.T p.Q ats sh p.K.toNat 0 from by rw [← HWR.out.1, HST5.out]; simp)
                clear o1 o2 he
                go_upto_region 17 with (fail)
                refine (wpIn_wide (n := k)).1 ?_
                obtain ⟨fn, tmps, assign, body, hy, hR⟩ := HY.out pre (.slice none 0 0, (0, [], r3)) w5 (by omega) HJ5.out ⟨RowT.nil _ _ _ _, (⟨by decide, by decide⟩ : U64 0)⟩ ⟨[], by rw [List.append_nil]; exact HN.out⟩
                simp only [encR] at hy
                gi_wp2
                refine ⟨fun h => absurd h (by decide), ?_⟩
                refine hR.mono ?_
                rintro e B ⟨h3, hu, hrl⟩
                rcases h3 with h3 | h3
                · obtain ⟨rfl, hJ3⟩ := h3
                  have HJ3 := hid hJ3
                  clear hJ3 hu hrl
                  gi_wp2
                  go_wp2
                  refine bodyPost_ret (results_none rfl _ _ _) rfl ?_
                  exact ⟨⟨_, rfl⟩, .inl ⟨_, HN.out, HJ3.out⟩⟩
                · obtain ⟨rfl, hJ3⟩ := h3
                  have HJ3 := hid hJ3
                  clear hJ3 hu hrl
                  gi_wp2
                  go_wp2
                  refine bodyPost_ret (results_none rfl _ _ _) rfl ?_
                  exact ⟨⟨_, rfl⟩, .inr ⟨_, ⟨by simp, [], by rw [List.append_nil]; exact HN.out⟩, HJ3.out⟩⟩
        · obtain rfl : kk = K := by omega
          have HKK := hid (show pre.map (·.2) = told22 p.T p.Q ats sh p.K.toNat 0 by
            have := HI.out.1
            rw [show p.K.toNat - kk = 0 by rw [HK.out]; omega] at this
            rw [← this]
            simp [told22])
          have HJF := hid HI.out.2.1
          clear HI
          go_wp2
          refine bodyPost_end (results_none rfl _ _ _) rfl ?_
          exact ⟨⟨_, rfl⟩, .inl ⟨pre, HKK.out, HJF.out⟩⟩
end Go.Proofs.YtmmmdidbnjcooaaDoor
end

section
namespace Go.Proofs.YtmmmdidbnjcooaaDoor
open Go Go.RowKit Go.Maps Go.Shelf Go.Proofs

attribute [local go_sem] Oper.semAt_some

noncomputable def tellL (L : List (Int × List Nat × Int)) (q : Int) : List Int × Int := match L.find? (fun x => decide (x.2.2 ≠ 0)) with | some x => ([], x.2.2) | none => (L.map fun x => mInt x.1 q, 0)
/-- the scores that shares tell. -/
noncomputable def tellP (p : Par) (ats : List Int) (sh : List (List Int)) : List Int × Int := if argsB p.K ats sh = true then tellL (told22 p.T p.Q ats sh p.K.toNat 0) p.Q else ([], 1)
def TellR (r : List Int × Int) (w : World) (x : Ending) (w' : World) : Prop := ∃ v, x = .returned (.tuple #[v, .int .i64 r.2]) ∧ Own w' w.heap.size 2 v (r.1.map (.int .i64)) ∧ Below w.heap.size w w'
theorem argsB_ok {p : Par} {ats : List Int} {sh : List (List Int)} (h : argsB p.K ats sh = true) (hl : ats.length ≤ 1000) (hu : ∀ s ∈ sh, U64s s) : RowsOk22 p ats sh := by
  unfold argsB at h
  simp only [Bool.and_eq_true, decide_eq_true_eq] at h
  obtain ⟨h1, h2, h3, h4⟩ := h
  have hall : ∀ i, i < ats.length → argAt p.K ats sh i = true := fun i hi => List.all_eq_true.1 h4 i (List.mem_range.2 hi)
  refine ⟨by omega, h2, h3, hl, fun x hx => ?_, fun s hs => ?_, hu⟩
  · obtain ⟨i, hi⟩ := List.getElem?_of_mem hx
    have := hall i (List.getElem?_eq_some_iff.1 hi).1
    unfold argAt at this
    simp only [Bool.and_eq_true, decide_eq_true_eq] at this
    rw [List.getD_eq_getElem?_getD, hi] at this
    simp only [Option.getD_some] at this
    omega
  · obtain ⟨i, hi⟩ := List.getElem?_of_mem hs
    have := hall i (by have := (List.getElem?_eq_some_iff.1 hi).1; omega)
    unfold argAt at this
    simp only [Bool.and_eq_true, decide_eq_true_eq] at this
    have h5 := this.2.2
    rw [List.getD_eq_getElem?_getD, hi] at h5
    exact h5
/-- what lies in memory while rows are told. -/
structure TS (p : Par) (g3 g6 g7 g8 ga gp gs : Nat) (bxs : List (Nat × TypeId × List Value)) (N M : Nat) (w0 : World) (xs : List (Int × List Nat × Int)) (w : World) : Prop where
  R3 : Row1 w g3 34 (pcells p)
  R6 : Row1 w g6 36 [.slice none 0 0]
  R7 : Row1 w g7 27 [.int .i64 0]
  R8 : ∃ v, Row1 w g8 36 [v] ∧ Own w M 2 v (xs.map fun x => .int .i64 (mInt x.1 p.Q))
  bx : ∀ x ∈ bxs, Row1 w x.1 x.2.1 x.2.2
  no : ∀ x ∈ xs, x.2.2 = 0
  b : Below N w0 w
  lt : M ≤ w.heap.size
theorem TS.below {p : Par} {g3 g6 g7 g8 ga gp gs : Nat} {bxs : List (Nat × TypeId × List Value)} {N M : Nat} {w0 : World} {xs : List (Int × List Nat × Int)} {w w' : World} (h : TS p g3 g6 g7 g8 ga gp gs bxs N M w0 xs w) (hNM : N ≤ M) (hb : Below w.heap.size w w') : TS p g3 g6 g7 g8 ga gp gs bxs N M w0 xs w' :=
  ⟨h.R3.below hb, h.R6.below hb, h.R7.below hb, by obtain ⟨v, h1, h2⟩ := h.R8; exact ⟨v, h1.below hb, h2.below hb⟩, fun x hx => (h.bx x hx).below hb, h.no, h.b.trans (hb.mono (Nat.le_trans hNM h.lt)), Nat.le_trans h.lt hb.size⟩
/-- what is told where a row is refused. -/
structure TX (g6 g7 : Nat) (e : Int) (N : Nat) (w0 w : World) : Prop where
  R6 : Row1 w g6 36 [.slice none 0 0]
  R7 : Row1 w g7 27 [.int .i64 e]
  b : Below N w0 w
theorem row1_one {w : World} {g : Nat} {e : TypeId} {v v' : Value} (h : Row1 w g e [v]) (h' : Row1 w g e [v']) : v = v' := by
  have := h.symm.trans h'
  simpa using this
/-- the row that lies in box g is the rounds' own. -/
def MineAt (g : Nat) (e8 : TypeId) (A : World) (b : Nat) : Prop := ∃ v arr e fz, Row1 A g e8 [v] ∧ v.ownBlock = some b ∧ A.heap[b]? = some (.cells arr e fz)
theorem mine_ok (g : Nat) (e8 : TypeId) : MnOk (MineAt g e8) := by
  refine ⟨fun A b ⟨v, arr, e, fz, _, _, h⟩ => ⟨arr, e, fz, h⟩, ?_⟩
  rintro A l o o' b hl hc hc' ⟨v, arr, e, fz, h1, h2, h3⟩
  have hll := (Array.getElem?_eq_some_iff.1 hl).1
  have key : ∀ x arr e fz, (A.putObj l o').heap[x]? = some (.cells arr e fz) → x ≠ l := by
    rintro x arr e fz hx rfl
    rw [World.putObj_heap_same hll] at hx
    obtain rfl := Option.some.inj hx
    cases hc'
  have n1 := key _ _ _ _ h1
  have n2 := key _ _ _ _ h3
  exact ⟨v, arr, e, fz, Eq.trans (World.putObj_heap_other n1).symm h1, h2, Eq.trans (World.putObj_heap_other n2).symm h3⟩
theorem own_cells {w : World} {base : Nat} {e : TypeId} {v : Value} {xs : List Value} (h : Own w base e v xs) {b : Nat} (hb : v.ownBlock = some b) : ∃ arr e' fz, w.heap[b]? = some (.cells arr e' fz) := by
  rcases h.2 with ⟨rfl, _⟩ | ⟨g, cap, cur, rfl, _, hg, _⟩
  · cases hb
  · simp only [Value.ownBlock, Option.some.injEq] at hb
    subst hb
    exact ⟨_, _, _, hg⟩
theorem mine_back {g base : Nat} {e8 e : TypeId} {v : Value} {xs : List Value} {A B : World} {b : Nat} (h : Row1 A g e8 [v]) (ho : Own A base e v xs) (hb : Below A.heap.size A B) (hm : MineAt g e8 B b) : MineAt g e8 A b := by
  obtain ⟨v', arr, e', fz, h1, h2, _⟩ := hm
  obtain rfl := row1_one (h.below hb) h1
  obtain ⟨arr, e', fz, h3⟩ := own_cells ho h2
  exact ⟨v, arr, e', fz, h, h2, h3⟩
theorem UpM.refl (Mine : World → Nat → Prop) (N : Nat) (A : World) : UpM Mine N A A := ⟨Nat.le_refl _, fun _ _ _ _ => rfl, fun _ h _ => h⟩
theorem cells_unset {B : World} {p : Addr} {u : Value} {b : Nat} {arr : Array Value} {e : TypeId} {fz : Nat × Nat} (h : (B.setCell p u).heap[b]? = some (.cells arr e fz)) : ∃ arr e fz, B.heap[b]? = some (.cells arr e fz) := by
  by_cases hb : b = p.block
  · subst hb
    simp only [World.setCell, Array.getElem?_modify, if_true] at h
    cases hx : B.heap[p.block]? with
    | none => rw [hx] at h; cases h
    | some o =>
      rw [hx] at h
      cases o with
      | cells c e' f => exact ⟨_, _, _, rfl⟩
      | _ => simp at h
  · rw [Below.heap_setCell B p u b hb] at h
    exact ⟨_, _, _, h⟩
theorem UpM.setCell {g8 : Nat} {e8 : TypeId} {N : Nat} {A B : World} {p : Addr} (h : UpM (MineAt g8 e8) N A B) (hp : p.block < N) (h8 : p.block ≠ g8) (u : Value) : UpM (MineAt g8 e8) N A (B.setCell p u) := by
  refine ⟨by simpa using h.size, fun b h1 h2 h3 => (Below.heap_setCell B p u b (by omega)).trans (h.keep b h1 h2 h3), fun b hm h2 => h.mine b ?_ h2⟩
  obtain ⟨v, arr, e, fz, k1, k2, k3⟩ := hm
  obtain ⟨arr', e', fz', k4⟩ := cells_unset k3
  exact ⟨v, arr', e', fz', (Below.heap_setCell B p u g8 (Ne.symm h8)).symm.trans k1, k2, k4⟩
set_option maxRecDepth 100000 in
set_option maxHeartbeats 8000000 in
theorem tell_c (p : Par) (hp : p.ok) (A B : Option Addr) (ats : List Int) (sh : List (List Int)) (c d : Nat) (w : World) (hA : Cells w A (ats.map (.int .i64))) (hB : Grid w B sh) (hl : ats.length ≤ 1000) (hl' : sh.length ≤ 1000) (hu : ∀ s ∈ sh, U64s s) (hTab : Tabs w) :
    Calls Tryd.prog 41 #[pval p, .slice A ats.length c, .slice B sh.length d] w (TellR (tellP p ats sh) w) := by
  have HA := hid hA
  have HB := hid hB
  have HT := hid hTab
  clear hA hB hTab
  refine (callsIn_wide (n := 10)).1 ?_
  refine callsIn_of_wp_marks Tryd.func41 rfl trivial ?_ rfl
  refine (wpIn_wide (n := 10)).2 ?_
  simp only [Tryd.ntmps41, List.size_toArray, List.length_cons, List.length_nil, Nat.reduceAdd, Nat.reduceSub, Array.replicate_succ, Array.replicate_zero, List.push_toArray, List.append_toArray, List.nil_append, List.cons_append]
  go_upto_region 1 with (fail)
  have k1 := row1_new w (pcells p) 34
  have k2 := row1_in (w.alloc (.cells (pcells p).toArray 34)) [.slice none 0 0] 36 (w.heap.size + 1) (by simp)
  have k3 := row1_in ((w.alloc (.cells (pcells p).toArray 34)).alloc (.cells #[.slice none 0 0] 36)) [.int .i64 0] 27 (w.heap.size + 1 + 1) (by simp)
  have K3 := (k1.alloc (.cells #[.slice none 0 0] 36)).alloc (.cells #[.int .i64 0] 27)
  have K6 := k2.alloc (.cells #[.int .i64 0] 27)
  have K7 := k3
  have KB := ((below_alloc w (.cells (pcells p).toArray 34)).alloc (by simp) (.cells #[.slice none 0 0] 36)).alloc (by simp; omega) (.cells #[.int .i64 0] 27)
  clear k1 k2 k3
  simp only [List.toArray] at K3 K6 K7 KB
  generalize ((w.alloc (.cells _ 34)).alloc (.cells #[.slice none 0 0] 36)).alloc (.cells #[.int .i64 0] 27) = w1 at *
  obtain ⟨g7, e7⟩ : ∃ g, w.heap.size + 1 + 1 = g := ⟨_, rfl⟩
  obtain ⟨g6, e6⟩ : ∃ g, w.heap.size + 1 = g := ⟨_, rfl⟩
  obtain ⟨g3, e3⟩ : ∃ g, w.heap.size = g := ⟨_, rfl⟩
  rw [e7] at K7 ⊢
  rw [e6] at K6 ⊢
  rw [e3]
  have K3' : Row1 w1 g3 34 (pcells p) := by rw [← e3]; exact K3
  clear K3
  have n6 : w.heap.size ≤ g6 := by omega
  have n7 : w.heap.size ≤ g7 := by omega
  have d67 : g6 < g7 := by omega
  have d36 : g3 < g6 := by omega
  have E3 := hid e3
  clear e7 e6 e3
  obtain ⟨p0, p1, p2, p3, p4, p5, p6, p7, p8, p9, p10, p11⟩ := par_cells K3'
  go_wp2_with (fail)
  refine (args_c p A B ats sh c d w1 (HA.out.below KB) (HB.out.below KB) hl hl').mono ?_
  rintro e w2 ⟨rfl, hb2⟩
  replace K3' := K3'.below hb2
  replace K6 := K6.below hb2
  replace K7 := K7.below hb2
  replace KB := below_next KB KB.size hb2
  clear hb2 p0 p1 p2 p3 p4 p5 p6 p7 p8 p9 p10 p11
  have c6 := K6.cell (k := 0) rfl
  have c7 := K7.cell (k := 0) rfl
  have f6 := K6.frozen 0
  have f7 := K7.frozen 0
  cases hab : argsB p.K ats sh with
  | false =>
    have HF := hid (show tellP p ats sh = ([], 1) by unfold tellP; rw [hab]; rfl)
    clear hab
    go_wp2
    refine ⟨.tuple #[.slice none 0 0, .int .i64 1], ?_, ?_⟩
    · have q6 := ((K6.set 0 (.slice none 0 0)).far (p := ⟨g7, 0, none⟩) (by simp; omega) (.int .i64 1)).cell (k := 0) rfl
      have q7 := ((K7.far (p := ⟨g6, 0, none⟩) (by simp; omega) (.slice none 0 0)).set 0 (.int .i64 1)).cell (k := 0) rfl
      simp [results, Tryd.f41, go_sem, q6, q7]
    · rw [HF.out]
      exact ⟨_, rfl, Own.nil _ _ _, (KB.setCell (p := ⟨g6, 0, none⟩) n6 _).setCell (p := ⟨g7, 0, none⟩) n7 _⟩
  | true =>
    have HF := hid (show tellP p ats sh = tellL (told22 p.T p.Q ats sh p.K.toNat 0) p.Q by unfold tellP; rw [hab]; rfl)
    have HOK := hid (argsB_ok hab hl hu)
    clear hab
    have k8 := row1_new w2 [.slice none 0 0] 36
    have hb8 := below_alloc w2 (.cells #[.slice none 0 0] 36)
    replace K3' := K3'.below hb8
    replace K6 := K6.below hb8
    replace K7 := K7.below hb8
    have h7l : g7 < w2.heap.size := by have := c7; exact lt_of_cell c7
    replace KB := below_next KB KB.size hb8
    clear hb8 c6 c7 f6 f7
    go_upto_region 4 with (fail)
    simp only [List.toArray] at K3' K6 K7 KB k8
    generalize w2.alloc (.cells #[.slice none 0 0] 36) = w3 at *
    obtain ⟨g8, e8⟩ : ∃ g, w2.heap.size = g := ⟨_, rfl⟩
    rw [e8] at k8 h7l ⊢
    clear e8
    obtain ⟨p0, p1, p2, p3, p4, p5, p6, p7, p8, p9, p10, p11⟩ := par_cells K3'
    have h8l : g8 < w3.heap.size := k8.lt
    go_wp2_with (fail)
    refine (rows_c p A B ats.length sh.length c d w3).mono ?_
    rintro e w5 ⟨ga, gp, gs, rfl, ra, rp, rs, l1, l2, l3, hb5⟩
    have h35 := hb5.size
    have S5 : TS p g3 g6 g7 g8 ga gp gs [(ga, 46, [.slice A ats.length c]), (gp, 34, pcells p), (gs, 26, [.slice B sh.length d])] w.heap.size w5.heap.size w [] w5 :=
      ⟨K3'.below hb5, K6.below hb5, K7.below hb5, ⟨_, k8.below hb5, Own.nil _ _ _⟩, fun x hx => by
        simp only [List.mem_cons, List.not_mem_nil, or_false] at hx
        rcases hx with rfl | rfl | rfl
        · exact ra
        · exact rp
        · exact rs, (fun x hx => by cases hx), below_next KB KB.size hb5, Nat.le_refl _⟩
    have hN5 := S5.b.size
    clear p0 p1 p2 p3 p4 p5 p6 p7 p8 p9 p10 p11 K3' K6 K7 KB k8 hb5
    go_wp2
    refine (wpIn_wide (n := 10)).1 ?_
    refine wpIn_rangeStopK (n := 10) rfl (by decide) (gf := 96) (lb := #[.pointer (some ⟨ga, 0, none⟩), .pointer (some ⟨gp, 0, none⟩), .pointer (some ⟨gs, 0, none⟩)]) rfl trivial (enters_of Tryd.func96 (by kernel_rfl) rfl) (encs := encR) (fun _ => rfl)
      (fun xs W => TS p g3 g6 g7 g8 ga gp gs [(ga, 46, [.slice A ats.length c]), (gp, 34, pcells p), (gs, 26, [.slice B sh.length d])] w.heap.size w5.heap.size w (xs.map (·.2)) W)
      (fun cc xs W => cc = .ret ∧ ∃ pre it, xs.map (·.2) = pre ++ [it] ∧ (∀ y ∈ pre, y.2.2 = 0) ∧ it.2.2 ≠ 0 ∧ TX g6 g7 it.2.2 w.heap.size w W)
      OkR _ _ _ (Mine := MineAt g8 36) ?ib ?im ?ip ?ixb ?op S5 (mine_ok _ _) (Kp := fun b => b = ga ∨ b = gp ∨ b = gs) ?kp (N1 := w.heap.size) hN5 (rows1_ok p hp A B ats sh c d 9 ga gp gs w.heap.size (MineAt g8 36) (fun b => b = ga ∨ b = gp ∨ b = gs) w5 HOK.out (mine_ok _ _) ?st hN5) (fun b x a' A => ∃ gr : Nat, a' = (b.put (some 9) (.pointer (some ⟨gr, 0, none⟩))).put (some 10) (.int .i64 x.2.2.2) ∧ Row1 A gr 116 [.int .u64 x.2.1, x.1]) ?ap ?ob ?assign ?body ?done ?stop
    case ap =>
      rintro b x a' A l o o' ⟨gr, h1, h2⟩ _ h3 h4
      exact ⟨gr, h1, h2.put o' h3 h4⟩
    case ob => exact fun x W1 W2 h hb => ⟨h.1.below hb, h.2⟩
    case assign =>
      intro l pre x W K hI hOk hK
      obtain ⟨v, z, wr, ee⟩ := x
      have hOk' : RowT W 3 v (natv wr) := hOk.1
      obtain ⟨A5, c5, hv5, _, _⟩ := hOk'.form
      rw [List.length_map] at hv5
      subst hv5
      have hb9 := below_alloc W (.cells #[.int .u64 z, .slice A5 wr.length c5] 116)
      have hr9 := row1_new W [.int .u64 z, .slice A5 wr.length c5] 116
      have HKK := hid (hK _ _ ⟨W.heap.size, rfl, hr9⟩ hb9)
      clear hb9 hr9 hK
      gi_wp2
      simpa [encR, Act.put] using HKK.out
    case ib => exact fun xs W1 W2 h hb => h.below hN5 hb
    case im => exact fun xs W1 W2 b h hb hm => by obtain ⟨v, h1, h2⟩ := h.R8; exact mine_back h1 h2 hb hm
    case ip =>
      intro xs W1 l o o' h hl h1 h2
      exact ⟨h.R3.put o' h1 h2, h.R6.put o' h1 h2, h.R7.put o' h1 h2, by obtain ⟨v, h3, h4⟩ := h.R8; exact ⟨v, h3.put o' h1 h2, h4.cu (CellsUp.put h1 h2)⟩, fun x hx => (h.bx x hx).put o' h1 h2, h.no, h.b.trans (below_putR _ (Nat.le_trans hN5 h.lt) (by omega)), by simpa using h.lt⟩
    case ixb => exact fun cc xs W1 W2 h hb hcu => ⟨h.1, by obtain ⟨pre, it, h1, h2, h3, h4⟩ := h.2; exact ⟨pre, it, h1, h2, h3, h4.R6.up hcu (Nat.zero_le _), h4.R7.up hcu (Nat.zero_le _), h4.b.trans (hb.mono hN5)⟩⟩
    case op => exact fun x W1 l o o' h _ h1 h2 => ⟨h.1.put o' h1 h2, h.2⟩
    case kp =>
      rintro b (rfl | rfl | rfl)
      · exact ra.lt
      · exact rp.lt
      · exact rs.lt
    case st =>
      intro W hW
      have hbw := S5.b.trans hW.2
      exact ⟨ra.keep (hW.1 _ (.inl rfl) ra.lt), rp.keep (hW.1 _ (.inr (.inl rfl)) rp.lt), rs.keep (hW.1 _ (.inr (.inr rfl)) rs.lt), HA.out.below hbw, HB.out.below hbw, HT.out.below hbw⟩
    case body =>
      intro lp pre x a' W hszW hI hOk hAs hPp
      obtain ⟨v, z, wr, ee⟩ := x
      have hOk' : RowT W 3 v (natv wr) := hOk.1
      obtain ⟨A5, c5, hv5, _, _⟩ := hOk'.form
      rw [List.length_map] at hv5
      subst hv5
      obtain ⟨gr, rfl, hrr⟩ := hAs
      have SW := hI
      have hZ := hOk.2
      clear hI hOk
      dsimp only at hrr ⊢
      have hW5 := SW.lt
      by_cases he : ee = 0
      · subst he
        obtain ⟨v8, R8, o8⟩ := SW.R8
        have hzu : U64 z := hZ
        have hpl : pre.length ≤ 1 := by
          obtain ⟨rest, hrest⟩ := hPp
          have h1 := congrArg List.length hrest
          have h2 := told22_len p.T p.Q ats sh p.K.toNat 0
          have h3 := HOK.out.K2
          simp only [List.length_append, List.length_map, List.length_cons, List.length_nil] at h1
          omega
        obtain ⟨A8, k8, e8, _⟩ := o8.form
        have hl8 : ((pre.map (·.2)).map fun x => Value.int .i64 (mInt x.1 p.Q)).length = pre.length := by simp
        rw [hl8] at e8
        subst e8
        have c8 := R8.cell (k := 0) rfl
        have f8 := R8.frozen 0
        have d0 := hrr.cell (k := 0) rfl
        have q1 := SW.R3.cell (k := 1) rfl
        have HZI := hid (int_c z p.Q hzu hp.Q)
        have HRR := hid hrr
        clear hrr hPp
        have hno := SW.no
        have HSW := hid SW
        clear SW
        gi_wp2_with (fail)
        refine Rgb.round_region (by rintro ⟨a, w, h⟩; exact h) (L := [_, _, _, _, _, _, _]) (tail := [_, _]) (Rgb.grows _ 9) [some 25, some 26, some 27, some 28, some 29, some 30, some 31, some 32, none] 34 (by kernel_rfl) (by kernel_rfl) (by kernel_rfl) (by kernel_rfl) rfl (Rgb.grows_fair _ _) (Rgb.keep_drew _) (trivial) ?_
        refine Rgb.op_is (.slice A8 pre.length k8) [] rfl rfl (by kernel_rfl) ?_ ?_
        · intro wx hb
          refine Rgb.from_nil fun T hT => ?_
          have g1 := (hb.cell (lt_of_cell c8)).trans c8
          go_wp2
          exact hT _ _ rfl (by first | exact Rgb.Keep.refl _ | exact below_of_dr hw2 | exact hw2 | exact (Below.refl _ _).alloc (Nat.le_refl _) _) (by first | rfl | exact congrArg _ (by decide))
        refine' Rgb.op_is _ [] rfl rfl (by kernel_rfl) ?_ ?_
        rotate_left
        · intro wx hb
          refine Rgb.from_nil fun T hT => ?_
          go_wp2
          refine hT _ _ rfl (by first | exact Rgb.Keep.refl _ | exact below_of_dr hw2 | exact hw2 | exact (Below.refl _ _).alloc (Nat.le_refl _) _) ?_
          simp only [Rgb.last, List.getElem?_toArray, List.getElem?_cons_succ, List.getElem?_cons_zero, Option.getD_some]
          rfl
        refine Rgb.op_is (.int .u64 z) [1] rfl rfl (by kernel_rfl) ?_ ?_
        · intro wx hb
          refine Rgb.from_is (some 26) rfl rfl ?_
          refine Rgb.from_nil fun T hT => ?_
          have g1 := (hb.cell (lt_of_cell d0)).trans d0
          go_wp2
          exact hT _ _ rfl (by first | exact Rgb.Keep.refl _ | exact below_of_dr hw2 | exact hw2 | exact (Below.refl _ _).alloc (Nat.le_refl _) _) (by first | rfl | exact congrArg _ (by decide))
        refine' Rgb.op_is _ [] rfl rfl (by kernel_rfl) ?_ ?_
        rotate_left
        · intro wx hb
          refine Rgb.from_nil fun T hT => ?_
          go_wp2
          refine hT _ _ rfl (by first | exact Rgb.Keep.refl _ | exact below_of_dr hw2 | exact hw2 | exact (Below.refl _ _).alloc (Nat.le_refl _) _) ?_
          simp only [Rgb.last, List.getElem?_toArray, List.getElem?_cons_succ, List.getElem?_cons_zero, Option.getD_some]
          rfl
        refine Rgb.op_is (.int .u64 p.Q) [3] rfl rfl (by kernel_rfl) ?_ ?_
        · intro wx hb
          refine Rgb.from_is (some 28) rfl rfl ?_
          refine Rgb.from_nil fun T hT => ?_
          have g1 := (hb.cell (lt_of_cell q1)).trans q1
          go_wp2
          exact hT _ _ rfl (by first | exact Rgb.Keep.refl _ | exact below_of_dr hw2 | exact hw2 | exact (Below.refl _ _).alloc (Nat.le_refl _) _) (by first | rfl | exact congrArg _ (by decide))
        refine Rgb.op_is (.int .i64 (mInt z p.Q)) [2, 4] rfl rfl (by kernel_rfl) ?_ ?_
        · intro wx hb
          refine Rgb.from_is (some 27) rfl rfl ?_
          refine Rgb.from_is (some 29) rfl rfl ?_
          refine Rgb.from_nil fun T hT => ?_
          go_wp2_with (fail)
          refine (HZI.out wx).mono ?_
          rintro e w9 ⟨rfl, hw9⟩
          go_wp2
          exact hT _ _ rfl (below_of_dr hw9) rfl
        refine Rgb.op_of (fun w' u => ∃ g, u = Value.slice (some ⟨g, 0, none⟩) 1 1 ∧ Row1 w' g 2 [.int .i64 (mInt z p.Q)]) [5] rfl ?_ ?_ rfl (by kernel_rfl) ?_ ?_
        · exact fun w1 w2 v hk ⟨g, e, h⟩ => ⟨g, e, h.below hk⟩
        · exact fun w1 w2 v hk ⟨g, e, h⟩ => ⟨g, e, h.below hk⟩
        · intro wx hb
          refine Rgb.from_is (some 30) rfl rfl ?_
          refine Rgb.from_nil fun T hT => ?_
          go_wp2
          exact hT _ _ rfl (below_alloc _ _) ⟨_, rfl, row1_new wx [_] 2⟩
        refine Rgb.walk_nil [0, 1, 2, 3, 4, 5, 6] (by kernel_rfl) ?_
        intro wx hb
        refine Rgb.from_is (some 25) rfl rfl ?_
        refine Rgb.from_is (some 26) rfl rfl ?_
        refine Rgb.from_is (some 27) rfl rfl ?_
        refine Rgb.from_is (some 28) rfl rfl ?_
        refine Rgb.from_is (some 29) rfl rfl ?_
        refine Rgb.from_is (some 30) rfl rfl ?_
        refine Rgb.from_of (some 31) rfl rfl fun v31 h31 => ?_
        refine Rgb.from_nil ?_
        simp only [List.map, Act.put, List.setIfInBounds_toArray, List.set_cons_zero, List.set_cons_succ]
        obtain ⟨g31, rfl, hg31⟩ := h31
        have o8x := o8.below hb
        have R8x := R8.below hb
        have hsx := hb.size
        refine wpList_push_at elt_i64 _ rfl _ _ rfl w5.heap.size o8x rfl (.int .i64 (mInt z p.Q)) g31 rfl hg31 rfl (by rw [hl8]; omega) (by rw [hl8]; omega) (by omega) ?_
        intro v' w' ho' hgr hbl
        obtain ⟨A9, k9, e9, _⟩ := ho'.form
        rw [List.length_append, hl8, List.length_cons, List.length_nil] at e9
        subst e9
        have n8g : ∀ b, b < w5.heap.size → some b ≠ (Value.slice A8 pre.length k8).ownBlock := fun b hb' e => by have := (o8.block b e.symm).1; omega
        have h8w : g8 < w5.heap.size := by omega
        have R8w := R8x.keep (hgr.block g8 (by omega) (n8g g8 h8w))
        have c8w := R8w.cell (k := 0) rfl
        have f8w := R8w.frozen 0
        have hbW' : Below w5.heap.size W w' := (hb.mono hW5).grown hgr (by omega) fun g e => (o8.block g e).1
        have R8n := R8w.set 0 (.slice A9 (pre.length + (0 + 1)) k9)
        have ho2 := ho'.setCell (p := ⟨g8, 0, none⟩) h8w (.slice A9 (pre.length + (0 + 1)) k9)
        have hn8 : w.heap.size ≤ g8 := by omega
        have hmem : ∀ b, MineAt g8 36 W b ↔ (Value.slice A8 pre.length k8).ownBlock = some b := fun b => by
          constructor
          · rintro ⟨v, arr, e, fz, k1, k2, _⟩
            rw [← row1_one k1 R8]; exact k2
          · intro h
            obtain ⟨arr, e, fz, h3⟩ := own_cells o8 h
            exact ⟨_, arr, e, fz, R8, h, h3⟩
        have hup : UpM (MineAt g8 36) w5.heap.size W (w'.setCell ⟨g8, 0, none⟩ (.slice A9 (pre.length + (0 + 1)) k9)) := by
          refine ⟨by have := hbW'.size; simpa using this, fun b h1 h2 h3 => ?_, fun b hm h2 => ?_⟩
          · exact (Below.heap_setCell w' ⟨g8, 0, none⟩ (.slice A9 (pre.length + (0 + 1)) k9) b (by simp; omega)).trans ((hgr.block b (by omega) (fun e => h3 ((hmem b).2 e.symm))).trans (hb.block b h2))
          · obtain ⟨v, arr, e, fz, k1, k2, _⟩ := hm
            rw [← row1_one R8n k1] at k2
            refine (hmem b).2 ?_
            rcases hbl with h | h
            · rw [← h]; exact k2
            · rw [h] at k2
              have := Option.some.inj k2
              omega
        have hrl : RelU (fun b => b = ga ∨ b = gp ∨ b = gs) w.heap.size W (w'.setCell ⟨g8, 0, none⟩ (.slice A9 (pre.length + (0 + 1)) k9)) := by
          refine ⟨fun b hb' _ => ?_, (hbW'.mono hN5).setCell (p := ⟨g8, 0, none⟩) hn8 _⟩
          have hb5 : b < w5.heap.size ∧ b ≠ g8 := by
            have h1 := ra.lt
            have h2 := rp.lt
            have h3 := rs.lt
            rcases hb' with rfl | rfl | rfl <;> omega
          exact (Below.heap_setCell w' ⟨g8, 0, none⟩ (.slice A9 (pre.length + (0 + 1)) k9) b hb5.2).trans (hbW'.block b hb5.1)
        have hbx : ∀ x ∈ [(ga, 46, [Value.slice A ats.length c]), (gp, 34, pcells p), (gs, 26, [Value.slice B sh.length d])], Row1 (w'.setCell ⟨g8, 0, none⟩ (.slice A9 (pre.length + (0 + 1)) k9)) x.1 x.2.1 x.2.2 := fun x hx => by
          have h0 := HSW.out.bx x hx
          refine h0.keep (hrl.1 x.1 ?_ h0.lt)
          simp only [List.mem_cons, List.not_mem_nil, or_false] at hx
          rcases hx with rfl | rfl | rfl
          · exact .inl rfl
          · exact .inr (.inl rfl)
          · exact .inr (.inr rfl)
        have far : ∀ {g : Nat} {e : TypeId} {xs : List Value}, Row1 W g e xs → g < w5.heap.size → g ≠ g8 → Row1 (w'.setCell ⟨g8, 0, none⟩ (.slice A9 (pre.length + (0 + 1)) k9)) g e xs := fun h h1 h2 => (h.keep (hbW'.block _ h1)).far (p := ⟨g8, 0, none⟩) (Ne.symm h2) (.slice A9 (pre.length + (0 + 1)) k9)
        have HTS := hid (TS.mk (p := p) (ga := ga) (gp := gp) (gs := gs) (xs := (pre ++ [((.slice A5 wr.length c5, z, wr, 0) : ItemR)]).map (·.2)) (far HSW.out.R3 (by omega) (by omega)) (far HSW.out.R6 (by omega) (by omega)) (far HSW.out.R7 (by omega) (by omega)) ⟨(.slice A9 (pre.length + (0 + 1)) k9), R8n, by rw [List.map_append, List.map_append]; exact ho2⟩ hbx (fun x hx => by
          rw [List.map_append] at hx
          rcases List.mem_append.1 hx with h | h
          · exact hno x h
          · obtain rfl := List.mem_singleton.1 h; rfl) (HSW.out.b.trans hrl.2) (Nat.le_trans hW5 (by simpa using hup.size)))
        have HFIN := hid (And.intro hup hrl)
        clear hup hrl hbx ho2 hmem R8n
        go_wp2
        exact ⟨HFIN.out, HTS.out⟩
      · have hbe : (ee != 0) = true := by simpa using he
        have f6 := SW.R6.frozen 0
        have f7 := SW.R7.frozen 0
        have c6 := SW.R6.cell (k := 0) rfl
        have c7 := SW.R7.cell (k := 0) rfl
        have r6 := (SW.R6.set 0 (.slice none 0 0)).far (p := ⟨g7, 0, none⟩) (by simp; omega) (.int .i64 ee)
        have r7 := (SW.R7.far (p := ⟨g6, 0, none⟩) (by simp; omega) (.slice none 0 0)).set 0 (.int .i64 ee)
        have rb := (SW.b.setCell (p := ⟨g6, 0, none⟩) n6 (.slice none 0 0)).setCell (p := ⟨g7, 0, none⟩) n7 (.int .i64 ee)
        have hup : UpM (MineAt g8 36) w5.heap.size W ((W.setCell ⟨g6, 0, none⟩ (.slice none 0 0)).setCell ⟨g7, 0, none⟩ (.int .i64 ee)) :=
          ((UpM.refl _ _ _).setCell (p := ⟨g6, 0, none⟩) (by simp; omega) (by simp; omega) _).setCell (p := ⟨g7, 0, none⟩) (by simp; omega) (by simp; omega) _
        have hrl : RelU (fun b => b = ga ∨ b = gp ∨ b = gs) w.heap.size W ((W.setCell ⟨g6, 0, none⟩ (.slice none 0 0)).setCell ⟨g7, 0, none⟩ (.int .i64 ee)) :=
          ⟨fun b hb _ => (Below.heap_setCell _ _ _ b (by rcases hb with rfl | rfl | rfl <;> simp <;> omega)).trans (Below.heap_setCell _ _ _ b (by rcases hb with rfl | rfl | rfl <;> simp <;> omega)), ((Below.refl _ _).setCell (p := ⟨g6, 0, none⟩) n6 _).setCell (p := ⟨g7, 0, none⟩) n7 _⟩
        have HFIN := hid (And.intro hup (And.intro hrl (TX.mk r6 r7 rb)))
        have hno := SW.no
        clear r6 r7 rb hup hrl
        gi_wp2
        exact ⟨⟨HFIN.out.1, HFIN.out.2.1⟩, rfl, pre.map (·.2), z, wr, ee, by first | rfl | simp, (fun a b c h => hno (a, b, c) h), he, HFIN.out.2.2⟩
    case done =>
      intro D xs W hD hWz hS hI hK
      have hr : tellP p ats sh = ((xs.map (·.2)).map (fun x => mInt x.1 p.Q), 0) := by
        rw [HF.out, ← hS]
        unfold tellL
        have hnone : (xs.map (·.2)).find? (fun x => decide (x.2.2 ≠ 0)) = none := by
          rw [List.find?_eq_none]
          intro y hy
          have := hI.no y hy
          simp [this]
        rw [hnone]
      obtain ⟨v, R8, o8⟩ := hI.R8
      obtain ⟨A8, k8, e8, _⟩ := o8.form
      subst e8
      have hDl := (Array.getElem?_eq_some_iff.1 hK).1
      have f6 := hI.R6.frozen 0
      have f7 := hI.R7.frozen 0
      have c6 := hI.R6.cell (k := 0) rfl
      have c7 := hI.R7.cell (k := 0) rfl
      have c8 := R8.cell (k := 0) rfl
      obtain ⟨L, hL⟩ : ∃ L, (xs.map (·.2)).map (fun x => Value.int .i64 (mInt x.1 p.Q)) = L := ⟨_, rfl⟩
      have HL := hid hL
      rw [hL] at o8 c8
      clear hL R8
      have r6 := (hI.R6.set 0 (.slice A8 L.length k8)).far (p := ⟨g7, 0, none⟩) (by simp; omega) (.int .i64 0)
      have r7 := (hI.R7.far (p := ⟨g6, 0, none⟩) (by simp; omega) (.slice A8 L.length k8)).set 0 (.int .i64 0)
      have rb := (hI.b.setCell (p := ⟨g6, 0, none⟩) n6 (.slice A8 L.length k8)).setCell (p := ⟨g7, 0, none⟩) n7 (.int .i64 0)
      have ro := (o8.setCell (p := ⟨g6, 0, none⟩) (by simp; omega) (.slice A8 L.length k8)).setCell (p := ⟨g7, 0, none⟩) (by simp; omega) (.int .i64 0)
      have hK2 : ((W.setCell ⟨g6, 0, none⟩ (.slice A8 L.length k8)).setCell ⟨g7, 0, none⟩ (.int .i64 0)).heap[D]? = some (.deferred (some [])) := (Below.heap_setCell _ _ _ D (by simp; omega)).trans ((Below.heap_setCell _ _ _ D (by simp; omega)).trans hK)
      have HRO := hid ro
      have HRR := hid hr
      clear o8 ro hr
      go_wp2
      refine ⟨by simp, .inl ⟨_, _, rfl, run_takeDeferred hK2, ?_⟩⟩
      have q6 := (r6.put (.deferred none) hK2 rfl).cell (k := 0) rfl
      have q7 := (r7.put (.deferred none) hK2 rfl).cell (k := 0) rfl
      refine ⟨.tuple #[.slice A8 L.length k8, .int .i64 0], by simp [results, Tryd.f41, go_sem, q6, q7], ?_⟩
      rw [HRR.out]
      refine ⟨_, rfl, ?_, below_put _ rb (by omega)⟩
      have h9 := (HRO.out.cu (CellsUp.put (o' := .deferred none) hK2 rfl)).from_ hN5
      have hLe : ((xs.map (·.2)).map fun x => mInt x.1 p.Q).map (Value.int .i64) = L := by rw [← HL.out, List.map_map]; rfl
      show Own _ _ _ _ (((xs.map (·.2)).map fun x => mInt x.1 p.Q).map (Value.int .i64))
      rw [hLe]
      exact h9
    case stop =>
      intro D cc xs W hD hWz hSp hI hK
      obtain ⟨rfl, pre, it, h1, h2, h3, hX⟩ := hI
      obtain ⟨_, rest, hrest⟩ := hSp
      have hr : tellP p ats sh = ([], it.2.2) := by
        rw [HF.out, ← hrest, h1]
        unfold tellL
        have hsome : (pre ++ [it] ++ rest).find? (fun x => decide (x.2.2 ≠ 0)) = some it := by
          rw [List.append_assoc, List.find?_append, List.find?_eq_none.2 (fun y hy => by have := h2 y hy; simp [this])]
          simp [h3]
        rw [hsome]
      gi_wp2
      refine ⟨by simp, .inl ⟨_, _, rfl, run_takeDeferred hK, ?_⟩⟩
      have q6 := (hX.R6.put (.deferred none) hK rfl).cell (k := 0) rfl
      have q7 := (hX.R7.put (.deferred none) hK rfl).cell (k := 0) rfl
      refine ⟨.tuple #[.slice none 0 0, .int .i64 it.2.2], by simp [results, Tryd.f41, go_sem, q6, q7], ?_⟩
      rw [hr]
      exact ⟨_, rfl, Own.nil _ _ _, below_put _ hX.b (by omega)⟩
end Go.Proofs.YtmmmdidbnjcooaaDoor
end

section
namespace Go.Proofs.YtmmmdidbnjcooaaDoor
open Go Go.RowKit Go.Maps Go.Shelf Go.Proofs

attribute [local go_sem] Oper.semAt_some

abbrev pS : Par := ⟨47, 23, 4, 9, 4, 4, 1, 1, 1, 1, 2, 2⟩
theorem pS_ok : pS.ok := by constructor <;> exact ⟨by decide, by decide⟩
theorem small22_c (w : World) : Calls Tryd.prog 39 #[] w fun e w' => e = .returned (pval pS) ∧ Below w.heap.size w w' := by
  go_enter Tryd.func39, Tryd.ntmps39
  go_wp2
  refine bodyPost_ret (v := pval pS) (by simp [results, Tryd.f39, go_sem, pS]) rfl ⟨rfl, ?_⟩
  exact (Below.refl _ _).alloc (Nat.le_refl _) _
end Go.Proofs.YtmmmdidbnjcooaaDoor
end

section
namespace Go.Proofs.YtmmmdidbnjcooaaDoor
open Go Go.RowKit Go.Maps Go.Shelf Go.Proofs Go.Sort

theorem sorts22 (m : Nat) : AnyZI.SortsIn Tryd.prog sortedA_ren Fence.wide m :=
  ⟨fun blk off cap ss W hH hblk hsz => callsIn_wide.2 (AnyM.slices_Sort_int sortA blk off cap ss W hH hblk hsz),
   fun p cap W => callsIn_wide.2 (AnyM.slices_Sort_int_none sortA p cap W)⟩
theorem keys22_c (mb : Option Nat) (W : World) : Calls Tryd.prog 79 #[.map mb] W fun e w' => e = .returned (.func (.func 99) #[] #[.pointer (some ⟨W.heap.size, 0, none⟩)]) ∧ w' = W.alloc (.cells #[.map mb] 118) :=
  callsIn_wide.1 (AnyZI.keys_in keysA Fence.wide 5 trivial rfl mb W)
theorem sorted22_c {H : Type} (g b nn : Nat) (D0 : DataW H) (R : Value → Option (DataW H × List MemPlace)) (w : World) (hg : w.cell? ⟨g, 0, none⟩ = some (.map (some b))) (hown : w.ownsMap Tryd.prog 3 R b nn D0) (hmax : Maps.size D0 ≤ maxLen) (hbytes : Maps.size D0 * 8 ≤ 140737488355328) :
    Calls Tryd.prog 78 #[.func (.func 99) #[] #[.pointer (some ⟨g, 0, none⟩)]] w fun e w' => ∃ (v : Value) (ss : List Int), e = .returned v ∧ ss.Perm (intKeys D0) ∧
      w'.ownsRow w.heap.size 3 1 v ss.length ((ss.mergeSort (fun x y => decide (x ≤ y))).map encZ) ∧ (v = .slice none 0 0 ↔ ss = []) ∧ Below w.heap.size w w' := by
  refine (callsIn_wide (n := 5)).1 ?_
  have hseq : SeqGives Fence.wide 2 Tryd.prog 99 #[.pointer (some ⟨g, 0, none⟩)] encZ (fun ss => ss.Perm (intKeys D0)) (Maps.size D0) w :=
    AnyZI.keys_gives (ρ := keysA_ren) { keysA with } Fence.wide _ trivial rfl (by omega) g b nn D0 _ (lt_of_cell hg) hg hown
  exact AnyZI.sorted_in sortedA Fence.wide 5 trivial trivial trivial trivial rfl (by omega) (sorts22 _) (enters_of Tryd.func98 (by kernel_rfl) rfl) 99 #[.pointer (some ⟨g, 0, none⟩)] trivial (enters_of Tryd.func99 (by kernel_rfl) rfl) _ _ hmax hbytes _ hseq
end Go.Proofs.YtmmmdidbnjcooaaDoor
end

section
namespace Go.Proofs.YtmmmdidbnjcooaaDoor
open Go Go.RowKit Go.Maps Go.Shelf Go.Proofs Go.Sort

/-- a set of numbers: a map of the call's own. -/
def nM : MK Tryd.prog 3 Int Value where
  R := rR
  key n := .int .i64 n
  tok _ := .agg #[]
  kv n := .int .i64 n
  val _ := .agg #[]
  ok n := I64 n
  K := int_keyed Tryd.underlying3
  hkey _ h := keyOf_int_mk Tryd.underlying3 (wf_i64 h)
  hval _ _ := rfl
  inv v a ps h := by
    unfold rR at h
    simp only [Option.some.injEq, Prod.mk.injEq, DataW.held.injEq] at h
    exact h.1
/-- one more member. -/
def putN (L : List Int) (n : Int) : List Int := n :: L.filter fun c => decide (c ≠ n)
theorem putN_eq [DecidableEq Lit] (L : List Int) (n : Int) : (n :: L.filter fun c => decide (nM.key c ≠ nM.key n)) = putN L n := by
  unfold putN
  congr 1
  refine List.filter_congr fun c _ => ?_
  have : (nM.key c ≠ nM.key n) = (c ≠ n) := by
    simp [nM]
  by_cases h : c = n
  · subst h; simp
  · rw [decide_eq_true (show nM.key c ≠ nM.key n by rw [this]; exact h), decide_eq_true h]
/-- all of a row's. -/
def putsN (ats : List Int) (L : List Int) (wr : List Nat) : List Int := wr.foldl (fun L i => putN L (ats.getD i 0)) L
/-- the members that lie. -/
def liarsL (ats : List Int) (T : List (Int × List Nat × Int)) : List Int × Int :=
  match T.find? (fun x => decide (x.2.2 ≠ 0)) with
  | some x => ([], x.2.2)
  | none => ((T.foldl (fun L x => putsN ats L x.2.1) []).mergeSort fun x y => decide (x ≤ y), 0)
noncomputable def liarsP (p : Par) (ats : List Int) (sh : List (List Int)) : List Int × Int := if argsB p.K ats sh = true then liarsL ats (told22 p.T p.Q ats sh p.K.toNat 0) else ([], 1)
theorem putN_len (L : List Int) (n : Int) : (putN L n).length ≤ L.length + 1 := by
  have := List.length_filter_le (fun c => decide (c ≠ n)) L
  unfold putN
  simp only [List.length_cons]
  omega
theorem putsN_len (ats : List Int) : ∀ (wr : List Nat) (L : List Int), (putsN ats L wr).length ≤ L.length + wr.length
  | [], L => by simp [putsN]
  | i :: wr, L => by
    have h1 := putsN_len ats wr (putN L (ats.getD i 0))
    have h2 := putN_len L (ats.getD i 0)
    have e : putsN ats L (i :: wr) = putsN ats (putN L (ats.getD i 0)) wr := rfl
    rw [e, List.length_cons]
    omega
end Go.Proofs.YtmmmdidbnjcooaaDoor
end

section
namespace Go.Proofs.YtmmmdidbnjcooaaDoor
open Go Go.RowKit Go.Maps Go.Shelf Go.Proofs

theorem offL_lt (l m c : List Int) (q : Int) : (∀ i ∈ offL l m c q, i < l.length) ∧ (offL l m c q).length ≤ l.length := by
  unfold offL offK
  refine ⟨fun i hi => List.mem_range.1 (List.mem_filter.1 hi).1, ?_⟩
  have := List.length_filter_le (offB l m c q) (List.range l.length)
  rwa [List.length_range] at this
theorem decR_wr (xs ys : List Int) (t q : Int) : (∀ i ∈ (decR xs ys t q).2.1, i < xs.length) ∧ (decR xs ys t q).2.1.length ≤ xs.length := by
  unfold decR
  split
  · simp
  split
  · simp
  split
  · simp
  cases h : (setsL (t.toNat + 1) 0 xs.length).findSome? (tryS xs ys t q) with
  | none => simp
  | some r =>
    obtain ⟨s, _, hs⟩ := List.exists_of_findSome?_eq_some h
    unfold tryS at hs
    split at hs
    · split at hs
      · obtain rfl := Option.some.inj hs
        exact offL_lt _ _ _ _
      · cases hs
    · obtain rfl := Option.some.inj hs
      simp
theorem told22_wr (T Q : Int) (ats : List Int) (sh : List (List Int)) : ∀ d k, ∀ x ∈ told22 T Q ats sh d k, (∀ i ∈ x.2.1, i < ats.length) ∧ x.2.1.length ≤ ats.length
  | 0, _, x, hx => by simp [told22] at hx
  | d + 1, k, x, hx => by
    rw [told22] at hx
    split at hx
    · rcases List.mem_cons.1 hx with rfl | hx
      · exact decR_wr _ _ _ _
      · exact told22_wr T Q ats sh d (k + 1) x hx
    · obtain rfl := List.mem_singleton.1 hx
      simp
theorem fold_len (ats : List Int) (n : Nat) : ∀ (T : List (Int × List Nat × Int)) (L : List Int), (∀ x ∈ T, x.2.1.length ≤ n) → (T.foldl (fun L x => putsN ats L x.2.1) L).length ≤ L.length + T.length * n
  | [], L, _ => by simp
  | x :: T, L, h => by
    have h1 := fold_len ats n T (putsN ats L x.2.1) fun y hy => h y (List.mem_cons_of_mem _ hy)
    have h2 := putsN_len ats x.2.1 L
    have h3 := h x (List.mem_cons_self ..)
    rw [List.foldl_cons, List.length_cons, Nat.add_one_mul]
    omega
theorem putsN_succ (ats L : List Int) (wl : List Nat) {j i : Nat} (h : wl[j]? = some i) : putsN ats L (wl.take (j + 1)) = putN (putsN ats L (wl.take j)) (ats.getD i 0) := by
  unfold putsN
  rw [List.take_add_one, h, List.foldl_append]
  rfl
theorem set_keys {w : World} {g : Nat} {L : List Int} (h : MapAt (nM) w g L) : ∃ D, w.ownsMap Tryd.prog 3 rR g L.length D ∧ (intKeys D).Perm L ∧ Maps.size D = L.length := by
  obtain ⟨_, _, D, h1, es, rfl, h2⟩ := h
  refine ⟨_, h1, ?_, ?_⟩
  · have := h2.map fun p => Go.intOf p.1
    rw [List.map_map] at this
    have e : (L.map ((fun p : Lit × DataW Value => Go.intOf p.1) ∘ fun a => (nM.key a, DataW.held (nM.tok a)))) = L := by
      refine Eq.trans (List.map_congr_left fun a _ => ?_) (List.map_id L)
      rfl
    rw [e] at this
    exact this
  · show es.length = _
    rw [h2.length_eq, List.length_map]
end Go.Proofs.YtmmmdidbnjcooaaDoor
end
