/-
  The products of a row of values and a query.
-/
import Derived.Test.YtnmadmcegdpecaaFixF
namespace Go.Proofs.Ytnmadmcegdpecaa
open Go.RowKit

/-- the products. -/
def dotS (p : Par) (l x : List Int) : List Int := if fits p = true then (List.range p.K.toNat).map fun k => dsum l (rowS p x) p.Q (k * (p.D.toNat + 1)) (p.D.toNat + 1) else []

theorem pars_at {p : Par} {w : World} {g : Nat} {e : TypeId} (h : Row1 w g e (pcells p)) :
    w.cell? ⟨g, 0, none⟩ = some (.int .u64 p.P) ∧ w.cell? ⟨g, 1, none⟩ = some (.int .u64 p.Q) ∧ w.cell? ⟨g, 2, none⟩ = some (.int .u64 p.G) ∧ w.cell? ⟨g, 3, none⟩ = some (.int .u64 p.H) ∧
    w.cell? ⟨g, 4, none⟩ = some (.int .i64 p.Nodes) ∧ w.cell? ⟨g, 5, none⟩ = some (.int .i64 p.N) ∧ w.cell? ⟨g, 6, none⟩ = some (.int .i64 p.T) ∧ w.cell? ⟨g, 7, none⟩ = some (.int .i64 p.K) ∧
    w.cell? ⟨g, 8, none⟩ = some (.int .i64 p.D) ∧ w.cell? ⟨g, 9, none⟩ = some (.int .i64 p.R) ∧ w.cell? ⟨g, 10, none⟩ = some (.int .i64 p.M) ∧ w.cell? ⟨g, 11, none⟩ = some (.int .i64 p.X) :=
  ⟨h.cell (k := 0) rfl, h.cell (k := 1) rfl, h.cell (k := 2) rfl, h.cell (k := 3) rfl, h.cell (k := 4) rfl, h.cell (k := 5) rfl, h.cell (k := 6) rfl, h.cell (k := 7) rfl, h.cell (k := 8) rfl, h.cell (k := 9) rfl, h.cell (k := 10) rfl, h.cell (k := 11) rfl⟩

set_option maxRecDepth 100000 in
set_option maxHeartbeats 1000000 in
theorem fdot_c (p : Par) (hp : p.ok) (A B : Option Addr) (l x : List Int) (c d : Nat) (w : World) (hA : Cells w A (l.map (.int .u64))) (hB : Cells w B (x.map (.int .i64))) (hl : l.length ≤ 9223372036854775807) (hl' : x.length ≤ 17592186044415) (hu : U64s l) (hu' : I64s x) :
    Calls Try.prog 38 #[pval p, .slice A l.length c, .slice B x.length d] w (NewNums (dotS p l x) w) := by
  go_enter Try.func38, Try.ntmps38
  go_wp2_with (fail)
  have hb2 := ((below_alloc w (.cells (pcells p).toArray 40)).alloc (by simp) (.cells #[.slice A l.length c] 26))
  have hP : Row1 ((w.alloc (.cells (pcells p).toArray 40)).alloc (.cells #[.slice A l.length c] 26)) w.heap.size 40 (pcells p) := (row1_new w (pcells p) 40).alloc _
  have hL : Row1 ((w.alloc (.cells (pcells p).toArray 40)).alloc (.cells #[.slice A l.length c] 26)) (w.heap.size + 1) 26 [.slice A l.length c] := by
    have := row1_new (w.alloc (.cells (pcells p).toArray 40)) [.slice A l.length c] 26
    simpa using this
  have hA1 := hA.below hb2
  have hB1 := hB.below hb2
  have hsz : ((w.alloc (.cells (pcells p).toArray 40)).alloc (.cells #[.slice A l.length c] 26)).heap.size = w.heap.size + 2 := by simp
  refine (frow_c p hp _ _ _ _ hB1 hl' hu').mono ?_
  rintro e w1 ⟨v, rfl, hown, hb3⟩
  have hb4 := below_next hb2 hb2.size hb3
  have hP1 := hP.below hb3
  have hL1 := hL.below hb3
  have hA2 := hA1.below hb3
  rw [hsz] at hown
  obtain ⟨R, c', rfl, hR⟩ := hown.form
  rw [List.length_map]
  clear hP hL hA1 hB1 hb3 hb2 hsz hown
  have hRr := row1_new w1 [.slice R (rowS p x).length c'] 26
  have hbW := below_alloc w1 (.cells #[.slice R (rowS p x).length c'] 26)
  have hb5 := below_next hb4 hb4.size hbW
  have hP2 := hP1.below hbW
  have hL2 := hL1.below hbW
  have hA3 := hA2.below hbW
  have hR2 := hR.below hbW
  go_wp2
  generalize w1.alloc (.cells #[.slice R (rowS p x).length c'] 26) = W at *
  clear hP1 hL1 hA2 hR hbW hb4 hA hB
  have hKb : fits p = true → p.K.toNat ≤ 2 ∧ (p.K.toNat : Int) = p.K ∧ p.D.toNat ≤ 4 := fun h => by
    have hF := (fits_iff p).1 h
    have h1 := hF.K
    have h2 := hF.K0
    have h3 := hF.D
    have h4 := hF.D0
    omega
  have hrl : fits p = true → (rowS p x).length = p.D.toNat + 1 := fun h => by simp [rowS, h, padded_len]
  have hrl5 : (rowS p x).length ≤ 5 := by
    cases hf : fits p with
    | true => rw [hrl hf]; have := hKb hf; omega
    | false => simp [rowS, hf]
  have HKB := hid hKb
  have HRL := hid hrl
  clear hKb hrl
  go_loopw [9, 10] (fun o i wr => ∃ k : Nat, i = .int .i64 k ∧ k ≤ (dotS p l x).length ∧ Own wr W.heap.size 23 o (((dotS p l x).take k).map (.int .u64)) ∧ Below W.heap.size W wr) (fun _ i _ => (dotS p l x).length - (intOf i).toNat)
  case atStart => exact ⟨0, rfl, by omega, by simpa using Own.nil W W.heap.size 23, Below.refl _ _⟩
  case round =>
    obtain ⟨k, rfl, hk, hown, hb⟩ := hrel
    rename_i wr
    have hP3 := hP2.below hb
    obtain ⟨q0, q1, q2, q3, q4, q5, q6, q7, q8, q9, q10, q11⟩ := pars_at hP3
    cases hf : fits p with
    | false =>
      have hd0 : dotS p l x = [] := by simp [dotS, hf]
      have HD := hid hd0
      rw [hd0] at hk hown
      obtain rfl : k = 0 := by simpa using hk
      clear hd0
      go_wp2_with (go_at_call 86; refine (fit_c p _).mono ?_; rintro e w3 ⟨rfl, hb6⟩; rw [hf])
      go_ret
      have hb7 := below_next hb hb.size hb6
      refine ⟨_, rfl, ?_, hb5.trans (hb7.mono hb5.size)⟩
      rw [HD.out]
      exact (hown.below hb6).from_ hb5.size
    | true =>
      have hlen : (dotS p l x).length = p.K.toNat := by simp [dotS, hf]
      obtain ⟨K2, KK, D4⟩ := HKB.out hf
      have hrl' := HRL.out hf
      have hb1 : Below wr.heap.size wr wr := Below.refl _ _
      by_cases hlt : k < (dotS p l x).length
      · have hz : (dotS p l x)[k]? = some (dsum l (rowS p x) p.Q (k * (rowS p x).length) (rowS p x).length) := by
          rw [hlen] at hlt
          rw [hrl']
          simp [dotS, hf, hlt]
        have hs : ((dotS p l x).take k).map (Value.int .u64) ++ [Value.int .u64 (dsum l (rowS p x) p.Q (k * (rowS p x).length) (rowS p x).length)] = ((dotS p l x).take (k + 1)).map (.int .u64) := by
          rw [take_snoc' hz]; simp
        have hlen3 : (((dotS p l x).take k).map (Value.int .u64)).length = k := by simp; omega
        have hmul : ((k : Int) * ((rowS p x).length : Int)) = ((k * (rowS p x).length : Nat) : Int) := by simp
        have hat : k * (rowS p x).length ≤ 10 := by
          have : k ≤ 2 := by omega
          exact Nat.le_trans (Nat.mul_le_mul this hrl5) (by omega)
        have HS := hid hs
        have hrow := rowS_u64 p x
        have hrl3 : (rowS p x).length ≤ 1000 := by omega
        clear hs hz
        generalize k * (rowS p x).length = at_ at *
        go_wp2_with (fail)
        refine (fit_c p _).mono ?_
        rintro e w3 ⟨rfl, hb6⟩
        rw [hf]
        have hb7 := below_next hb hb.size hb6
        have hP4 := hP3.below hb6
        have q7' : w3.cell? ⟨w.heap.size, 7, none⟩ = some (.int .i64 (p.K.toNat : Int)) := by rw [KK]; exact hP4.cell (k := 7) rfl
        have hlt' : k < p.K.toNat := by omega
        have hRc := (hRr.below hb7).cell (k := 0) rfl
        have hLc := (hL2.below hb7).cell (k := 0) rfl
        have hGc := hP4.cell (k := 1) rfl
        have hown6 := hown.below hb6
        have hat2 : at_ ≤ 1000 := by omega
        have HK := hid (⟨hlt, hlen, hlen3⟩ : _ ∧ _ ∧ _)
        clear q0 q1 q2 q3 q4 q5 q6 q7 q8 q9 q10 q11 hP3 hown hrl' hlen hlen3 KK hlt
        go_wp2_with (first | (go_at_call 90; refine (dot1_c at_ _ _ _ _ _ _ _ _ _ _ _ hat2 hRc hLc hGc (hR2.below hb7) (hA3.below hb7) hrl3 hl hrow hu hp.Q).mono ?_; rintro e w4 ⟨rfl, hw4⟩) | (at_builtin; refine wpList_push elt_u64 w4 rfl _ _ rfl W.heap.size (hown6.dr hw4) rfl (.int .u64 (dsum l (rowS p x) p.Q at_ (rowS p x).length)) rfl rfl (by rw [HK.out.2.2]; have := HK.out.1; have := HK.out.2.1; omega) (by rw [HK.out.2.2]; have := HK.out.1; have := HK.out.2.1; omega) (by have := (below_dr hb7 hw4).size; omega) ?_; intro v' w5 hown5 _ hb8))
        go_roundw
        case rel =>
          rw [HS.out] at hown5
          exact ⟨k + 1, by go_num, HK.out.1, hown5, (below_dr hb7 hw4).trans hb8⟩
        case measure => have := HK.out.1; simp [intOf]; omega
      · obtain rfl : k = (dotS p l x).length := by omega
        have q7' : wr.cell? ⟨w.heap.size, 7, none⟩ = some (.int .i64 (p.K.toNat : Int)) := by rw [KK]; exact q7
        have HL := hid hlen
        have hlt' : ((dotS p l x).length : Int) = (p.K.toNat : Int) := by omega
        go_wp2_with (fail)
        refine (fit_c p _).mono ?_
        rintro e w3 ⟨rfl, hb6⟩
        rw [hf]
        have q7'' := (hb6.cell (lt_of_cell q7')).trans q7'
        rw [← hlt'] at q7''
        clear q0 q1 q2 q3 q4 q5 q6 q7 q8 q9 q10 q11 q7' hlt'
        go_wp2
        go_ret
        have hb7 := below_next hb hb.size hb6
        rw [List.take_length] at hown
        exact ⟨_, rfl, (hown.below hb6).from_ hb5.size, hb5.trans (hb7.mono hb5.size)⟩

end Go.Proofs.Ytnmadmcegdpecaa
