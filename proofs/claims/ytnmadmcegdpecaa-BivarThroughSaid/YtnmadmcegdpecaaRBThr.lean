/-
  The polynomial of two through rows: the reference's.
-/
import Derived.Test.YtnmadmcegdpecaaBThr
import Derived.Test.YtnmadmcegdpecaaBivE
import Derived.Test.YtnmadmcegdpecaaRefM
namespace Go.Proofs.Ytnmadmcegdpecaa
open Go.RowKit

attribute [local go_sem] Oper.semAt_some

/-- a list of lists of the call's own, and what is wrong. -/
def NewGridTwo (F : List (List Int)) (err : Int) (w : World) (e : Ending) (w' : World) : Prop := ∃ v, e = .returned (.tuple #[v, .int .i64 err]) ∧ OwnRows w' w.heap.size 26 23 v (rowsU F) ∧ Below w.heap.size w w'

/-- k polynomials through columns. -/
noncomputable def colsL (xs : List Int) (f : List (List Int)) (q : Int) (k : Nat) : List (List Int) := (List.range k).map fun j => tVal xs (colJ f j) q
theorem colsL_len (xs : List Int) (f : List (List Int)) (q : Int) (k : Nat) : (colsL xs f q k).length = k := by simp [colsL]
theorem colsL_step (xs : List Int) (f : List (List Int)) (q : Int) (k : Nat) : rowsU (colsL xs f q k) ++ [(tVal xs (colJ f k) q).map (.int .u64)] = rowsU (colsL xs f q (k + 1)) := by
  unfold rowsU colsL
  rw [List.range_succ]; simp
theorem colsL_wide {xs : List Int} {f : List (List Int)} {q : Int} (he : bErr xs f q = 0) (k : Nat) : wide (colsL xs f q k) ≤ xs.length ∧ (0 < k → wide (colsL xs f q k) = xs.length) := by
  have hall : ∀ l ∈ colsL xs f q k, l.length = xs.length := fun l hl => by
    obtain ⟨j, _, rfl⟩ := List.mem_map.1 hl
    exact tVal_len (by rw [tErr_any (f := f) (colJ_len f j), he])
  have h1 : wide (colsL xs f q k) ≤ xs.length := wide_le fun l hl => by rw [hall l hl]; exact Nat.le_refl _
  refine ⟨h1, fun hk => ?_⟩
  have hm : tVal xs (colJ f 0) q ∈ colsL xs f q k := List.mem_map.2 ⟨0, List.mem_range.2 hk, rfl⟩
  have h2 := le_wide hm
  have h3 := hall _ hm
  omega
theorem cols_pad {xs : List Int} {f : List (List Int)} {q : Int} (he : bErr xs f q = 0) : (turnedF (colsL xs f q (wide f))).length ≤ xs.length ∧ turnedF (colsL xs f q (wide f)) ++ List.replicate (xs.length - (turnedF (colsL xs f q (wide f))).length) [] = bVal xs f q := by
  have hbv : bVal xs f q = bPart xs f q (wide f) := by unfold bVal; rw [if_pos he]
  obtain ⟨h1, h2⟩ := colsL_wide he (wide f)
  have h0 : (turnedF (colsL xs f q (wide f))).length = wide (colsL xs f q (wide f)) := by simp [turnedF]
  rw [h0, hbv]
  refine ⟨h1, ?_⟩
  rcases Nat.eq_zero_or_pos (wide f) with h | h
  · rw [h]
    have h3 : wide (colsL xs f q 0) = 0 := by simp [colsL, wide]
    rw [h3, turned_none _ h3, bPart_zero]; simp
  · rw [h2 h, Nat.sub_self, List.replicate_zero, List.append_nil]
    unfold turnedF bPart
    rw [h2 h]
    apply List.map_congr_left
    intro i _
    unfold colJ colsL
    rw [List.map_map]; rfl

set_option maxRecDepth 100000 in
set_option maxHeartbeats 2000000 in
theorem rbthrough_c (A B : Option Addr) (l : List Int) (f : List (List Int)) (c d : Nat) (q : Int) (w : World) (hA : Cells w A (l.map (.int .u64))) (hB : Grid w B f) (hl : l.length ≤ 100000) (hlf : f.length ≤ 100000) (hwd : wide f ≤ 100000) (hu : U64s l) (hw : Words f) (hq : U64 q) :
    Calls Try.prog 71 #[.slice A l.length c, .slice B f.length d, .int .u64 q] w (NewGridTwo (bVal l f q) (bErr l f q) w) := by
  have hrw : ∀ w', Below w.heap.size w w' → Calls Try.prog 75 #[.slice B f.length d] w' fun e w'' => e = .returned (.int .i64 (wide f : Int)) ∧ w' = w'' := fun w' hb => rwide_c B f d w' (hB.below hb) (by omega)
  obtain ⟨be, hbe⟩ : ∃ b, bErr l f q = b := ⟨_, rfl⟩
  obtain ⟨n, hn⟩ : ∃ n, wide f = n := ⟨_, rfl⟩
  have hpad := fun he : bErr l f q = 0 => cols_pad he
  have hcw := fun (he : bErr l f q = 0) (k : Nat) => (colsL_wide he k).1
  have hthr := fun (k : Nat) (A7 : Option Addr) (c7 : Nat) (w' : World) (hb : Below w.heap.size w w') (hc : Cells w' A7 ((colJ f k).map (.int .u64))) => rthrough_c A A7 l (colJ f k) c c7 q w' (hA.keep fun p hp => hb.cell hp) hc hl (by rw [colJ_len]; exact hlf) hu (colJ_u64 hw k) hq
  have hte : ∀ k, tErr l (colJ f k) q = be := fun k => by rw [tErr_any (f := f) (colJ_len f k), hbe]
  have hcl := fun k => colJ_len f k
  obtain ⟨m, hm⟩ : ∃ m, max 1 n = m := ⟨_, rfl⟩
  have hm1 : max (1 : Int) (n : Int) = (m : Int) := by omega
  have hmn : n ≤ m ∧ 1 ≤ m ∧ (m = n ∨ m = 1 ∧ n = 0) := by omega
  rw [hn] at hrw hwd
  rw [hn, hbe] at hpad
  rw [hbe] at hcw
  have H := hid (⟨hrw, hbe, hpad, hthr, hte, hcl, hcw⟩ : _ ∧ _ ∧ _ ∧ _ ∧ _ ∧ _ ∧ _)
  clear hrw hbe hpad hthr hte hn hm hcl hcw
  go_enter Try.func71, Try.ntmps71
  go_wp2
  go_loopw [8, 9, 10, 11, 12, 13, 14] (fun o i _ _ _ _ _ wr => ∃ k : Nat, i = .int .i64 k ∧ k ≤ m ∧ OwnRows wr w.heap.size 26 23 o (rowsU (colsL l f q (min k n))) ∧ Below w.heap.size w wr ∧ (0 < k → be = 0)) (fun _ i _ _ _ _ _ _ => m - (intOf i).toNat)
  case atStart => exact ⟨0, rfl, by omega, by simpa [rowsU, colsL] using OwnRows.nil w w.heap.size 26 23, Below.refl _ _, fun h => by omega⟩
  case round =>
    obtain ⟨k, rfl, hk, ⟨vs, hown, hvl, hvr⟩, hb, hk0⟩ := hrel
    by_cases hlt : k < m
    · have hvl' : vs.length = min k n := by rw [hvl]; simp [rowsU, colsL]
      have HV := hid (⟨hvl, hvl', hvr, hk0⟩ : _ ∧ _ ∧ _ ∧ _)
      clear hvl hvl' hvr hk0
      go_wp2_with (go_at_call 75; refine (H.out.1 _ hb).mono ?_; rintro e w2 ⟨rfl, rfl⟩)
      generalize wr = wo at *
      go_loopw [10, 11, 12] (fun o i _ w4 => ∃ i' : Nat, i = .int .i64 i' ∧ i' ≤ f.length ∧ Own w4 wo.heap.size 23 o (((colJ f k).take i').map (.int .u64)) ∧ Below wo.heap.size wo w4) (fun _ i _ _ => f.length - (intOf i).toNat)
      case atStart => exact ⟨0, rfl, by omega, by simpa using Own.nil wo wo.heap.size 23, Below.refl _ _⟩
      case round =>
        obtain ⟨i, rfl, hi, hown4, hb4⟩ := hrel
        by_cases hlt2 : i < f.length
        · obtain ⟨l2, hxl⟩ := get_of_lt hlt2
          obtain ⟨o1, off, A', c', rfl, hc, hcs, hln⟩ := ((hB.below hb).below hb4).at_ hxl
          have hcj := colJ_at hxl k
          have hs : ((colJ f k).take i).map (Value.int .u64) ++ [Value.int .u64 (l2.getD k 0)] = ((colJ f k).take (i + 1)).map (Value.int .u64) := by
            rw [take_snoc' hcj]; simp
          have hlen : (((colJ f k).take i).map (Value.int .u64)).length = i := by simp [colJ_len]; omega
          have HS := hid (⟨hs, hlen⟩ : _ ∧ _)
          clear hs hlen hcj hxl
          by_cases hin : k < l2.length
          · obtain ⟨z, hz⟩ := get_of_lt hin
            obtain ⟨o2, off2, rfl, hcz⟩ := hcs.at_map hz
            have hgd : l2.getD k 0 = z := by rw [List.getD_eq_getElem?_getD, hz]; rfl
            rw [hgd] at HS
            clear hgd hz
            go_wp2_with (at_builtin; refine wpList_push elt_u64 wr rfl _ _ rfl wo.heap.size hown4 rfl (.int .u64 z) rfl rfl (by rw [HS.out.2]; omega) (by rw [HS.out.2]; omega) hb4.size ?_; intro v' w3 hown5 _ hb5)
            go_roundw
            case rel =>
              rw [HS.out.1] at hown5
              exact ⟨i + 1, by go_num, by omega, hown5, hb4.trans hb5⟩
            case measure => simp [intOf]; omega
          · have hgd : l2.getD k 0 = 0 := by rw [List.getD_eq_getElem?_getD, List.getElem?_eq_none (by omega)]; rfl
            rw [hgd] at HS
            clear hgd
            go_wp2_with (at_builtin; refine wpList_push elt_u64 wr rfl _ _ rfl wo.heap.size hown4 rfl (.int .u64 0) rfl rfl (by rw [HS.out.2]; omega) (by rw [HS.out.2]; omega) hb4.size ?_; intro v' w3 hown5 _ hb5)
            go_roundw
            case rel =>
              rw [HS.out.1] at hown5
              exact ⟨i + 1, by go_num, by omega, hown5, hb4.trans hb5⟩
            case measure => simp [intOf]; omega
        · obtain rfl : i = f.length := by omega
          rw [List.take_of_length_le (by rw [colJ_len]; exact Nat.le_refl _)] at hown4
          have hown5 := hown.below hb4
          have hvr5 : ∀ (j : Nat) u xs, vs[j]? = some u → (rowsU (colsL l f q (min k n)))[j]? = some xs → RowT wr 23 u xs := fun j u xs a b => (HV.out.2.2.1 j u xs a b).below hb4
          obtain ⟨A7, c7, rfl, hc7⟩ := hown4.form
          have hb5 := below_next hb hb.size hb4
          have hthr := H.out.2.2.2.1 k A7 c7 wr hb5 hc7
          rw [H.out.2.2.2.2.1 k] at hthr
          rw [List.length_map]
          have HT := hid hthr
          have HVR := hid hvr5
          clear hvr5 hthr hc7 hown4
          by_cases hbe : be = 0
          · have hbn : (be != 0) = false := by rw [hbe]; rfl
            have hbz := hid hbe
            clear hbe
            go_wp2_with (fail)
            refine HT.out.mono ?_
            rintro e w6 ⟨v6, rfl, ho6, hb6⟩
            have hrt := ho6.rowT
            have hown6 := hown5.below hb6
            have hvr6 : ∀ (j : Nat) u xs, vs[j]? = some u → (rowsU (colsL l f q (min k n)))[j]? = some xs → RowT w6 23 u xs := fun j u xs a b => (HVR.out j u xs a b).below hb6
            have HVR6 := hid hvr6
            have hb7 := below_next hb5 hb5.size hb6
            obtain ⟨A6, c6, rfl, _⟩ := ho6.form
            rw [List.length_map] at hrt
            clear hvr6 ho6 hown5 hb6
            by_cases hkn : k < n
            · have hmk : min k n = k := by omega
              have HMK := hid hmk
              clear hmk
              go_wp2_with (first | (go_at_call 75; refine (H.out.1 _ hb7).mono ?_; rintro e w2 ⟨rfl, rfl⟩) | (at_builtin; refine wpList_push elt_rows w6 rfl _ _ rfl w.heap.size hown6 rfl (.slice A6 _ c6) rfl rfl (by rw [HV.out.2.1]; omega) (by rw [HV.out.2.1]; omega) hb7.size ?_; intro v' w9 hown9 hoth hb9))
              go_roundw
              case rel =>
                have hrows := OwnRows.push (w := w6) (by decide) HV.out.1 HVR6.out hown6 hrt hown9 hoth
                rw [HMK.out, colsL_step] at hrows
                exact ⟨k + 1, by go_num, by omega, by rw [show min (k + 1) n = k + 1 by omega]; exact hrows, hb7.trans hb9, fun _ => hbz.out⟩
              case measure => simp [intOf]; omega
            · have hmk : min (k + 1) n = min k n := by omega
              have HMK := hid hmk
              clear hmk
              go_wp2_with (go_at_call 75; refine (H.out.1 _ hb7).mono ?_; rintro e w2 ⟨rfl, rfl⟩)
              go_roundw
              case rel => exact ⟨k + 1, by go_num, by omega, by rw [HMK.out]; exact ⟨vs, hown6, HV.out.1, HVR6.out⟩, hb7, fun _ => hbz.out⟩
              case measure => simp [intOf]; omega
          · have hbn : (be != 0) = true := bne_iff_ne.2 hbe
            have hbz := hid hbe
            clear hbe
            go_wp2_with (fail)
            refine HT.out.mono ?_
            rintro e w6 ⟨v6, rfl, ho6, hb6⟩
            go_wp2
            go_ret2
            rw [show bVal l f q = [] by unfold bVal; rw [H.out.2.1, if_neg hbz.out], H.out.2.1]
            exact ⟨_, rfl, OwnRows.nil _ _ _ _, below_next hb5 hb5.size hb6⟩
    · obtain rfl : k = m := by omega
      have hbe : be = 0 := hk0 (by omega)
      rw [show min k n = n by omega] at hvl hvr
      have hrows : OwnRows wr w.heap.size 26 23 _ (rowsU (colsL l f q n)) := ⟨vs, hown, hvl, hvr⟩
      obtain ⟨A1, c1, rfl, hg1, hl1⟩ := OwnRows.grid (f := colsL l f q n) hrows
      have hpad := H.out.2.2.1 (by rw [hbe])
      have hcw := H.out.2.2.2.2.2.2 (by rw [hbe]) n
      have hcn := colsL_len l f q n
      have hbr := H.out.2.1
      rw [hbe] at hbr
      have HP := hid (⟨hpad.2, hbr⟩ : _ ∧ _)
      have hpl := hpad.1
      have H1 := H.out.1
      have HW := hid H1
      have hct := fun w' (hg : Grid w' A1 (colsL l f q n)) => rturned06_c A1 (colsL l f q n) c1 w' hg (by rw [hcn]; omega) (by omega)
      rw [hcn] at hct ⊢
      have HCT := hid hct
      clear hpad hbr hrows hown hvl hvr hk0 H1 H hcn hct
      go_wp2_with (go_at_call 75; refine (HW.out _ hb).mono ?_; rintro e w2 ⟨rfl, rfl⟩)
      refine (HCT.out wr hg1).mono ?_
      rintro e w5 ⟨v5, rfl, hr5, hb5⟩
      have hr5 := hr5.from_ hb.size
      have hb6 := below_next hb hb.size hb5
      generalize turnedF (colsL l f q n) = T at *
      clear hg1 hl1 hb5 hcw HCT
      go_wp2
      go_loopw [15] (fun o wr => ∃ k : Nat, sliceLen o = T.length + k ∧ T.length + k ≤ l.length ∧ OwnRows wr w.heap.size 26 23 o (rowsU (T ++ List.replicate k [])) ∧ Below w.heap.size w wr) (fun o _ => l.length - sliceLen o)
      case atStart =>
        obtain ⟨A5, c5, h5, _⟩ := OwnRows.grid (f := T) hr5
        exact ⟨0, by rw [h5]; rfl, by omega, by simpa using hr5, hb6⟩
      case round =>
        obtain ⟨j, hsl, hj, ⟨vs, hown, hvl, hvr⟩, hb7⟩ := hrel
        have hvn : vs.length = T.length + j := by rw [hvl]; simp [rowsU]
        obtain ⟨A5, c5, rfl, _⟩ := hown.form
        clear hr5 hb6 hsl
        by_cases hltj : T.length + j < l.length
        · have hst : rowsU (T ++ List.replicate j []) ++ [([] : List Int).map (.int .u64)] = rowsU (T ++ List.replicate (j + 1) []) := by
            unfold rowsU
            rw [List.replicate_succ']; simp
          have HV := hid (⟨hvl, hvr, hst, hvn⟩ : _ ∧ _ ∧ _ ∧ _)
          rw [hvn] at hown ⊢
          clear hvl hvr hst hvn
          go_wp2_with (at_builtin; refine wpList_push elt_rows wr rfl _ _ rfl w.heap.size hown rfl (.slice none 0 0) rfl rfl (by rw [HV.out.2.2.2]; omega) (by rw [HV.out.2.2.2]; omega) hb7.size ?_; intro v' w9 hown9 hoth hb9; have hrows := OwnRows.push (w := wr) (by decide) HV.out.1 HV.out.2.1 hown (RowT.nil wr 23 none 0) hown9 hoth; obtain ⟨A9, c9, rfl, _⟩ := hown9.form)
          go_roundw
          case rel =>
            refine ⟨j + 1, ?_, by omega, ?_, hb7.trans hb9⟩
            · simp [sliceLen, HV.out.2.2.2]; omega
            · have := HV.out.2.2.1
              simp only [List.map_nil] at this
              rw [this, List.length_append, List.length_singleton] at hrows
              exact hrows
          case measure => simp [sliceLen, HV.out.2.2.2]; omega
        · have hje : T.length + j = l.length := by omega
          rw [hvn, hje] at hown ⊢
          have hjr : j = l.length - T.length := by omega
          have HJ := hid hjr
          have HV := hid (⟨hvl, hvr⟩ : _ ∧ _)
          clear hvl hvr hvn hje hjr
          go_wp2
          go_ret2
          rw [← HP.out.1, HP.out.2, ← HJ.out]
          exact ⟨_, rfl, ⟨vs, hown, HV.out.1, HV.out.2⟩, hb7⟩

end Go.Proofs.Ytnmadmcegdpecaa
