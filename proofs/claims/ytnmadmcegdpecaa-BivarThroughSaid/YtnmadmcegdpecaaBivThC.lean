/-
  The law on polynomials of two through rows: the walk.
-/
import Derived.Test.YtnmadmcegdpecaaRBThr
import Derived.Test.YtnmadmcegdpecaaWorks
import Derived.Test.YtnmadmcegdpecaaBivH
import Derived.Test.YtnmadmcegdpecaaBivB
import Derived.Test.YtnmadmcegdpecaaArgs
import Derived.Test.YtnmadmcegdpecaaCmp
namespace Go.Proofs.Ytnmadmcegdpecaa
open Go.ChangeShapes Go.WideShapes Go.ChangeAt Go.RowKit

/-- rows that may be written over. -/
structure Wr2 (go D : Nat) (vs : List Value) (ns : List Nat) (w : World) : Prop where
  O : Row1 w go 26 vs
  len : vs.length = ns.length
  R : ∀ (i : Nat) u m, vs[i]? = some u → ns[i]? = some m → Writ w D 23 u m
  lt : go < D
theorem Wr2.set {go D : Nat} {vs : List Value} {ns : List Nat} {w : World} (h : Wr2 go D vs ns w) {g : Nat} (k : Nat) (u : Value) (hg : D ≤ g) : Wr2 go D vs ns (w.setCell ⟨g, k, none⟩ u) :=
  ⟨h.O.far (p := ⟨g, k, none⟩) (by have := h.lt; simp; omega) u, h.len, fun i v m hv hm => (h.R i v m hv hm).set g k u, h.lt⟩
theorem Wr2.below {go D : Nat} {vs : List Value} {ns : List Nat} {w w' : World} (h : Wr2 go D vs ns w) (hb : Below w.heap.size w w') : Wr2 go D vs ns w' :=
  ⟨h.O.below hb, h.len, fun i v m hv hm => (h.R i v m hv hm).below hb, h.lt⟩
theorem Rws.wr2 {go D : Nat} {vs : List Value} {f : List (List Int)} {w : World} (h : Rws go D vs f w) (hgo : go < D) : Wr2 go D vs (f.map List.length) w :=
  ⟨h.O, by rw [h.len, List.length_map], fun i u m hu hm => by
    rw [List.getElem?_map] at hm
    cases hf : f[i]? with
    | none => rw [hf] at hm; cases hm
    | some l =>
      rw [hf] at hm
      obtain rfl := Option.some.inj hm
      have := (h.R i u l hu hf).writ
      rwa [List.length_map] at this, hgo⟩
theorem largeF_le2 {f : List (List Int)} (h : largeF f = false) : f.length ≤ 20 ∧ wide f ≤ 20 := by
  simp only [largeF, Bool.or_eq_false_iff, decide_eq_false_iff_not] at h
  omega
theorem bVal_len (xs : List Int) (f : List (List Int)) (q : Int) : (bVal xs f q).length ≤ xs.length := by
  unfold bVal
  split
  · simp [bPart]
  · simp

set_option maxRecDepth 100000 in
set_option maxHeartbeats 4000000 in
theorem bivarThrough_c (A B : Option Addr) (l : List Int) (f : List (List Int)) (c d : Nat) (q : Int) (w : World) (hA : Cells w A (l.map (.int .u64))) (hB : Grid w B f) (hl : l.length ≤ 9223372036854775807) (hlf : f.length ≤ 9223372036854775807) (hu : U64s l) (hw : Words f) (hq : U64 q) :
    Calls Try.prog 14 #[.slice A l.length c, .slice B f.length d, .int .u64 q] w fun e w' => e = .returned (.bool true) ∧ Below w.heap.size w w' := by
  by_cases h12 : l.length ≤ 12
  · go_enter Try.func14, Try.ntmps14
    go_wp2_with (fail)
    have hr0 := row1_new w [.slice B f.length d] 22
    simp only [List.toArray] at hr0
    have hb0 := below_alloc w (.cells #[.slice B f.length d] 22)
    refine (large06_c w.heap.size B f d _ hr0 (hB.below hb0) hlf).mono ?_
    rintro e w2 ⟨rfl, hw2⟩
    have hb2 := below_dr hb0 hw2
    clear hr0 hb0 hw2
    cases hL : largeF f with
    | true =>
      clear hL
      go_wp2
      go_ret
      exact ⟨rfl, hb2⟩
    | false =>
      obtain ⟨hl20, hw20⟩ := largeF_le2 hL
      have hll : ∀ m ∈ f, m.length ≤ 1000000 := fun m hm => by have := le_wide hm; omega
      have hbl := bVal_len l f q
      have HW := hid (⟨hll, hw⟩ : _ ∧ _)
      clear hL hll
      go_wp2_with (fail)
      refine (own06_c B f d w2 (hB.below hb2) (by omega) HW.out.1).mono ?_
      rintro e w3 ⟨v3, rfl, hrows, hb⟩
      obtain ⟨B3, c3, rfl, hg3, _⟩ := OwnRows.grid (f := f) hrows
      have hb3 := below_next hb2 hb2.size hb
      clear hrows hb hb2
      go_wp2_with (at_builtin; refine wpList_fresh elt_u64 (w3.alloc _) rfl _ _ rfl rfl ((hA.keep fun p hp => hb3.cell hp).keep fun p hp => (below_alloc w3 _).cell hp) (by simp; rfl) (fun u hu => by simp only [List.mem_map] at hu; obtain ⟨z, _, rfl⟩ := hu; rfl) (by simp; omega) (by simp; omega) ?_; intro v4 w4 hr4 hb; have hs := below_next (below_alloc w3 _) (below_alloc w3 _).size hb; obtain ⟨A4, c4, rfl, hA4, _⟩ := hr4.form; rw [List.length_map])
      have hg4 := hg3.below hs
      have hb4 := below_next hb3 hb3.size hs
      clear hr4 hb hs hg3 hb3
      refine (rbthrough_c A B l f c d q w4 (hA.keep fun p hp => hb4.cell hp) (hB.below hb4) (by omega) (by omega) (by omega) hu HW.out.2 hq).mono ?_
      rintro e w5 ⟨v5, rfl, hrows, hb⟩
      obtain ⟨A5, c5, rfl, hg5, _⟩ := OwnRows.grid (f := bVal l f q) hrows
      have hg45 := hg4.below hb
      have hA45 := hA4.keep fun p hp => hb.cell hp
      have hb5 := below_next hb4 hb4.size hb
      clear hrows hb hg4 hA4 hb4
      obtain ⟨F, hF⟩ : ∃ F, bVal l f q = F := ⟨_, rfl⟩
      rw [hF] at hbl hg5 ⊢
      obtain ⟨nF, hnF⟩ : ∃ n, F.length = n := ⟨_, rfl⟩
      rw [hnF] at hbl ⊢
      have HNF := hid hnF
      have hbe : (bErr l f q != bErr l f q) = false := by simp
      have hth := fun w' (h1 : Cells w' A4 (l.map (.int .u64))) (h2 : Grid w' B3 f) => bthrough_c A4 B3 l f c4 c3 q w' h1 h2 (by omega) (by omega) (by omega) hu HW.out.2 hq
      rw [hF] at hth
      have hpo := fun (A6 : Option Addr) (c6 : Nat) w' (h1 : Grid w' A6 F) (h2 : Grid w' A5 F) => (polys_c A6 A5 F F c6 c5 w' h1 h2 (by omega) (by omega)).mono (fun e w'' h => (⟨by rw [h.1, decide_eq_true (rfl : F = F)], h.2⟩ : e = .returned (.bool true) ∧ Dr w' w''))
      rw [hnF] at hpo
      have HTH := hid (⟨hth, hpo⟩ : _ ∧ _)
      clear hF hth hpo hnF
      go_wp2
      go_loopw [11, 12, 13, 14, 15] (fun i _ _ _ _ wr => ∃ k : Nat, i = .int .i64 k ∧ k ≤ 2 ∧ Below w5.heap.size w5 wr) (fun i _ _ _ _ _ => 2 - (intOf i).toNat)
      case atStart => exact ⟨0, rfl, by omega, Below.refl _ _⟩
      case round =>
        obtain ⟨k, rfl, hk, hbk⟩ := hrel
        have hgk := hg45.below hbk
        have hAk := hA45.keep fun p hp => hbk.cell hp
        by_cases hlt : k < 2
        · go_wp2_with (fail)
          refine (HTH.out.1 wr hAk hgk).mono ?_
          rintro e w6 ⟨v6, rfl, hr6, hb6⟩
          obtain ⟨A6, c6, he6, hG6⟩ := hr6.grid (by rw [HNF.out]; omega)
          rw [HNF.out] at he6
          subst he6
          have hg56 := (hg5.below hbk).below hb6
          go_wp2_with (fail)
          refine (HTH.out.2 A6 c6 w6 hG6 hg56).mono ?_
          rintro e w7 ⟨rfl, hw7⟩
          have hb7 := below_dr hb6 hw7
          rcases hr6 with ⟨h1, h2⟩ | ⟨go, D, vs, h1, h2, h3, h4, h5⟩
          · have hn0 := HNF.out
            rw [h2, List.length_nil] at hn0
            have hnz : ¬ 0 < nF := by omega
            clear hgk hAk hG6 hg56 hb6 hw7 hn0 h1 h2
            go_wp2
            obtain ⟨wo, rfl⟩ : ∃ wo : World, wo = wr := ⟨_, rfl⟩
            go_loopw [14, 15] (fun i _ wr => i = .int .i64 0 ∧ Below wo.heap.size wo wr) (fun _ _ _ => 0)
            case atStart => exact ⟨rfl, hb7⟩
            case round =>
              obtain ⟨rfl, hbj⟩ := hrel
              clear hb7
              go_wp2
              go_roundw
              case rel => exact ⟨k + 1, by go_num, by omega, below_next hbk hbk.size hbj⟩
              case measure => simp [intOf]; omega
          · have hWr := (h5.wr2 h4).below (below_of_dr hw7)
            rw [HNF.out] at h1
            simp only [Value.slice.injEq, true_and] at h1
            obtain ⟨rfl, hc6⟩ := h1
            obtain rfl : nF = c6 := hc6.symm
            obtain ⟨ns, hns⟩ : ∃ ns, F.map List.length = ns := ⟨_, rfl⟩
            have hnl : ns.length = nF := by rw [← hns, List.length_map, HNF.out]
            rw [hns] at hWr
            have HNL := hid hnl
            clear hgk hAk hG6 hg56 hb6 h5 hw7 hns hnl
            go_wp2
            obtain ⟨wo, rfl⟩ : ∃ wo : World, wo = wr := ⟨_, rfl⟩
            go_loopw [14, 15] (fun i _ wr => ∃ j : Nat, i = .int .i64 j ∧ j ≤ nF ∧ Wr2 go D vs ns wr ∧ Below wo.heap.size wo wr) (fun i _ _ => nF - (intOf i).toNat)
            case atStart => exact ⟨0, rfl, by omega, hWr, hb7⟩
            case round =>
              obtain ⟨j, rfl, hj, hWj, hbj⟩ := hrel
              clear hWr hb7
              by_cases hltj : j < nF
              · obtain ⟨m, hm⟩ := get_of_lt (l := ns) (k := j) (by rw [HNL.out]; exact hltj)
                obtain ⟨u, hu2⟩ := get_of_lt (l := vs) (k := j) (by rw [hWj.len, HNL.out]; exact hltj)
                have hwr := hWj.R j u m hu2 hm
                obtain ⟨A7, c7, rfl, hm7⟩ := hwr.form
                have HU := hid (⟨hu2, hm⟩ : _ ∧ _)
                clear hu2 hm hwr
                go_wp2
                obtain ⟨wp, rfl⟩ : ∃ wp : World, wp = wr := ⟨_, rfl⟩
                go_loopw [15] (fun i wr => ∃ i' : Nat, i = .int .i64 i' ∧ i' ≤ m ∧ Wr2 go D vs ns wr ∧ Below wo.heap.size wo wr) (fun i _ => m - (intOf i).toNat)
                case atStart => exact ⟨0, rfl, by omega, hWj, hbj⟩
                case round =>
                  obtain ⟨i, rfl, hi, hWi, hbi⟩ := hrel
                  clear hWj hbj
                  have hcu := hWi.O.cell HU.out.1
                  by_cases hlti : i < m
                  · obtain ⟨g, cap, u0, he, hg1', hg2, hg3, hg4, ar, hg5⟩ := (hWi.R j _ m HU.out.1 HU.out.2).at_ hlti
                    simp only [Value.slice.injEq, true_and] at he
                    obtain ⟨rfl, rfl⟩ := he
                    have hW3 := hWi.set i (.int .u64 77) hg1'
                    have hb3' := hbi.setCell (p := ⟨g, i, none⟩) (Nat.le_trans h3 hg1') (.int .u64 77)
                    clear hWi hbi hg5
                    go_wp2
                    go_roundw
                    case rel => exact ⟨i + 1, by go_num, by omega, hW3, hb3'⟩
                    case measure => simp [intOf]; omega
                  · obtain rfl : i = m := by omega
                    go_wp2
                    go_roundw
                    case rel => exact ⟨j + 1, by go_num, by omega, hWi, hbi⟩
                    case measure => simp [intOf]; omega
              · obtain rfl : j = nF := by omega
                go_wp2
                go_roundw
                case rel => exact ⟨k + 1, by go_num, by omega, below_next hbk hbk.size hbj⟩
                case measure => simp [intOf]; omega
        · obtain rfl : k = 2 := by omega
          go_wp2_with (fail)
          refine (polys_c B3 B f f c3 d wr hgk (hB.below (below_next hb5 hb5.size hbk)) (by omega) (by omega)).mono ?_
          rintro e w6 ⟨rfl, hw6⟩
          rw [decide_eq_true (rfl : f = f)]
          have hb6 := below_dr hbk hw6
          go_wp2_with (fail)
          refine (nums_c A4 A l l c4 c w6 (hA45.keep fun p hp => hb6.cell hp) (hA.keep fun p hp => (below_next hb5 hb5.size hb6).cell hp) (by omega) (by omega)).mono ?_
          rintro e w7 ⟨rfl, hw7⟩
          rw [decide_eq_true (rfl : l = l)]
          go_wp2
          go_ret
          exact ⟨rfl, below_dr (below_next hb5 hb5.size hb6) hw7⟩
  · go_enter Try.func14, Try.ntmps14
    go_wp2
    go_ret
    exact ⟨rfl, Below.refl _ _⟩

end Go.Proofs.Ytnmadmcegdpecaa
