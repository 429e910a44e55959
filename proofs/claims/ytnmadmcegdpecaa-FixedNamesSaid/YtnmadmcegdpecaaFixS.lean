/-
  The reference's: may a model be.
-/
import Derived.Test.YtnmadmcegdpecaaFixR
namespace Go.Proofs.Ytnmadmcegdpecaa
open Go.RowKit

/-- the first k rows and shifts may be. -/
def RowsOk (p : Par) (W : List (List Int)) (b : List Int) (k : Nat) : Prop := ∀ j l s, j < k → W[j]? = some l → b[j]? = some s → (l.length : Int) = p.D ∧ nears l p.M = true ∧ near s p.M = true
theorem rowsOk_all {p : Par} {W : List (List Int)} {b : List Int} (hF : Fits p) (hw : (W.length : Int) = p.K) (hb : (b.length : Int) = p.K) (h : RowsOk p W b W.length) : mayB p W b = true := by
  refine (mayB_iff p W b).2 ⟨hF, hw, hb, fun l hl => ?_, fun n hn => ?_⟩
  · obtain ⟨j, hj⟩ := List.getElem?_of_mem hl
    have hjl := (List.getElem?_eq_some_iff.1 hj).1
    obtain ⟨s, hs⟩ := get_of_lt (l := b) (show j < b.length by omega)
    have := h j l s hjl hj hs
    refine ⟨this.1, fun n hn => ?_⟩
    have h2 := this.2.1
    simp only [nears, List.all_eq_true, near_iff] at h2
    exact h2 n hn
  · obtain ⟨j, hj⟩ := List.getElem?_of_mem hn
    have hjl := (List.getElem?_eq_some_iff.1 hj).1
    obtain ⟨l, hl⟩ := get_of_lt (l := W) (show j < W.length by omega)
    exact (near_iff _ _).1 (h j l n (by omega) hl hj).2.2
theorem rowsOk_of {p : Par} {W : List (List Int)} {b : List Int} (h : mayB p W b = true) (k : Nat) : RowsOk p W b k := by
  have hF := (mayB_iff p W b).1 h
  intro j l s _ hl hs
  have h1 := hF.rows l (List.mem_of_getElem? hl)
  refine ⟨h1.1, ?_, (near_iff _ _).2 (hF.shifts s (List.mem_of_getElem? hs))⟩
  simp only [nears, List.all_eq_true, near_iff]
  exact h1.2
theorem rowsOk_zero (p : Par) (W : List (List Int)) (b : List Int) : RowsOk p W b 0 := fun j _ _ h => absurd h (by omega)
theorem rowsOk_step {p : Par} {W : List (List Int)} {b : List Int} {k : Nat} {l : List Int} {s : Int} (h : RowsOk p W b k) (hl : W[k]? = some l) (hs : b[k]? = some s) (h1 : (l.length : Int) = p.D) (h2 : nears l p.M = true) (h3 : near s p.M = true) : RowsOk p W b (k + 1) := by
  intro j l' s' hj hl' hs'
  rcases Nat.lt_or_ge j k with h4 | h4
  · exact h j l' s' h4 hl' hs'
  · obtain rfl : j = k := by omega
    rw [hl] at hl'; rw [hs] at hs'
    obtain rfl := Option.some.inj hl'
    obtain rfl := Option.some.inj hs'
    exact ⟨h1, h2, h3⟩
theorem mayB_no {p : Par} {W : List (List Int)} {b : List Int} {k : Nat} {l : List Int} {s : Int} (hl : W[k]? = some l) (hs : b[k]? = some s) (h : ¬ ((l.length : Int) = p.D ∧ nears l p.M = true ∧ near s p.M = true)) : mayB p W b = false := by
  cases hm : mayB p W b with
  | false => rfl
  | true => exact absurd (rowsOk_of hm (k + 1) k l s (by omega) hl hs) h

set_option maxRecDepth 100000 in
set_option maxHeartbeats 2000000 in
theorem rmay_c (p : Par) (A B : Option Addr) (W : List (List Int)) (b : List Int) (c d : Nat) (w : World) (hA : GridI w A W) (hB : Cells w B (b.map (.int .i64))) (hl : W.length ≤ 9223372036854775807) (hl' : b.length ≤ 9223372036854775807) (hu : Ints W) (hu' : I64s b) :
    Calls Try.prog 51 #[pval p, mval A W.length c B b.length d] w fun e w' => e = .returned (.bool (mayB p W b)) ∧ Below w.heap.size w w' := by
  go_enter Try.func51, Try.ntmps51
  go_wp2_with (fail)
  refine (rfit_c p _).mono ?_
  rintro e w1 ⟨rfl, hb1⟩
  have hb2 := below_next ((below_alloc w (.cells (pcells p).toArray 40)).alloc (by simp) (.cells #[.slice A W.length c, .slice B b.length d] 44)) (by simp; omega) hb1
  have hP : Row1 w1 w.heap.size 40 (pcells p) := ((row1_new w (pcells p) 40).alloc _).below hb1
  have hM : Row1 w1 (w.heap.size + 1) 44 [.slice A W.length c, .slice B b.length d] := by
    have := (row1_new (w.alloc (.cells (pcells p).toArray 40)) [.slice A W.length c, .slice B b.length d] 44).below hb1
    simpa using this
  have hA1 := hA.below hb2
  have hB1 := hB.below hb2
  clear hb1 hA hB
  have cK := hP.cell (k := 7) rfl
  have cD := hP.cell (k := 8) rfl
  have cM := hP.cell (k := 10) rfl
  have cW := hM.cell (k := 0) rfl
  have cB := hM.cell (k := 1) rfl
  cases hf : fits p with
  | false =>
    have HF := hid (show mayB p W b = false by simp [mayB, hf])
    go_wp2
    go_ret
    exact ⟨ret_bool HF.out.symm, hb2⟩
  | true =>
  cases hK : ((W.length : Int) != p.K) with
  | true =>
    have HF := hid (show mayB p W b = false by simp [mayB, hf, hK])
    clear hf
    go_wp2
    go_ret
    exact ⟨ret_bool HF.out.symm, hb2⟩
  | false =>
  cases hK' : ((b.length : Int) != p.K) with
  | true =>
    have HF := hid (show mayB p W b = false by simp [mayB, hf, hK, hK'])
    clear hf
    go_wp2
    go_ret
    exact ⟨ret_bool HF.out.symm, hb2⟩
  | false =>
  have hF := (fits_iff p).1 hf
  have hWK : (W.length : Int) = p.K := by simpa using hK
  have hbK : (b.length : Int) = p.K := by simpa using hK'
  obtain ⟨dd, hdd⟩ : ∃ d : Nat, p.D = d := ⟨p.D.toNat, by have := hF.D0; omega⟩
  have cK' : w1.cell? ⟨w.heap.size, 7, none⟩ = some (.int .i64 (W.length : Int)) := by rw [hWK]; exact cK
  have cD' : w1.cell? ⟨w.heap.size, 8, none⟩ = some (.int .i64 (dd : Int)) := by rw [← hdd]; exact cD
  have hbW : ((b.length : Int) != (W.length : Int)) = false := by rw [hWK]; exact hK'
  have hlen2 : b.length = W.length := by omega
  have m0 : 0 ≤ p.M := hF.M0
  have m1 : p.M < 9223372036854775808 := by have := hF.M; omega
  have hdd4 : dd ≤ 4 := by have := hF.D; omega
  have HK := hid (⟨hF, hWK, hbK, hdd, hlen2⟩ : _ ∧ _ ∧ _ ∧ _ ∧ _)
  clear cK cD hK hK' hf hF hWK hbK hdd hlen2
  go_wp2
  go_loopw [5, 6] (fun i _ wr => ∃ k : Nat, i = .int .i64 k ∧ k ≤ W.length ∧ RowsOk p W b k ∧ Dr w1 wr) (fun i _ _ => W.length - (intOf i).toNat)
  case atStart => exact ⟨0, rfl, by omega, rowsOk_zero p W b, Dr.refl _⟩
  case round =>
    obtain ⟨k, rfl, hk, hall, hw⟩ := hrel
    have HA := hid hall
    clear hall
    have cK2 := (hw.cell _).trans cK'
    have cD2 := (hw.cell _).trans cD'
    have cM2 := (hw.cell _).trans cM
    have cW2 := (hw.cell _).trans cW
    have cB2 := (hw.cell _).trans cB
    by_cases hlt : k < W.length
    · obtain ⟨l, hrow⟩ := get_of_lt hlt
      have hltb : k < b.length := by rw [HK.out.2.2.2.2]; exact hlt
      obtain ⟨s, hs⟩ := get_of_lt hltb
      obtain ⟨o1, off1, A', c', rfl, hc0, hcs, hln⟩ := hA1.at_ hrow
      obtain ⟨o2, off2, rfl, hcb⟩ := hB1.at_map hs
      have hc1 := (hw.cell _).trans hc0
      have hcb1 := (hw.cell _).trans hcb
      have hus := hu'.at_ hs
      have hul := hu.at_ hrow
      have HG := hid (⟨hrow, hs⟩ : _ ∧ _)
      clear hrow hs
      cases hlD : ((l.length : Int) != (dd : Int)) with
      | true =>
        have HF := hid (show mayB p W b = false from mayB_no HG.out.1 HG.out.2 (fun h => by have h1 := HK.out.2.2.2.1; have h2 := h.1; simp at hlD; omega))
        go_wp2
        go_quiet (fail)
        go_wp2
        go_ret
        exact ⟨ret_bool HF.out.symm, below_dr hb2 (hw.more _)⟩
      | false =>
      cases hn : near s p.M with
      | false =>
        have HF := hid (show mayB p W b = false from mayB_no HG.out.1 HG.out.2 (fun h => by have h2 := h.2.2; rw [hn] at h2; cases h2))
        go_wp2
        go_quiet ((go_at_call 93; exact quiet_dr (within_b s p.M _ hus m0 m1 hn _)))
        go_wp2
        go_ret
        exact ⟨ret_bool HF.out.symm, below_dr hb2 (hw.more _)⟩
      | true =>
        have hld : l.length = dd := by simp at hlD; omega
        have HN := hid (⟨hn, hld⟩ : _ ∧ _)
        go_wp2
        go_quiet ((go_at_call 93; exact quiet_dr (within_b s p.M _ hus m0 m1 hn _)))
        clear hld hn
        go_wp2
        have hw2 := hw.more nq
        clear cK2 cD2 cM2 cW2 cB2 hc1 hcb1
        go_loopw [6] (fun i w4 => ∃ i' : Nat, i = .int .i64 i' ∧ i' ≤ dd ∧ nears (l.take i') p.M = true ∧ Dr w1 w4) (fun i _ => dd - (intOf i).toNat)
        case atStart => exact ⟨0, rfl, by omega, by simp [nears], hw2⟩
        case round =>
          obtain ⟨i', rfl, hi, hns, hw4⟩ := hrel
          have HNS := hid hns
          clear hns
          have cK2 := (hw4.cell _).trans cK'
          have cD2 := (hw4.cell _).trans cD'
          have cM2 := (hw4.cell _).trans cM
          have cW2 := (hw4.cell _).trans cW
          have hc1 := (hw4.cell _).trans hc0
          by_cases hlt2 : i' < dd
          · obtain ⟨n, hnn⟩ := get_of_lt (l := l) (show i' < l.length by rw [HN.out.2]; exact hlt2)
            have hltl : i' < l.length := by rw [HN.out.2]; exact hlt2
            obtain ⟨o3, off3, rfl, hc3⟩ := (hcs.dr hw4).at_map hnn
            have hun := hul.at_ hnn
            cases hne : near n p.M with
            | false =>
              have HF := hid (show mayB p W b = false from mayB_no HG.out.1 HG.out.2 (fun h => by have h2 := h.2.1; rw [nears_false hnn hne] at h2; cases h2))
              clear hnn
              go_wp2
              go_quiet ((go_at_call 93; exact quiet_dr (within_b n p.M _ hun m0 m1 hne _)))
              go_wp2
              go_ret
              exact ⟨ret_bool HF.out.symm, below_dr hb2 (hw4.more _)⟩
            | true =>
              have HT := hid (nears_take hnn HNS.out hne)
              clear hnn
              go_wp2
              go_quiet ((go_at_call 93; exact quiet_dr (within_b n p.M _ hun m0 m1 hne _)))
              go_wp2
              go_roundw
              case rel => exact ⟨i' + 1, by go_num, by omega, HT.out, hw4.more _⟩
              case measure => simp [intOf]; omega
          · obtain rfl : i' = dd := by omega
            have hns2 := HNS.out
            rw [← HN.out.2, List.take_length] at hns2
            have HT := hid (rowsOk_step HA.out HG.out.1 HG.out.2 (by rw [HK.out.2.2.2.1, HN.out.2]) hns2 HN.out.1)
            clear hns2
            go_wp2
            go_roundw
            case rel => exact ⟨k + 1, by go_num, by omega, HT.out, hw4⟩
            case measure => simp [intOf]; omega
    · obtain rfl : k = W.length := by omega
      have HF := hid (rowsOk_all HK.out.1 HK.out.2.1 HK.out.2.2.1 HA.out)
      go_wp2
      go_ret
      exact ⟨ret_bool HF.out.symm, below_dr hb2 hw⟩

end Go.Proofs.Ytnmadmcegdpecaa
