/-
  RobustFits: what the program does.
-/
import Derived.Test.YtcojnjhffmhbiaaDoorRobQ1
import Derived.Test.YtcojnjhffmhbiaaDoorRobQ2
import Derived.Test.YtcojnjhffmhbiaaDoorRobQ3
import Derived.Test.YtcojnjhffmhbiaaDoorRobQ4
import Derived.Test.YtcojnjhffmhbiaaDoorRobQ5
import Derived.Test.YtcojnjhffmhbiaaDoorRobQ6
import Derived.Test.YtcojnjhffmhbiaaDoorRobQ7
import Derived.Test.YtcojnjhffmhbiaaDoorRobQ8
import Derived.Test.YtcojnjhffmhbiaaDoorRobQ9
import Derived.Test.YtcojnjhffmhbiaaDoorRobQ10
import Derived.Test.YtcojnjhffmhbiaaDoorRobQ11
import Derived.Test.YtcojnjhffmhbiaaDoorRoU
import Derived.Test.YtcojnjhffmhbiaaDoorRoV
namespace Go.Proofs.YtcojnjhffmhbiaaDoor
open Go Go.RowKit Go.Maps Go.Shelf Go.Proofs

attribute [local go_sem] Oper.semAt_some

theorem filter_at {p : Nat → Bool} {n N : Nat} (h : n < N) (hp : p n = true) : ((List.range N).filter p)[((List.range n).filter p).length]? = some n := by
  obtain ⟨d, rfl⟩ : ∃ d, N = n + (1 + d) := ⟨N - n - 1, by omega⟩
  rw [List.range_add, List.filter_append, List.getElem?_append_right (Nat.le_refl _), Nat.sub_self, List.range_add]
  simp [hp]
theorem filter_count {p : Nat → Bool} (n : Nat) : ((List.range (n + 1)).filter p).length = ((List.range n).filter p).length + if p n = true then 1 else 0 := by
  rw [List.range_succ, List.filter_append, List.length_append]
  simp only [List.filter_cons, List.filter_nil]
  split <;> rfl
theorem off_at {X Y C : List Int} {q : Int} {n : Nat} (h : n < X.length) (ho : offB X Y C q n = true) : (offL X Y C q)[(offK X Y C q n).length]? = some n ∧ (offK X Y C q (n + 1)).length = (offK X Y C q n).length + 1 ∧ (onK X Y C q (n + 1)).length = (onK X Y C q n).length := by
  refine ⟨filter_at h ho, ?_, ?_⟩
  · unfold offK
    rw [filter_count, if_pos ho]
  · unfold onK
    rw [filter_count, if_neg (by unfold onB; rw [ho]; decide), Nat.add_zero]
theorem on_at {X Y C : List Int} {q : Int} {n : Nat} (h : n < X.length) (ho : offB X Y C q n = false) : (onL X Y C q)[(onK X Y C q n).length]? = some n ∧ (offK X Y C q (n + 1)).length = (offK X Y C q n).length ∧ (onK X Y C q (n + 1)).length = (onK X Y C q n).length + 1 ∧
    ∀ (j i : Nat), (offL X Y C q)[j]? = some i → ((i : Int) == (n : Int)) = false := by
  have hb : onB X Y C q n = true := by unfold onB; rw [ho]; rfl
  refine ⟨filter_at h hb, ?_, ?_, fun j i hi => ?_⟩
  · unfold offK
    rw [filter_count, if_neg (by rw [ho]; decide), Nat.add_zero]
  · unfold onK
    rw [filter_count, if_pos hb]
  · have := (List.mem_filter.1 (List.mem_of_getElem? hi)).2
    have hne : i ≠ n := fun e => by rw [e, ho] at this; cases this
    simp; omega
/-- a row of whole numbers, from the m-th on, where it lies. -/
def RestN (w : World) (v : Value) (L : List Nat) : Prop := ∃ A c, v = .slice A L.length c ∧ L.length ≤ c ∧ c ≤ 9223372036854775807 ∧ Cells w A (natv L)
theorem RestN.below {w w' : World} {v : Value} {L : List Nat} (h : RestN w v L) (hb : Below w.heap.size w w') : RestN w' v L := by
  obtain ⟨A, c, e, h1, h2, h3⟩ := h
  exact ⟨A, c, e, h1, h2, h3.below hb⟩
theorem restN_own {w : World} {base : Nat} {e : TypeId} {v : Value} {L : List Nat} (h : Own w base e v (natv L)) : RestN w v L := by
  have hln : (natv L).length = L.length := by simp [natv]
  obtain ⟨A, c, e, hc⟩ := h.form
  rw [hln] at e
  refine ⟨A, c, e, ?_, ?_, hc⟩
  · rcases h.2 with ⟨h1, h0⟩ | ⟨g', cap', cur, h1, _, _, hn, _⟩
    · rw [h1] at e
      injection e with _ h2 h3
      omega
    · rw [h1] at e
      injection e with _ _ h2
      omega
  · rcases h.2 with ⟨h1, h0⟩ | ⟨g', cap', cur, h1, _, _, _, hm, _⟩
    · rw [h1] at e
      injection e with _ h2 h3
      omega
    · rw [h1] at e
      injection e with _ _ h2
      unfold maxLen at hm
      omega
theorem RestN.cons {w : World} {v : Value} {n : Nat} {R : List Nat} (h : RestN w v (n :: R)) : ∃ b o c, v = .slice (some ⟨b, o, none⟩) (R.length + 1) c ∧ w.cell? ⟨b, o, none⟩ = some (.int .i64 (n : Int)) ∧ R.length + 1 ≤ c ∧ c ≤ 9223372036854775807 ∧
    (c = 1 → RestN w (.slice (some ⟨b, o, none⟩) R.length 0) R) ∧ (c ≠ 1 → RestN w (.slice (some ⟨b, o + 1, none⟩) R.length (c - 1)) R) := by
  obtain ⟨A, c, rfl, h1, h2, h3⟩ := h
  rcases h3 with h3 | ⟨b, o, rfl, h3⟩
  · cases h3
  simp only [List.length_cons] at h1
  refine ⟨b, o, c, rfl, h3 0 _ rfl, h1, h2, fun hc => ?_, fun _ => ?_⟩
  · have : R.length = 0 := by omega
    obtain rfl := List.eq_nil_of_length_eq_zero this
    exact ⟨_, _, rfl, by simp, by omega, .inl rfl⟩
  · refine ⟨_, _, rfl, by omega, by omega, .inr ⟨b, o + 1, rfl, fun i u hu => ?_⟩⟩
    have := h3 (i + 1) u (by simpa [natv] using hu)
    rw [show o + 1 + i = o + (i + 1) by omega]
    exact this
def FitRel (X Y C : List Int) (q : Int) (w0 wr : World) (rt : Value) (n j m : Nat) : Prop := j = (offK X Y C q n).length ∧ m = (onK X Y C q n).length ∧ RestN wr rt ((onL X Y C q).drop m) ∧ Below w0.heap.size w0 wr
theorem red_u64 {C : List Int} {q : Int} (hq : okm q = true) (h : C.map (· % q) = C) : U64s C := by
  rw [← h]
  intro z hz
  obtain ⟨y, _, rfl⟩ := List.mem_map.1 hz
  exact mod_u64 hq
set_option maxRecDepth 100000 in
set_option maxHeartbeats 800000 in
theorem robustFits_c (A B : Option Addr) (xs ys : List Int) (ca cb : Nat) (t0 nq : Int) (w : World) (hA : Cells w A (xs.map (.int .u64))) (hB : Cells w B (ys.map (.int .u64))) (hl : xs.length ≤ 9223372036854775807) (hl' : ys.length ≤ 9223372036854775807)
    (hu : U64s xs) (hu' : U64s ys) (ht0 : 0 ≤ t0 ∧ t0 < 256) (hn : U64 nq) (hTab : Tabs w) (hpr : ∀ q : Int, primeV q = true → Go.Psi.Pr q.toNat) :
    Calls Tryd.prog 13 #[.slice A xs.length ca, .slice B ys.length cb, .int .u8 t0, .int .u64 nq] w fun e w' => e = .returned (.bool true) ∧ Below w.heap.size w w' := by
  have HA := hid hA
  have HB := hid hB
  have HT := hid hTab
  have HU := hid hu
  have HU' := hid hu'
  obtain ⟨ht1, ht2⟩ := ht0
  have h3 := Int.tmod_eq_emod_of_nonneg (b := 3) ht1
  clear hA hB hTab hu hu'
  go_enter Tryd.func13, Tryd.ntmps13
  by_cases hc0 : (xs.length : Int) > 60
  · go_wp2_with (fail)
    refine (awake05_c w HT.out).mono ?_
    rintro e w2 ⟨rfl, hb2⟩
    go_wp2
    go_ret
    exact ⟨rfl, hb2⟩
  · by_cases hc4 : (ys.length : Int) > 60
    · go_wp2_with (fail)
      refine (awake05_c w HT.out).mono ?_
      rintro e w2 ⟨rfl, hb2⟩
      go_wp2
      go_ret
      exact ⟨rfl, hb2⟩
    · go_wp2_with (fail)
      refine (awake05_c w HT.out).mono ?_
      rintro e w2 ⟨rfl, hb2⟩
      go_wp2_with (fail)
      refine (prime05_c nq hn w2 (HT.out.below hb2)).mono ?_
      rintro e w3 ⟨rfl, hb3⟩
      obtain ⟨hp, hq7⟩ := pickQ_ok hn.lo
      generalize pickQ nq = q at *
      obtain ⟨hok, hq2⟩ := okm_prime hp
      have hqu : U64 q := ⟨by omega, by have := okm_le hok; omega⟩
      replace hb3 := below_next hb2 hb2.size hb3
      clear hb2
      have ht3 : 0 ≤ t0 % 3 ∧ t0 % 3 < 3 := by omega
      obtain ⟨t, htn⟩ : ∃ t : Nat, t0 % 3 = t := ⟨(t0 % 3).toNat, by omega⟩
      rw [htn] at ht3
      have HPR := hid (⟨hp, hpr q hp⟩ : _ ∧ _)
      clear hp hok hpr
      go_wp2_with (fail)
      refine (pointsQ_c A B xs ys ca cb q w3 (HA.out.below hb3) (HB.out.below hb3) (by omega) (by omega) HU.out HU'.out hqu (by omega)).mono ?_
      rintro e w4 ⟨v1, v2, X, Y, rfl, hP4, htwo, hb4⟩
      obtain ⟨A1, c1, e1, hX4⟩ := hP4.x.form
      obtain ⟨A2, c2, e2, hY4⟩ := hP4.y.form
      rw [List.length_map] at e1 e2
      subst e1
      subst e2
      have hB4 := below_next hb3 hb3.size hb4
      have HP4 := hid hP4
      have HTW := hid htwo
      have HLN := hid hP4.len
      have hfew := hP4.few
      have hfew' : Y.length ≤ 7 := by have := hP4.len; omega
      clear hP4 hb3 hb4 htwo
      go_wp2_with (fail)
      refine (dec_c A1 A2 X Y c1 c2 t q w4 hX4 hY4 (by omega) (by omega) HP4.out.ux HP4.out.uy ⟨by omega, by omega⟩ hqu (HT.out.below hB4)).mono ?_
      have HD := hid (show decR X Y t q = decR X Y t q from rfl)
      generalize hdr : decR X Y t q = r at *
      have HDR := hid hdr
      clear hdr HD
      obtain ⟨C, W, er⟩ := r
      rintro e w5 ⟨v3, v4, rfl, oC, oW, hb5⟩
      dsimp only at oC oW ⊢
      have hcases := dec_cases (by omega) HPR.out.1 (HTW.out.apart hq2 HPR.out.2) hfew HLN.out HDR.out
      obtain ⟨A3, c3, e3, hC5⟩ := oC.form
      obtain ⟨A4, c4, e4, hW5⟩ := oW.form
      have hCl := oC.len_le
      have hWl := oW.len_le
      rw [List.length_map] at e3 e4 hCl hWl
      subst e3
      subst e4
      have hP5 := HP4.out.below hb5
      obtain ⟨_, _, ex, hX5⟩ := hP5.x.form
      obtain ⟨_, _, ey, hY5⟩ := hP5.y.form
      rw [List.length_map] at ex ey
      simp only [Value.slice.injEq, true_and] at ex ey
      obtain ⟨rfl, rfl⟩ := ex
      obtain ⟨rfl, rfl⟩ := ey
      have HB5 := hid (below_next hB4 hB4.size hb5)
      have hux := HP4.out.ux
      have huy := HP4.out.uy
      have HU2 := hid (⟨hux, huy⟩ : _ ∧ _)
      have HW5 := hid hW5
      clear HP4 hX4 hY4 hB4 hb5 oC oW hW5 hP5 HDR hux huy
      rcases hcases with ⟨rfl, rfl, rfl, _⟩ | ⟨rfl, hWe, hCt, hCr, hfit, _⟩
      · clear hCl hWl
        go_wp2
        go_ret
        exact ⟨rfl, HB5.out⟩
      · have HWE := hid hWe
        have hCU := red_u64 (okm_prime HPR.out.1).1 hCr
        have HCT := hid hCt
        have HFT := hid hfit
        have hC1 : C.length ≤ 1000 := by omega
        clear hCt hfit
        have hq0 : 0 < q := by omega
        have HCX := hid (⟨hC5, hX5, hY5⟩ : _ ∧ _ ∧ _)
        clear hWe hCr hC5 hX5 hY5 HTW
        go_wp2_with (fail)
        refine (on05_c A3 A1 A2 C X Y c3 c1 c2 q w5 HCX.out.1 HCX.out.2.1 HCX.out.2.2 HLN.out (by omega) hC1 hCU HU2.out.1 HU2.out.2 hqu hq0).mono ?_
        rintro e w6 ⟨v5, rfl, oO, hb6⟩
        have HB6 := hid (below_next HB5.out HB5.out.size hb6)
        have hW6 := HW5.out.below hb6
        have HR := hid (restN_own oO)
        have HW6 := hid hW6
        clear HB5 hb6 oO hW6 HW5 HCX hCU
        go_wp2
        go_loopw [14, 15, 16] (fun rt k i wr => ∃ n j m : Nat, i = .int .i64 (n : Int) ∧ k = .int .i64 (j : Int) ∧ n ≤ X.length ∧ Hid (FitRel X Y C q w6 wr rt n j m)) (fun _ _ i _ => X.length - (intOf i).toNat)
        case atStart => exact ⟨0, 0, 0, rfl, rfl, by omega, hid ⟨rfl, rfl, HR.out, Below.refl _ _⟩⟩
        case round =>
          obtain ⟨n, j, m, rfl, rfl, hnX, HI⟩ := hrel
          by_cases hlt : n < X.length
          · have hlt' : (n : Int) < (X.length : Int) := by omega
            obtain ⟨hj, hm, hrest, hbl⟩ := HI.out
            have hWn := HW6.out.below hbl
            cases ho : offB X Y C q n with
            | true =>
              obtain ⟨h1, h2, h4⟩ := off_at hlt ho
              rw [← HWE.out, ← hj] at h1
              have hjl : j < W.length := (List.getElem?_eq_some_iff.1 h1).1
              have hjl' : (j : Int) < (W.length : Int) := by omega
              obtain ⟨b4, o4, rfl, cj⟩ := hWn.at_map h1
              have hee : ((n : Int) == (n : Int)) = true := by simp
              have HN := hid (show FitRel X Y C q w6 wr u14 (n + 1) (j + 1) m from ⟨by omega, by omega, hrest, hbl⟩)
              clear hj hm hrest hbl hWn h1 h2 h4 ho HI
              go_wp2
              go_roundw
              case rel => exact ⟨n + 1, j + 1, m, by go_num, by go_num, by omega, HN⟩
              case measure => simp [intOf]; omega
            | false =>
              obtain ⟨h1, h2, h4, hno⟩ := on_at hlt ho
              have hdrop : (onL X Y C q).drop m = n :: (onL X Y C q).drop (m + 1) := by
                rw [← hm] at h1
                obtain ⟨h5, h6⟩ := List.getElem?_eq_some_iff.1 h1
                rw [List.drop_eq_getElem_cons h5, h6]
              rw [hdrop] at hrest
              have HQ := hid (⟨hj, hm, h2, h4⟩ : _ ∧ _ ∧ _ ∧ _)
              clear hj hm h2 h4 h1 hdrop HI ho
              generalize hR : (onL X Y C q).drop (m + 1) = R at *
              obtain ⟨b6, o6, c6, rfl, cR, hle, hc6, hr1, hr2⟩ := hrest.cons
              have hee : ((n : Int) == (n : Int)) = true := by simp
              have hRl : (0 : Int) < ((R.length + 1 : Nat) : Int) := by omega
              have H1 := hid hr1
              have H2 := hid hr2
              have HRR := hid hR
              have HNO := hid hno
              clear hr1 hr2 hrest hR hno
              by_cases hcc : c6 = 1
              · have HRN := hid (H1.out hcc)
                by_cases hjl : j < W.length
                · have hjl' : (j : Int) < (W.length : Int) := by omega
                  obtain ⟨i, hi⟩ := get_of_lt hjl
                  have hne := HNO.out j i (by rw [← HWE.out]; exact hi)
                  obtain ⟨b4, o4, rfl, cj⟩ := hWn.at_map hi
                  clear hi hWn
                  go_wp2
                  go_roundw
                  case rel => exact ⟨n + 1, j, m + 1, by go_num, rfl, by omega, hid ⟨by rw [HQ.out.2.2.1]; exact HQ.out.1, by rw [HQ.out.2.2.2, ← HQ.out.2.1], by rw [HRR.out]; exact HRN.out, hbl⟩⟩
                  case measure => simp [intOf]; omega
                · have hjl' : ¬ (j : Int) < (W.length : Int) := by omega
                  clear hWn
                  go_wp2
                  go_roundw
                  case rel => exact ⟨n + 1, j, m + 1, by go_num, rfl, by omega, hid ⟨by rw [HQ.out.2.2.1]; exact HQ.out.1, by rw [HQ.out.2.2.2, ← HQ.out.2.1], by rw [HRR.out]; exact HRN.out, hbl⟩⟩
                  case measure => simp [intOf]; omega
              · have HRN := hid (H2.out hcc)
                by_cases hjl : j < W.length
                · have hjl' : (j : Int) < (W.length : Int) := by omega
                  obtain ⟨i, hi⟩ := get_of_lt hjl
                  have hne := HNO.out j i (by rw [← HWE.out]; exact hi)
                  obtain ⟨b4, o4, rfl, cj⟩ := hWn.at_map hi
                  clear hi hWn
                  go_wp2
                  go_roundw
                  case rel => exact ⟨n + 1, j, m + 1, by go_num, rfl, by omega, hid ⟨by rw [HQ.out.2.2.1]; exact HQ.out.1, by rw [HQ.out.2.2.2, ← HQ.out.2.1], by rw [HRR.out]; exact HRN.out, hbl⟩⟩
                  case measure => simp [intOf]; omega
                · have hjl' : ¬ (j : Int) < (W.length : Int) := by omega
                  clear hWn
                  go_wp2
                  go_roundw
                  case rel => exact ⟨n + 1, j, m + 1, by go_num, rfl, by omega, hid ⟨by rw [HQ.out.2.2.1]; exact HQ.out.1, by rw [HQ.out.2.2.2, ← HQ.out.2.1], by rw [HRR.out]; exact HRN.out, hbl⟩⟩
                  case measure => simp [intOf]; omega
          · obtain rfl : n = X.length := by omega
            have hlt' : ¬ (X.length : Int) < (X.length : Int) := by omega
            obtain ⟨hj, hm, hrest, hbl⟩ := HI.out
            obtain rfl : j = W.length := by rw [hj, HWE.out]; rfl
            have hdr : (onL X Y C q).drop m = [] := by
              rw [List.drop_eq_nil_iff, hm]; exact Nat.le_refl _
            rw [hdr] at hrest
            obtain ⟨A6, c6, rfl, _, _, _⟩ := hrest
            have HE := hid (below_next HB6.out HB6.out.size hbl)
            have hee : ((W.length : Int) == (W.length : Int)) = true := by simp
            have hz : (((0 : Nat) : Int) == 0) = true := by decide
            have hct : ((C.length : Int) == (t : Int) + 1) = true := by have := HCT.out; rw [this]; simp
            have hgt : (X.length : Int) - (W.length : Int) > 2 * (t : Int) := by have := HFT.out; omega
            clear HI hj hm hdr hbl hnX
            go_wp2
            go_ret
            exact ⟨rfl, HE.out⟩
end Go.Proofs.YtcojnjhffmhbiaaDoor
