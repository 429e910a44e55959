/-
  Lists held against one another; are these coefficients, and these wrong ones, what Decode tells?
-/
import Derived.Test.YtmmmdidbnjcooaaDoorRobD
import Derived.Test.YtmmmdidbnjcooaaDoorRaF
namespace Go.Proofs.YtmmmdidbnjcooaaDoor
open Go.RowKit Go.Shelf

attribute [local go_sem] Oper.semAt_some

set_option maxHeartbeats 400000 in
theorem numbers_c (A B : Option Addr) (la lb : List Int) (ca cb : Nat) (w : World) (hA : Cells w A (la.map (.int .u64))) (hB : Cells w B (lb.map (.int .u64))) (hl : la.length ≤ 9223372036854775807) (hl' : lb.length ≤ 9223372036854775807) :
    Calls Tryd.prog 54 #[.slice A la.length ca, .slice B lb.length cb] w fun e w' => e = .returned (.bool (decide (la = lb))) ∧ Dr w w' := by
  by_cases hlen : la.length = lb.length
  · have hb : (((la.length : Nat) : Int) != ((lb.length : Nat) : Int)) = false := by simp [hlen]
    have HL := hid hlen
    clear hlen
    go_enter Tryd.func54, Tryd.ntmps54
    go_wp2
    go_loopw [5] (fun i wr => ∃ k : Nat, i = .int .i64 k ∧ k ≤ la.length ∧ SameUpto la lb k ∧ Dr w wr) (fun i _ => la.length - (intOf i).toNat)
    case atStart => exact ⟨0, rfl, by omega, fun i hi => absurd hi (by omega), Dr.refl w⟩
    case round =>
      obtain ⟨k, rfl, hk, hsame, hw⟩ := hrel
      by_cases hlt : k < la.length
      · obtain ⟨x, hx⟩ := get_of_lt hlt
        obtain ⟨y, hy⟩ := get_of_lt (l := lb) (show k < lb.length by have := HL.out; omega)
        obtain ⟨b, off, rfl, hc⟩ := (hA.dr hw).at_map hx
        obtain ⟨b', off', rfl, hc'⟩ := (hB.dr hw).at_map hy
        have hlt' : k < lb.length := by have := HL.out; omega
        by_cases hxy : x = y
        · subst hxy
          have hn : (x != x) = false := by simp
          have hs := hsame.step hx hy
          go_wp2
          go_quiet (fail)
          go_wp2
          go_roundw
          case rel => exact ⟨k + 1, by go_num, by omega, hs, hw.more _⟩
          case measure => simp [intOf]; omega
        · have hn : (x != y) = true := by simpa using hxy
          have hfin : decide (la = lb) = false := by
            simp only [decide_eq_false_iff_not]
            rintro rfl
            rw [hx] at hy
            exact hxy (Option.some.inj hy)
          have HF := hid hfin
          clear hfin hxy
          go_wp2
          go_quiet (fail)
          go_wp2
          go_ret
          exact ⟨ret_bool HF.out.symm, hw.more _⟩
      · have hfin : decide (la = lb) = true := by
          obtain rfl : k = la.length := by omega
          simp only [decide_eq_true_eq]
          exact hsame.all HL.out
        have HF := hid hfin
        clear hfin
        go_wp2
        go_ret
        exact ⟨ret_bool HF.out.symm, hw⟩
  · have hb : (((la.length : Nat) : Int) != ((lb.length : Nat) : Int)) = true := by simp; omega
    have hfin : decide (la = lb) = false := by
      simp only [decide_eq_false_iff_not]
      rintro rfl
      exact hlen rfl
    have HF := hid hfin
    clear hfin hlen
    go_enter Tryd.func54, Tryd.ntmps54
    go_wp2
    go_ret
    exact ⟨ret_bool HF.out.symm, Dr.refl w⟩

set_option maxHeartbeats 400000 in
theorem ints5_c (A B : Option Addr) (la lb : List Int) (ca cb : Nat) (w : World) (hA : Cells w A (la.map (.int .i64))) (hB : Cells w B (lb.map (.int .i64))) (hl : la.length ≤ 9223372036854775807) (hl' : lb.length ≤ 9223372036854775807) :
    Calls Tryd.prog 55 #[.slice A la.length ca, .slice B lb.length cb] w fun e w' => e = .returned (.bool (decide (la = lb))) ∧ Dr w w' := by
  by_cases hlen : la.length = lb.length
  · have hb : (((la.length : Nat) : Int) != ((lb.length : Nat) : Int)) = false := by simp [hlen]
    have HL := hid hlen
    clear hlen
    go_enter Tryd.func55, Tryd.ntmps55
    go_wp2
    go_loopw [5] (fun i wr => ∃ k : Nat, i = .int .i64 k ∧ k ≤ la.length ∧ SameUpto la lb k ∧ Dr w wr) (fun i _ => la.length - (intOf i).toNat)
    case atStart => exact ⟨0, rfl, by omega, fun i hi => absurd hi (by omega), Dr.refl w⟩
    case round =>
      obtain ⟨k, rfl, hk, hsame, hw⟩ := hrel
      by_cases hlt : k < la.length
      · obtain ⟨x, hx⟩ := get_of_lt hlt
        obtain ⟨y, hy⟩ := get_of_lt (l := lb) (show k < lb.length by have := HL.out; omega)
        obtain ⟨b, off, rfl, hc⟩ := (hA.dr hw).at_map hx
        obtain ⟨b', off', rfl, hc'⟩ := (hB.dr hw).at_map hy
        have hlt' : k < lb.length := by have := HL.out; omega
        by_cases hxy : x = y
        · subst hxy
          have hn : (x != x) = false := by simp
          have hs := hsame.step hx hy
          go_wp2
          go_quiet (fail)
          go_wp2
          go_roundw
          case rel => exact ⟨k + 1, by go_num, by omega, hs, hw.more _⟩
          case measure => simp [intOf]; omega
        · have hn : (x != y) = true := by simpa using hxy
          have hfin : decide (la = lb) = false := by
            simp only [decide_eq_false_iff_not]
            rintro rfl
            rw [hx] at hy
            exact hxy (Option.some.inj hy)
          have HF := hid hfin
          clear hfin hxy
          go_wp2
          go_quiet (fail)
          go_wp2
          go_ret
          exact ⟨ret_bool HF.out.symm, hw.more _⟩
      · have hfin : decide (la = lb) = true := by
          obtain rfl : k = la.length := by omega
          simp only [decide_eq_true_eq]
          exact hsame.all HL.out
        have HF := hid hfin
        clear hfin
        go_wp2
        go_ret
        exact ⟨ret_bool HF.out.symm, hw⟩
  · have hb : (((la.length : Nat) : Int) != ((lb.length : Nat) : Int)) = true := by simp; omega
    have hfin : decide (la = lb) = false := by
      simp only [decide_eq_false_iff_not]
      rintro rfl
      exact hlen rfl
    have HF := hid hfin
    clear hfin hlen
    go_enter Tryd.func55, Tryd.ntmps55
    go_wp2
    go_ret
    exact ⟨ret_bool HF.out.symm, Dr.refl w⟩


theorem natv_eq (s : List Nat) : natv s = (s.map fun (i : Nat) => (i : Int)).map (Value.int .i64) := by simp [natv]
theorem nats_inj {a b : List Nat} : (a.map fun (i : Nat) => (i : Int)) = (b.map fun (i : Nat) => (i : Int)) ↔ a = b := by
  constructor
  · intro h
    have e : ∀ l : List Nat, (l.map fun (i : Nat) => (i : Int)).map Int.toNat = l := by
      intro l
      induction l with
      | nil => rfl
      | cons x l ih => rw [List.map_cons, List.map_cons, ih]; rfl
    have := congrArg (List.map Int.toNat) h
    rw [e, e] at this
    exact this
  · intro h; rw [h]
noncomputable def isB (l m : List Int) (t q : Int) (cs : List Int) (ws : List Nat) : Bool := decide ((decR l m t q).2.2 = 0) && decide (cs = (decR l m t q).1) && decide (ws = (decR l m t q).2.1)
theorem isB_at {l m : List Int} {t q : Int} {cs : List Int} {ws : List Nat} (h : decR l m t q = (cs, ws, 0)) : isB l m t q cs ws = true := by unfold isB; rw [h]; simp
set_option maxRecDepth 100000 in
set_option maxHeartbeats 1000000 in
theorem is_c (A B C D : Option Addr) (l m cs : List Int) (ws : List Nat) (a b c d : Nat) (t q : Int) (w : World) (hA : Cells w A (l.map (.int .u64))) (hB : Cells w B (m.map (.int .u64))) (hC : Cells w C (cs.map (.int .u64))) (hD : Cells w D (natv ws)) (hl : l.length ≤ 1000) (hlm : m.length ≤ 1000) (hcl : cs.length ≤ 1000) (hwl : ws.length ≤ 1000)
    (hu : U64s l) (hu' : U64s m) (ht : I64 t) (hq : U64 q) (hTab : Tabs w) :
    Calls Tryd.prog 22 #[.slice A l.length a, .slice B m.length b, .int .i64 t, .int .u64 q, .slice C cs.length c, .slice D ws.length d] w fun e w' => e = .returned (.bool (isB l m t q cs ws)) ∧ Below w.heap.size w w' := by
  have HIS := hid (show isB l m t q cs ws = (decide ((decR l m t q).2.2 = 0) && decide (cs = (decR l m t q).1) && decide (ws = (decR l m t q).2.1)) from rfl)
  generalize isB l m t q cs ws = R at *
  have HD := hid (dec_c A B l m a b t q w hA hB hl hlm hu hu' ht hq hTab)
  have HC := hid hC
  have HW := hid hD
  clear hA hB hC hD hTab
  generalize decR l m t q = r at *
  obtain ⟨r1, r2, r3⟩ := r
  go_enter Tryd.func22, Tryd.ntmps22
  go_wp2_with (fail)
  refine HD.out.mono ?_
  rintro e w2 ⟨v1, v2, rfl, o1, o2, hb2⟩
  dsimp only at o1 o2 HIS ⊢
  obtain ⟨A1, c1, e1, h1⟩ := o1.form
  obtain ⟨A2, c2, e2, h2⟩ := o2.form
  have l1 := o1.len_le
  have l2 := o2.len_le
  rw [List.length_map] at e1 e2 l1 l2
  subst e1
  subst e2
  by_cases hr : r3 = 0
  · subst hr
    have hC2 := HC.out.below hb2
    have hW2 := HW.out.below hb2
    clear HD HC HW o1 o2
    go_wp2_with (fail)
    refine (numbers_c C A1 cs r1 c c1 w2 hC2 h1 (by omega) l1).mono ?_
    rintro e w3 ⟨rfl, hd3⟩
    by_cases h3 : cs = r1
    · have h3' : decide (cs = r1) = true := by simpa using h3
      rw [h3']
      have hW3 := hW2.dr hd3
      have h23 := h2.dr hd3
      rw [natv_eq] at hW3 h23
      have hp := ints5_c D A2 (ws.map fun (i : Nat) => (i : Int)) (r2.map fun (i : Nat) => (i : Int)) d c2 w3 hW3 h23 (by simp; omega) (by simpa using l2)
      rw [List.length_map, List.length_map] at hp
      have HP := hid hp
      clear hp
      go_wp2_with (fail)
      refine HP.out.mono ?_
      rintro e w4 ⟨rfl, hd4⟩
      go_wp2
      go_ret
      refine ⟨?_, below_dr (below_dr hb2 hd3) hd4⟩
      rw [HIS.out]
      simp [h3', nats_inj]
    · have h3' : decide (cs = r1) = false := by simpa using h3
      rw [h3']
      go_wp2
      go_ret
      refine ⟨?_, below_dr hb2 hd3⟩
      rw [HIS.out, h3']
      simp
  · have hne : (r3 == 0) = false := by simpa using hr
    go_wp2
    go_ret
    refine ⟨?_, hb2⟩
    rw [HIS.out]
    simp [hr]
end Go.Proofs.YtmmmdidbnjcooaaDoor
