/-
  The document's minors and ranks.
-/
import Derived.Test.YtlbhmoiicbhgkaaDoorAdmQ1
import Derived.Test.YtlbhmoiicbhgkaaDoorAdmQ2
import Derived.Test.YtlbhmoiicbhgkaaDoorAdmQ3
import Derived.Test.YtlbhmoiicbhgkaaDoorAdmQ4
import Derived.Test.YtlbhmoiicbhgkaaDoorAdmQ5
import Derived.Test.YtlbhmoiicbhgkaaDoorAdmQ6
import Derived.Test.YtlbhmoiicbhgkaaDoorAdmQ7
import Derived.Test.YtlbhmoiicbhgkaaDoorAdmQ8
import Derived.Test.YtlbhmoiicbhgkaaDoorSubA
import Derived.Test.YtlbhmoiicbhgkaaDoorRpM
namespace Go.Proofs.YtlbhmoiicbhgkaaDoor
open Go Go.RowKit Go.Maps Go.Shelf Go.Proofs Go.Lin Go.Psi

attribute [local go_sem] Oper.semAt_some

set_option maxRecDepth 100000 in
theorem may04_c (q : Int) (hq : U64 q) (w : World) :
    Calls Tryd.prog 43 #[.int .u64 q] w fun e w' => e = .returned (.bool (primeV q)) ∧ Below w.heap.size w w' := by
  have HP := hid (rprime_c q hq w)
  have HG := hid (fun h : primeV q = true => primeV_ge h)
  generalize primeV q = b at *
  by_cases h : q ≤ 2305843009213693952
  · go_enter Tryd.func43, Tryd.ntmps43
    go_wp2_with (fail)
    refine HP.out.mono ?_
    rintro e w2 ⟨rfl, hb⟩
    go_wp2
    go_ret
    exact ⟨rfl, hb⟩
  · obtain rfl : b = false := by
      cases b with
      | false => rfl
      | true => exact absurd (HG.out rfl).2 h
    clear HP HG
    go_enter Tryd.func43, Tryd.ntmps43
    go_wp2
    go_ret
    exact ⟨rfl, Below.refl _ _⟩
/-- rows are told, and whether there are any. -/
def MinE (r : Option (List Nat)) (w : World) (e : Ending) (w' : World) : Prop := ∃ v, e = .returned (.tuple #[v, .bool r.isSome]) ∧ (∀ R, r = some R → ∃ B c, v = .slice B R.length c ∧ Pl w' B c R) ∧ Below w.heap.size w w'
theorem find_at {α : Type} {p : α → Bool} {L : List α} {i : Nat} {x : α} (h : L[i]? = some x) (hp : p x = true) (hn : ∀ y ∈ L.take i, p y = false) : L.find? p = some x := by
  obtain ⟨h1, h2⟩ := List.getElem?_eq_some_iff.1 h
  have e : L = L.take i ++ x :: L.drop (i + 1) := by
    conv => lhs; rw [← List.take_append_drop i L, List.drop_eq_getElem_cons h1, h2]
  rw [e, List.find?_append, List.find?_eq_none.2 fun y hy => by rw [hn y hy]; decide, List.find?_cons, hp]
  rfl
theorem find_no {α : Type} {p : α → Bool} {L : List α} (hn : ∀ y ∈ L, p y = false) : L.find? p = none := List.find?_eq_none.2 fun y hy => by rw [hn y hy]; decide
set_option maxRecDepth 100000 in
set_option maxHeartbeats 1600000 in
theorem minor_c {N : Nat} [NeZero N] (A : Option Addr) (a : List (List Int)) (ca : Nat) (q : Int) (hqN : q = (N : Int)) (hok : okm q = true) (hq2 : 2 ≤ q) (hal : a.length ≤ 42) (hau : ∀ l ∈ a, U64s l) (C : List Nat) (D : Option Addr) (cd : Nat) (w : World) (hA : Grid w A a) (hD : Pl w D cd C) (hC : C.length ≤ 42) :
    Calls Tryd.prog 45 #[.slice A a.length ca, .slice D C.length cd, .int .u64 q] w (MinE (minorV N a C) w) := by
  have HA := hid hA
  have HD := hid hD
  have HV := hid (show minorV N a C = (subL C.length 0 a.length).find? fun R => decide (dt R (colsV N a C) ≠ 0) from rfl)
  have HDT := hid (fun (R : List Nat) (hR : R ∈ subL C.length 0 a.length) (B : Option Addr) (cb : Nat) (w' : World) (hb : Below w.heap.size w w') (hP : Pl w' B cb R) =>
    det_c A a ca q hqN hok hq2 (by omega) hau R C B D cb cd w' (HA.out.below hb) hP (HD.out.below hb) ⟨fun i hi => by have := ((subL_mem _ _ _ _).1 hR).2.2 i hi; omega, ((subL_mem _ _ _ _).1 hR).1, by omega⟩)
  have HTZ := hid (fun (d : Int) (h : 0 ≤ d ∧ d < q) => show tf N d = 0 ↔ d = 0 by
    rw [tf_iff_zero, ← hqN, Int.emod_eq_of_lt h.1 h.2])
  have hs := subsets_c a.length hal C.length 0 w hC (Nat.zero_le _)
  rw [Nat.sub_zero] at hs
  generalize minorV N a C = r at *
  obtain ⟨L, hL⟩ : ∃ L, subL C.length 0 a.length = L := ⟨_, rfl⟩
  have hll : L.length ≤ 4398046511104 := by rw [← hL]; exact Nat.le_trans (subL_len _ _ _) (Nat.le_trans (Nat.pow_le_pow_right (by decide) hal) (by decide))
  rw [hL] at hs HDT HV
  have HS := hid hs
  clear hA hD hau hs hL hqN hok
  go_enter Tryd.func45, Tryd.ntmps45
  go_wp2_with (fail)
  refine HS.out.mono ?_
  rintro e w2 ⟨lv, rfl, hl, hb2⟩
  obtain ⟨Al, cl, rfl⟩ := hl.val
  have HL := hid (⟨hl, hb2⟩ : _ ∧ _)
  clear hl hb2 HS
  go_wp2
  go_loopw [9] (fun x wr => ∃ i : Nat, x = .int .i64 (i : Int) ∧ i ≤ L.length ∧ Hid ((∀ R ∈ L.take i, dt R (colsV N a C) = 0) ∧ RowsC wr w.heap.size (.slice Al L.length cl) L ∧ Below w.heap.size w wr)) (fun x _ => L.length - (intOf x).toNat)
  case atStart => exact ⟨0, rfl, by omega, hid ⟨fun R h => (by cases h), HL.out.1, HL.out.2⟩⟩
  case round =>
  obtain ⟨i, rfl, hi, HI⟩ := hrel
  clear HL
  by_cases hlt : i < L.length
  case neg =>
    obtain rfl : i = L.length := by omega
    have hlt' : ¬ (L.length : Int) < (L.length : Int) := by omega
    have hr : r = none := by
      rw [HV.out]
      refine find_no fun R hR => ?_
      have := HI.out.1 R (by rw [List.take_length]; exact hR)
      simp [this]
    subst hr
    have HB := hid HI.out.2.2
    clear HI
    go_wp2
    go_ret2
    exact ⟨_, rfl, fun R h => (by cases h), HB.out⟩
  have hlt' : (i : Int) < (L.length : Int) := by omega
  obtain ⟨R, hR⟩ := get_of_lt hlt
  obtain ⟨b1, c1, Ax, cx, e1, cm, hpx⟩ := HI.out.2.1.at_ hR
  simp only [Value.slice.injEq, true_and] at e1
  obtain ⟨rfl, rfl⟩ := e1
  have HP := hid (⟨hpx, cm⟩ : _ ∧ _)
  have HR := hid hR
  have HCALL := hid (HDT.out R (List.mem_of_getElem? hR) Ax cx wr HI.out.2.2 hpx)
  clear hpx hR
  go_wp2_with (fail)
  refine HCALL.out.mono ?_
  rintro e w3 ⟨d, rfl, hd, hb3⟩
  have hz := HTZ.out d ⟨hd.out.1, hd.out.2.1⟩
  rw [hd.out.2.2] at hz
  by_cases hd0 : d = 0
  · have hne : (d != 0) = false := by simpa using hd0
    have HN := hid (show (∀ R ∈ L.take (i + 1), dt R (colsV N a C) = 0) ∧ RowsC w3 w.heap.size (.slice (some ⟨b1, 0, none⟩) L.length cl) L ∧ Below w.heap.size w w3 from ⟨fun R' hR' => by
      rw [List.take_add_one, HR.out] at hR'
      rcases List.mem_append.1 hR' with h | h
      · exact HI.out.1 R' h
      · rw [List.mem_singleton.1 h]; exact hz.2 hd0, HI.out.2.1.below hb3, below_next HI.out.2.2 HI.out.2.2.size hb3⟩)
    clear hd0 hz hb3 hd HI HCALL cm
    go_wp2
    go_roundw
    case rel => exact ⟨i + 1, by go_num, by omega, HN⟩
    case measure => simp [intOf]; omega
  · have hne : (d != 0) = true := by simpa using hd0
    have hr : r = some R := by
      rw [HV.out]
      refine find_at HR.out (by simpa using fun h => hd0 (hz.1 h)) fun y hy => ?_
      have := HI.out.1 y hy
      simp [this]
    subst hr
    have cm3 := (hb3.cell (lt_of_cell cm)).trans cm
    have HN := hid (show Pl w3 Ax cx R ∧ Below w.heap.size w w3 from ⟨HP.out.1.below hb3, below_next HI.out.2.2 HI.out.2.2.size hb3⟩)
    clear hd0 hz hb3 hd HI HCALL cm HP
    go_wp2
    go_ret2
    exact ⟨_, rfl, fun R' h => (by obtain rfl := Option.some.inj h; exact ⟨_, _, rfl, HN.out.1⟩), HN.out.2⟩
set_option maxRecDepth 100000 in
set_option maxHeartbeats 1600000 in
theorem rank04_c (A : Option Addr) (a : List (List Int)) (ca : Nat) (q : Int) (w : World) (hA : Grid w A a) (hal : a.length ≤ 42) (haw : wideL a ≤ 42) (hau : ∀ l ∈ a, U64s l) (hq : U64 q) :
    Calls Tryd.prog 10 #[.slice A a.length ca, .int .u64 q] w fun e w' => e = .returned (.int .i64 (rankV a q : Int)) ∧ Below w.heap.size w w' := by
  have HA := hid hA
  have HM := hid (may04_c q hq w)
  cases hp : primeV q with
  | false =>
    rw [hp] at HM
    rw [rankV_no hp]
    clear hA hp
    go_enter Tryd.func10, Tryd.ntmps10
    go_wp2_with (fail)
    refine HM.out.mono ?_
    rintro e w2 ⟨rfl, hb⟩
    go_wp2
    go_ret
    exact ⟨rfl, hb⟩
  | true =>
  rw [hp] at HM
  obtain ⟨N, hN, hF⟩ := fq_of hp (prime_pr hp)
  obtain ⟨hok, hq2⟩ := okm_prime hp
  have HR := hid (fun (k : Nat) (R C : List Nat) (hC : C ∈ subL k 0 (wideL a)) (hR : minorV N a C = some R) (hz : ∀ C' ∈ subL (k + 1) 0 (wideL a), k + 1 ≤ a.length → minorV N a C' = none) => minor_rank hF hp (prime_pr hp) hC hR hz)
  have HR0 := hid (fun (hz : ∀ C' ∈ subL 1 0 (wideL a), 1 ≤ a.length → minorV N a C' = none) => minor_rank0 hF hp (prime_pr hp) hz)
  have HMIN := hid (fun (C : List Nat) (D : Option Addr) (cd : Nat) (w' : World) (hb : Below w.heap.size w w') (hD : Pl w' D cd C) (hC : C.length ≤ 42) => minor_c A a ca q hF.eq hok hq2 hal hau C D cd w' (HA.out.below hb) hD hC)
  have HW := hid (fun (w' : World) (hb : Below w.heap.size w w') => wide04_c A a ca w' (HA.out.below hb) (by omega))
  have HSUB := hid (fun (k : Nat) (w' : World) (hk : k ≤ 42) => subsets_c (wideL a) haw k 0 w' hk (Nat.zero_le _))
  have HSL := hid (fun (k : Nat) => (Nat.le_trans (subL_len (wideL a) k 0) (Nat.le_trans (Nat.pow_le_pow_right (by decide) haw) (by decide)) : (subL k 0 (wideL a)).length ≤ 4398046511104))
  simp only [Nat.sub_zero] at HSUB
  generalize rankV a q = rk at *
  generalize wideL a = W at *
  clear hA hau hok hF hp
  go_enter Tryd.func10, Tryd.ntmps10
  go_wp2_with (fail)
  refine HM.out.mono ?_
  rintro e w2 ⟨rfl, hb2⟩
  go_wp2_with (fail)
  refine (HW.out w2 hb2).mono ?_
  rintro e w3 ⟨rfl, rfl⟩
  have HB2 := hid hb2
  clear hb2 HM HW
  obtain ⟨m, hm⟩ : ∃ m, min W a.length = m := ⟨_, rfl⟩
  have hmi : min (W : Int) (a.length : Int) = (m : Int) := by omega
  go_wp2
  go_loopw [6] (fun x wr => ∃ k : Nat, x = .int .i64 (k : Int) ∧ k ≤ m ∧ Hid ((∀ j, k < j → ∀ C ∈ subL j 0 W, j ≤ a.length → minorV N a C = none) ∧ Below w.heap.size w wr)) (fun x _ => (intOf x).toNat)
  case atStart => exact ⟨m, rfl, Nat.le_refl _, hid ⟨fun j hj C hC hja => by
    exfalso
    have : j ≤ W := by
      rcases Nat.lt_or_ge W j with h | h
      · rw [subL_short h] at hC; cases hC
      · exact h
    omega, HB2.out⟩⟩
  case round =>
  obtain ⟨k, rfl, hk, HI⟩ := hrel
  by_cases hk0 : 0 < k
  case neg =>
    obtain rfl : k = 0 := by omega
    have hlt' : ¬ (0 : Int) < ((0 : Nat) : Int) := by omega
    obtain rfl : rk = 0 := HR0.out fun C hC h1 => HI.out.1 1 (by omega) C hC h1
    have HB := hid HI.out.2
    clear HI
    go_wp2
    go_ret
    exact ⟨rfl, HB.out⟩
  have hk0' : (0 : Int) < (k : Int) := by omega
  have hs := HSUB.out k wr (by omega)
  have hsl := HSL.out k
  have HIN := hid (fun (C : List Nat) (hC : C ∈ subL k 0 W) => (show C.length ≤ 42 by rw [((subL_mem _ _ _ _).1 hC).1]; omega))
  obtain ⟨L, hL⟩ : ∃ L, subL k 0 W = L := ⟨_, rfl⟩
  have HLL := hid hL
  rw [hL] at hs hsl HIN
  have HS := hid hs
  clear hs hL HB2
  go_wp2_with (fail)
  refine HS.out.mono ?_
  rintro e w4 ⟨lv, rfl, hl, hb4⟩
  obtain ⟨Al, cl, rfl⟩ := hl.val
  have HL := hid (⟨hl.from_ HI.out.2.size, below_next HI.out.2 HI.out.2.size hb4⟩ : _ ∧ _)
  clear hl hb4 HS
  go_wp2
  generalize wr = wo at *
  go_loopw [8] (fun x wr => ∃ i : Nat, x = .int .i64 (i : Int) ∧ i ≤ L.length ∧ Hid ((∀ C ∈ L.take i, minorV N a C = none) ∧ RowsC wr w.heap.size (.slice Al L.length cl) L ∧ Below w.heap.size w wr)) (fun x _ => L.length - (intOf x).toNat)
  case atStart => exact ⟨0, rfl, by omega, hid ⟨fun R h => (by cases h), HL.out.1, HL.out.2⟩⟩
  case round =>
  obtain ⟨i, rfl, hi, HJ⟩ := hrel
  clear HL
  by_cases hlt : i < L.length
  case neg =>
    obtain rfl : i = L.length := by omega
    have hlt' : ¬ (L.length : Int) < (L.length : Int) := by omega
    have HN := hid (show (∀ j, k - 1 < j → ∀ C ∈ subL j 0 W, j ≤ a.length → minorV N a C = none) ∧ Below w.heap.size w wr from ⟨fun j hj C hC hja => by
      by_cases e : j = k
      · subst e
        rw [HLL.out] at hC
        exact HJ.out.1 C (by rw [List.take_length]; exact hC)
      · exact HI.out.1 j (by omega) C hC hja, HJ.out.2.2⟩)
    have hk1 : (k : Int) - 1 = ((k - 1 : Nat) : Int) := by omega
    clear HI HJ
    go_wp2
    go_roundw
    case rel => exact ⟨k - 1, by go_num, by omega, HN⟩
    case measure => simp [intOf]; omega
  have hlt' : (i : Int) < (L.length : Int) := by omega
  obtain ⟨C, hC⟩ := get_of_lt hlt
  obtain ⟨b1, c1, Ax, cx, e1, cm, hpx⟩ := HJ.out.2.1.at_ hC
  simp only [Value.slice.injEq, true_and] at e1
  obtain ⟨rfl, rfl⟩ := e1
  have HC := hid hC
  have HCALL := hid (HMIN.out C Ax cx wr HJ.out.2.2 hpx (HIN.out C (List.mem_of_getElem? hC)))
  obtain ⟨r, hr⟩ : ∃ r, minorV N a C = r := ⟨_, rfl⟩
  have HRR := hid hr
  rw [hr] at HCALL
  clear hpx hC hr
  go_wp2_with (fail)
  refine HCALL.out.mono ?_
  rintro e w5 ⟨v, rfl, _, hb5⟩
  cases r with
  | some R =>
    obtain rfl : rk = k := HR.out k R C (by rw [HLL.out]; exact List.mem_of_getElem? HC.out) HRR.out fun C' hC' h1 => HI.out.1 (k + 1) (by omega) C' hC' h1
    have HB := hid (below_next HJ.out.2.2 HJ.out.2.2.size hb5)
    clear hb5 HCALL cm HJ HI
    go_wp2
    go_ret
    exact ⟨rfl, HB.out⟩
  | none =>
    have HN := hid (show (∀ C ∈ L.take (i + 1), minorV N a C = none) ∧ RowsC w5 w.heap.size (.slice (some ⟨b1, 0, none⟩) L.length cl) L ∧ Below w.heap.size w w5 from ⟨fun R' hR' => by
      rw [List.take_add_one, HC.out] at hR'
      rcases List.mem_append.1 hR' with h | h
      · exact HJ.out.1 R' h
      · rw [List.mem_singleton.1 h]; exact HRR.out, HJ.out.2.1.below hb5, below_next HJ.out.2.2 HJ.out.2.2.size hb5⟩)
    clear hb5 HCALL cm HJ
    go_wp2
    go_roundw
    case rel => exact ⟨i + 1, by go_num, by omega, HN⟩
    case measure => simp [intOf]; omega
end Go.Proofs.YtlbhmoiicbhgkaaDoor
