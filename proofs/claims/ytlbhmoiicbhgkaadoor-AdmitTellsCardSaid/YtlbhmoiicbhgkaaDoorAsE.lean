/-
  Are two lists of queries the same: the program's.
-/
import Derived.Test.YtlbhmoiicbhgkaaDoorAdmQ1
import Derived.Test.YtlbhmoiicbhgkaaDoorAdmQ2
import Derived.Test.YtlbhmoiicbhgkaaDoorAdmQ3
import Derived.Test.YtlbhmoiicbhgkaaDoorAdmQ4
import Derived.Test.YtlbhmoiicbhgkaaDoorAdmQ5
import Derived.Test.YtlbhmoiicbhgkaaDoorAdmQ6
import Derived.Test.YtlbhmoiicbhgkaaDoorAdmQ7
import Derived.Test.YtlbhmoiicbhgkaaDoorAdmQ8
import Derived.Test.YtlbhmoiicbhgkaaDoorAsA
namespace Go.Proofs.YtlbhmoiicbhgkaaDoor
open Go Go.RowKit Go.Maps Go.Shelf Go.Proofs

attribute [local go_sem] Oper.semAt_some

set_option maxRecDepth 100000 in
set_option maxHeartbeats 2000000 in
theorem eqA_c (A B : Option Addr) (l m : List Ask) (c d : Nat) (w : World) (hA : Asks w A l) (hB : Asks w B m) (hl : l.length ≤ 9223372036854775807) (hm : m.length ≤ 9223372036854775807) :
    Calls Tryd.prog 79 #[.slice A l.length c, .slice B m.length d, .func (.func 80) #[] #[]] w fun e w' => e = .returned (.bool (sameA l m)) ∧ Below w.heap.size w w' := by
  have HA := hid hA
  have HB := hid hB
  clear hA hB
  by_cases hlm : l.length = m.length
  case neg =>
    rw [sameA_no (fun h => hlm (by rw [h]))]
    have hne : ((l.length : Int) != (m.length : Int)) = true := by rw [bne_iff_ne]; omega
    clear hlm
    go_enter Tryd.func79, Tryd.ntmps79
    go_wp2
    go_ret
    exact ⟨rfl, Below.refl _ _⟩
  have hne : ((l.length : Int) != (m.length : Int)) = false := by rw [bne_eq_false_iff_eq]; omega
  have HLM := hid hlm
  have HY := hid (fun h : l = m => sameA_yes h)
  have HN := hid (fun h : l ≠ m => sameA_no h)
  generalize sameA l m = r at *
  clear hlm
  go_enter Tryd.func79, Tryd.ntmps79
  go_wp2
  clear hne
  go_loopw [7, 8, 9, 17] (fun _ _ _ x wr => ∃ k : Nat, x = .int .i64 (k : Int) ∧ k ≤ l.length ∧ Hid (SameK l m k ∧ Below w.heap.size w wr)) (fun _ _ _ x _ => l.length - (intOf x).toNat)
  case atStart => exact ⟨0, rfl, by omega, hid ⟨SameK.zero _ _, Below.refl _ _⟩⟩
  case round =>
  obtain ⟨k, rfl, hk, HI⟩ := hrel
  by_cases hlt : k < l.length
  case neg =>
    obtain rfl : k = l.length := by omega
    obtain rfl : r = true := HY.out (HI.out.1.all HLM.out)
    have HD := hid HI.out.2
    clear HI
    go_wp2
    go_ret
    exact ⟨rfl, HD.out⟩
  have hlt' : (k : Int) < (l.length : Int) := by omega
  have hltm : (k : Int) < (m.length : Int) := by have := HLM.out; omega
  obtain ⟨a, ha⟩ := get_of_lt hlt
  obtain ⟨b, hb⟩ := get_of_lt (l := m) (k := k) (by have := HLM.out; omega)
  obtain ⟨b1, o1, A1, c1, rfl, ca, cx, hcs, hxl⟩ := (HA.out.below HI.out.2).at_ ha
  obtain ⟨b2, o2, A2, c2, rfl, cb, cy, hcs2, hyl⟩ := (HB.out.below HI.out.2).at_ hb
  have hb1 := below_alloc wr (.cells #[.int .i64 a.id, .slice A1 a.x.length c1] 41)
  have hb2 := below_alloc (wr.alloc (.cells #[.int .i64 a.id, .slice A1 a.x.length c1] 41)) (.cells #[.int .i64 b.id, .slice A2 b.x.length c2] 41)
  have hb12 := below_next hb1 hb1.size hb2
  have cb1 := (hb1.cell (lt_of_cell cb)).trans cb
  have cy1 := (hb1.cell (lt_of_cell cy)).trans cy
  have HC := hid (⟨asame1_c a b A1 A2 c1 c2 _ (hcs.below hb12) (hcs2.below hb12) hxl hyl, hb12⟩ : _ ∧ _)
  have HAB := hid (⟨ha, hb⟩ : _ ∧ _)
  have HNE := hid (fun (h : a ≠ b) => HN.out fun e => h (by subst e; rw [ha] at hb; exact Option.some.inj hb))
  obtain ⟨sq, hsq⟩ : ∃ sq, sameQ a b = sq := ⟨_, rfl⟩
  have HSQ := hid hsq
  rw [hsq] at HC
  clear ha hb hcs hcs2 hb1 hb2 hb12 hsq
  cases sq with
  | true =>
    have HS := hid (HI.out.1.step HAB.out.1 HAB.out.2 (sameQ_yes HSQ.out))
    have HD := hid HI.out.2
    clear HI
    go_wp2_with (first | (go_at_call 80; refine HC.out.1.mono ?_; rintro e w8 ⟨rfl, hw8⟩) | fail)
    go_roundw
    case rel => exact ⟨k + 1, by go_num, by omega, hid ⟨HS.out, below_next HD.out HD.out.size (below_next HC.out.2 HC.out.2.size hw8)⟩⟩
    case measure => simp [intOf]; omega
  | false =>
    obtain rfl : r = false := HNE.out (sameQ_no HSQ.out)
    have HD := hid HI.out.2
    clear HI
    go_wp2_with (first | (go_at_call 80; refine HC.out.1.mono ?_; rintro e w8 ⟨rfl, hw8⟩) | fail)
    go_ret
    exact ⟨rfl, below_next HD.out HD.out.size (below_next HC.out.2 HC.out.2.size hw8)⟩
set_option maxRecDepth 100000 in
theorem asame_c (A B : Option Addr) (l m : List Ask) (c d : Nat) (w : World) (hA : Asks w A l) (hB : Asks w B m) (hl : l.length ≤ 9223372036854775807) (hm : m.length ≤ 9223372036854775807) :
    Calls Tryd.prog 38 #[.slice A l.length c, .slice B m.length d] w fun e w' => e = .returned (.bool (sameA l m)) ∧ Below w.heap.size w w' := by
  have HE := hid (eqA_c A B l m c d w hA hB hl hm)
  generalize sameA l m = r at *
  clear hA hB
  go_enter Tryd.func38, Tryd.ntmps38
  go_wp2_with (fail)
  refine HE.out.mono ?_
  rintro e w2 ⟨rfl, hb⟩
  go_wp2
  go_ret
  exact ⟨rfl, hb⟩
end Go.Proofs.YtlbhmoiicbhgkaaDoor
