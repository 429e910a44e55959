/-
  Are two lists of queries the same: the document's, the program's.
-/
import Derived.Test.YtlbhmoiicbhgkaaDoorAdmQ1
import Derived.Test.YtlbhmoiicbhgkaaDoorAdmQ2
import Derived.Test.YtlbhmoiicbhgkaaDoorAdmQ3
import Derived.Test.YtlbhmoiicbhgkaaDoorAdmQ4
import Derived.Test.YtlbhmoiicbhgkaaDoorAdmQ5
import Derived.Test.YtlbhmoiicbhgkaaDoorAdmQ6
import Derived.Test.YtlbhmoiicbhgkaaDoorAdmQ7
import Derived.Test.YtlbhmoiicbhgkaaDoorAdmQ8
import Derived.Test.YtlbhmoiicbhgkaaDoorAdY
import Derived.Test.YtlbhmoiicbhgkaaDoorAdN
namespace Go.Proofs.YtlbhmoiicbhgkaaDoor
open Go Go.RowKit Go.Maps Go.Shelf Go.Proofs

attribute [local go_sem] Oper.semAt_some

def SameK {α : Type} (l m : List α) (k : Nat) : Prop := ∀ j, j < k → l[j]? = m[j]?
theorem SameK.zero {α : Type} (l m : List α) : SameK l m 0 := fun _ h => absurd h (by omega)
theorem SameK.step {α : Type} {l m : List α} {k : Nat} {a b : α} (h : SameK l m k) (h1 : l[k]? = some a) (h2 : m[k]? = some b) (he : a = b) : SameK l m (k + 1) := by
  intro j hj
  by_cases e : j = k
  · subst e; rw [h1, h2, he]
  · exact h j (by omega)
theorem SameK.all {α : Type} {l m : List α} (h : SameK l m l.length) (hl : l.length = m.length) : l = m := by
  refine List.ext_getElem? fun j => ?_
  rcases Nat.lt_or_ge j l.length with hj | hj
  · exact h j hj
  · rw [List.getElem?_eq_none hj, List.getElem?_eq_none (by omega)]
theorem ask_eq {a b : Ask} (h1 : a.id = b.id) (h2 : a.x = b.x) : a = b := by
  cases a; cases b
  simp only at h1 h2
  subst h1; subst h2; rfl
open Classical in
/-- the same queries? -/
noncomputable def sameA (l m : List Ask) : Bool := decide (l = m)
/-- the same query? -/
def sameQ (a b : Ask) : Bool := decide (a.id = b.id) && decide (a.x = b.x)
theorem sameA_yes {l m : List Ask} (h : l = m) : sameA l m = true := by unfold sameA; simp [h]
theorem sameA_no {l m : List Ask} (h : l ≠ m) : sameA l m = false := by unfold sameA; simp [h]
theorem sameQ_is (a b : Ask) : sameQ a b = (decide (a.id = b.id) && decide (a.x = b.x)) := rfl
theorem sameQ_yes {a b : Ask} (h : sameQ a b = true) : a = b := by
  rw [sameQ_is, Bool.and_eq_true, decide_eq_true_eq, decide_eq_true_eq] at h
  exact ask_eq h.1 h.2
theorem sameQ_no {a b : Ask} (h : sameQ a b = false) : a ≠ b := by
  rintro rfl
  rw [sameQ_is] at h
  simp at h
set_option maxRecDepth 100000 in
set_option maxHeartbeats 1000000 in
theorem rsame21_c (A B : Option Addr) (l m : List Ask) (c d : Nat) (w : World) (hA : Asks w A l) (hB : Asks w B m) (hl : l.length ≤ 9223372036854775807) (hm : m.length ≤ 9223372036854775807) :
    Calls Tryd.prog 31 #[.slice A l.length c, .slice B m.length d] w fun e w' => e = .returned (.bool (sameA l m)) ∧ Dr w w' := by
  have HA := hid hA
  have HB := hid hB
  clear hA hB
  by_cases hlm : l.length = m.length
  case neg =>
    rw [sameA_no (fun h => hlm (by rw [h]))]
    have hne : ((l.length : Int) != (m.length : Int)) = true := by rw [bne_iff_ne]; omega
    clear hlm
    go_enter Tryd.func31, Tryd.ntmps31
    go_wp2
    go_ret
    exact ⟨rfl, Dr.refl _⟩
  have hne : ((l.length : Int) != (m.length : Int)) = false := by rw [bne_eq_false_iff_eq]; omega
  have HLM := hid hlm
  have HY := hid (fun h : l = m => sameA_yes h)
  have HN := hid (fun h : l ≠ m => sameA_no h)
  generalize sameA l m = r at *
  clear hlm
  go_enter Tryd.func31, Tryd.ntmps31
  go_wp2
  go_loopw [5] (fun x wr => ∃ k : Nat, x = .int .i64 (k : Int) ∧ k ≤ l.length ∧ Hid (SameK l m k ∧ Dr w wr)) (fun x _ => l.length - (intOf x).toNat)
  case atStart => exact ⟨0, rfl, by omega, hid ⟨SameK.zero _ _, Dr.refl _⟩⟩
  case round =>
  obtain ⟨k, rfl, hk, HI⟩ := hrel
  by_cases hlt : k < l.length
  case neg =>
    obtain rfl : k = l.length := by omega
    obtain rfl : r = true := HY.out (HI.out.1.all HLM.out)
    have HD := hid HI.out.2
    clear HI
    go_wp2
    go_ret
    exact ⟨rfl, HD.out⟩
  have hlt' : (k : Int) < (l.length : Int) := by omega
  have hltm : (k : Int) < (m.length : Int) := by have := HLM.out; omega
  obtain ⟨a, ha⟩ := get_of_lt hlt
  obtain ⟨b, hb⟩ := get_of_lt (l := m) (k := k) (by have := HLM.out; omega)
  obtain ⟨b1, o1, A1, c1, rfl, ca, cx, hcs, hxl⟩ := (HA.out.dr HI.out.2).at_ ha
  obtain ⟨b2, o2, A2, c2, rfl, cb, cy, hcs2, hyl⟩ := (HB.out.dr HI.out.2).at_ hb
  have HAB := hid (⟨ha, hb⟩ : _ ∧ _)
  have HIN := hid (fun w' (hd : Dr wr w') => ints_c A1 A2 a.x b.x c1 c2 w' (hcs.dr hd) (hcs2.dr hd) hxl hyl)
  have HNE := hid (fun (h : a ≠ b) => HN.out fun e => h (by subst e; rw [ha] at hb; exact Option.some.inj hb))
  clear ha hb hcs hcs2
  by_cases hid' : a.id = b.id
  · have hn : (a.id != b.id) = false := by simpa using hid'
    by_cases hx : a.x = b.x
    · rw [show decide (a.x = b.x) = true by simpa using hx] at HIN
      have HS := hid (show SameK l m (k + 1) from HI.out.1.step HAB.out.1 HAB.out.2 (ask_eq hid' hx))
      clear hid' hx
      go_wp2
      go_quiet (first | (go_at_call 39; exact quiet_dr (HIN.out _ ⟨_, rfl⟩)))
      have HN2 := hid (⟨HS.out, HI.out.2.trans (⟨nq, rfl⟩ : Dr wr (wr.drewN nq))⟩ : _ ∧ _)
      clear HI HIN ca cx cb cy
      go_wp2
      go_roundw
      case rel => exact ⟨k + 1, by go_num, by omega, HN2⟩
      case measure => simp [intOf]; omega
    · rw [show decide (a.x = b.x) = false by simpa using hx] at HIN
      obtain rfl : r = false := HNE.out fun e => hx (by rw [e])
      clear hid' hx
      go_wp2
      go_quiet (first | (go_at_call 39; exact quiet_dr (HIN.out _ ⟨_, rfl⟩)))
      have HD := hid (HI.out.2.trans (⟨nq, rfl⟩ : Dr wr (wr.drewN nq)))
      clear HI HIN ca cx cb cy
      go_wp2
      go_ret
      exact ⟨rfl, HD.out⟩
  · have hn : (a.id != b.id) = true := by simpa using hid'
    obtain rfl : r = false := HNE.out fun e => hid' (by rw [e])
    clear hid'
    go_wp2
    go_quiet (fail)
    have HD := hid (HI.out.2.trans (⟨nq, rfl⟩ : Dr wr (wr.drewN nq)))
    clear HI HIN ca cx cb cy
    go_wp2
    go_ret
    exact ⟨rfl, HD.out⟩
set_option maxRecDepth 100000 in
set_option maxHeartbeats 1000000 in
theorem asame1_c (a b : Ask) (A B : Option Addr) (c d : Nat) (w : World) (hA : Cells w A (a.x.map (.int .i64))) (hB : Cells w B (b.x.map (.int .i64))) (hl : a.x.length ≤ 9223372036854775807) (hm : b.x.length ≤ 9223372036854775807) :
    Calls Tryd.prog 80 #[.agg #[.int .i64 a.id, .slice A a.x.length c], .agg #[.int .i64 b.id, .slice B b.x.length d]] w fun e w' => e = .returned (.bool (sameQ a b)) ∧ Below w.heap.size w w' := by
  have hb1 := below_alloc w (.cells #[.int .i64 a.id, .slice A a.x.length c] 41)
  have hb2 := below_alloc (w.alloc (.cells #[.int .i64 a.id, .slice A a.x.length c] 41)) (.cells #[.int .i64 b.id, .slice B b.x.length d] 41)
  have hb12 := below_next hb1 hb1.size hb2
  have hE := eq_c A B a.x b.x c d _ (hA.below hb12) (hB.below hb12) hl hm
  rw [sameQ_is]
  by_cases hid' : a.id = b.id
  · have hn : (a.id == b.id) = true := by simpa using hid'
    rw [show decide (a.id = b.id) = true by simpa using hid', Bool.true_and]
    have HE := hid (⟨hE, hb12⟩ : _ ∧ _)
    generalize decide (a.x = b.x) = r at *
    clear hE hb12 hb1 hb2 hA hB hid'
    go_enter Tryd.func80, Tryd.ntmps80
    go_wp2_with (fail)
    refine HE.out.1.mono ?_
    rintro e w2 ⟨rfl, hd⟩
    go_wp2
    go_ret
    exact ⟨rfl, below_dr HE.out.2 hd⟩
  · have hn : (a.id == b.id) = false := by simpa using hid'
    rw [show decide (a.id = b.id) = false by simpa using hid', Bool.false_and]
    have HE := hid hb12
    clear hE hb12 hb1 hb2 hA hB hid'
    go_enter Tryd.func80, Tryd.ntmps80
    go_wp2
    go_ret
    exact ⟨rfl, HE.out⟩
end Go.Proofs.YtlbhmoiicbhgkaaDoor
