/-
  May a query be: the document's (parts of FixM, FixR, as in XAdN).
-/
import Derived.Test.YtpdgalclnlbeaaaDoorAdmQ1
import Derived.Test.YtpdgalclnlbeaaaDoorAdmQ2
import Derived.Test.YtpdgalclnlbeaaaDoorAdmQ3
import Derived.Test.YtpdgalclnlbeaaaDoorAdmQ4
import Derived.Test.YtpdgalclnlbeaaaDoorAdmQ5
import Derived.Test.YtpdgalclnlbeaaaDoorAdmQ6
import Derived.Test.YtpdgalclnlbeaaaDoorAdmQ7
import Derived.Test.YtpdgalclnlbeaaaDoorAdmQ8
import Derived.Test.YtpdgalclnlbeaaaDoorRows
import Derived.Test.YtpdgalclnlbeaaaDoorAdP
import Derived.WalkKit
import Derived.WalkSpells
import Derived.WalkLawsBesides
import Derived.Deep.QuietTactic
import Derived.BigQuiet
import Derived.Shelf.Small.Bits
import Derived.Shelf.Strconv.Itoa0
import Derived.Shelf.Bits.Mul64
import Derived.Test.YtpdgalclnlbeaaaDoorProg
import Derived.Lib.BitFns
import Derived.Lib.ItoaNum
import Derived.Laws.BitsAllLaws
import Derived.OwnWalk
import Derived.Maps.AppendAt
import Derived.StillTailTactics
import Derived.Orders
import Derived.NoCompiler
import Derived.Deep.RegionWith
import Derived.Laws.CopyOwn
import Derived.Laws.AppendOwnNone
import Derived.Lib.SliceRun
namespace Go.Proofs.YtpdgalclnlbeaaaDoor
open Go.RowKit
set_option maxHeartbeats 400000 in
theorem within_c (n most : Int) (hn : I64 n) (h0 : 0 ≤ most) (h1 : most < 9223372036854775808) (w : World) :
    Calls Tryd.prog 17 #[.int .i64 n, .int .i64 most] w fun e w' => e = .returned (.bool (near n most)) ∧ w = w' := by
  obtain ⟨n1, n2⟩ := hn
  by_cases h : -most ≤ n
  · go_enter Tryd.func17, Tryd.ntmps17
    go_wp2
    go_ret
    exact ⟨ret_bool (by simp [near, h]), rfl⟩
  · have hd : decide (-most ≤ n) = false := by simpa using h
    go_enter Tryd.func17, Tryd.ntmps17
    go_wp2
    go_ret
    exact ⟨ret_bool (by simp [near, hd]), rfl⟩
set_option maxRecDepth 100000 in
set_option maxHeartbeats 1000000 in
theorem rfit_c (p : Par) (w : World) : Calls Tryd.prog 16 #[pval p] w fun e w' => e = .returned (.bool (fits p)) ∧ Below w.heap.size w w' := by
  go_enter Tryd.func16, Tryd.ntmps16
  go_wp2
  all_goals
    go_ret
    refine ⟨ret_bool ?_, (Below.refl _ _).alloc (Nat.le_refl _) _⟩
    simp [fits, *]
    try omega
theorem within_b (n most : Int) (b : Bool) (hn : I64 n) (h0 : 0 ≤ most) (h1 : most < 9223372036854775808) (hb : near n most = b) (w : World) :
    Calls Tryd.prog 17 #[.int .i64 n, .int .i64 most] w fun e w' => e = .returned (.bool b) ∧ Dr w w' := by
  refine (within_c n most hn h0 h1 w).mono ?_
  rintro e w' ⟨rfl, rfl⟩
  exact ⟨by rw [hb], Dr.refl _⟩
set_option maxRecDepth 100000 in
set_option maxHeartbeats 1000000 in
theorem rquery_c (p : Par) (A : Option Addr) (x : List Int) (c : Nat) (w : World) (hA : Cells w A (x.map (.int .i64))) (hl : x.length ≤ 9223372036854775807) (hu : I64s x) :
    Calls Tryd.prog 8 #[pval p, .slice A x.length c] w fun e w' => e = .returned (.int .i64 (queryE p x)) ∧ Below w.heap.size w w' := by
  go_enter Tryd.func8, Tryd.ntmps8
  go_wp2_with (fail)
  refine (rfit_c p _).mono ?_
  rintro e w1 ⟨rfl, hb1⟩
  have hb2 := below_next (below_alloc w (.cells (pcells p).toArray 24)) (by simp) hb1
  have hP : Row1 w1 w.heap.size 24 (pcells p) := (row1_new w (pcells p) 24).below hb1
  have hA1 := hA.below hb2
  clear hb1 hA
  have cD := hP.cell (k := 8) rfl
  have cX := hP.cell (k := 11) rfl
  cases hf : fits p with
  | false =>
    have HF := hid (show queryE p x = 4 by simp [queryE, hf])
    clear hf
    go_wp2
    go_ret
    exact ⟨ret_int HF.out.symm, hb2⟩
  | true =>
  have hF := hid ((fits_iff p).1 hf)
  cases hD : ((x.length : Int) != p.D) with
  | true =>
    have HF := hid (show queryE p x = 4 by simp [queryE, hf, hD])
    clear hf
    go_wp2
    go_ret
    exact ⟨ret_int HF.out.symm, hb2⟩
  | false =>
  have HQ := hid (show queryE p x = if nears x p.X = true then 0 else 20 by simp [queryE, hf, hD])
  have m0 : 0 ≤ p.X := hF.out.X0
  have m1 : p.X < 9223372036854775808 := by have := hF.out.X; omega
  clear hf
  go_wp2
  go_loopw [5] (fun i wr => ∃ k : Nat, i = .int .i64 k ∧ k ≤ x.length ∧ nears (x.take k) p.X = true ∧ Dr w1 wr) (fun i _ => x.length - (intOf i).toNat)
  case atStart => exact ⟨0, rfl, by omega, by simp [nears], Dr.refl _⟩
  case round =>
    obtain ⟨k, rfl, hk, hall, hw⟩ := hrel
    rename_i wr
    have HA := hid hall
    clear hall
    have cX' := (hP.dr hw).cell (k := 11) rfl
    by_cases hlt : k < x.length
    · obtain ⟨n, hx⟩ := get_of_lt hlt
      obtain ⟨b, off, rfl, hc⟩ := (hA1.dr hw).at_map hx
      have hun := hu.at_ hx
      cases hn : near n p.X with
      | true =>
        have HT := hid (nears_take hx HA.out hn)
        go_wp2
        go_quiet ((go_at_call 17; exact quiet_dr (within_b n p.X _ hun m0 m1 hn _)))
        go_wp2
        go_roundw
        case rel => exact ⟨k + 1, by go_num, by omega, HT.out, hw.more _⟩
        case measure => simp [intOf]; omega
      | false =>
        have HF := hid (nears_false hx hn)
        go_wp2
        go_quiet ((go_at_call 17; exact quiet_dr (within_b n p.X _ hun m0 m1 hn _)))
        go_wp2
        go_ret
        exact ⟨ret_int (by rw [HQ.out, HF.out]; rfl), below_dr hb2 (hw.more _)⟩
    · obtain rfl : k = x.length := by omega
      go_wp2
      go_ret
      have := HA.out
      rw [List.take_length] at this
      exact ⟨ret_int (by rw [HQ.out, this]; rfl), below_dr hb2 hw⟩
end Go.Proofs.YtpdgalclnlbeaaaDoor
