/-
  The reference's: do params fit; may a query be.
-/
import Derived.Test.YtnmadmcegdpecaaFixM
namespace Go.Proofs.Ytnmadmcegdpecaa
open Go.RowKit

set_option maxRecDepth 100000 in
set_option maxHeartbeats 1000000 in
theorem rfit_c (p : Par) (w : World) : Calls Try.prog 92 #[pval p] w fun e w' => e = .returned (.bool (fits p)) ∧ Below w.heap.size w w' := by
  go_enter Try.func92, Try.ntmps92
  go_wp2
  all_goals
    go_ret
    refine ⟨ret_bool ?_, (Below.refl _ _).alloc (Nat.le_refl _) _⟩
    simp [fits, *]
    try omega

theorem within_b (n most : Int) (b : Bool) (hn : I64 n) (h0 : 0 ≤ most) (h1 : most < 9223372036854775808) (hb : near n most = b) (w : World) :
    Calls Try.prog 93 #[.int .i64 n, .int .i64 most] w fun e w' => e = .returned (.bool b) ∧ Dr w w' := by
  refine (within_c n most hn h0 h1 w).mono ?_
  rintro e w' ⟨rfl, rfl⟩
  exact ⟨by rw [hb], Dr.refl _⟩

set_option maxRecDepth 100000 in
set_option maxHeartbeats 1000000 in
theorem rquery_c (p : Par) (A : Option Addr) (x : List Int) (c : Nat) (w : World) (hA : Cells w A (x.map (.int .i64))) (hl : x.length ≤ 9223372036854775807) (hu : I64s x) :
    Calls Try.prog 40 #[pval p, .slice A x.length c] w fun e w' => e = .returned (.int .i64 (queryE p x)) ∧ Below w.heap.size w w' := by
  go_enter Try.func40, Try.ntmps40
  go_wp2_with (fail)
  refine (rfit_c p _).mono ?_
  rintro e w1 ⟨rfl, hb1⟩
  have hb2 := below_next (below_alloc w (.cells (pcells p).toArray 40)) (by simp) hb1
  have hP : Row1 w1 w.heap.size 40 (pcells p) := (row1_new w (pcells p) 40).below hb1
  have hA1 := hA.below hb2
  clear hb1 hA
  have cD := hP.cell (k := 8) rfl
  have cX := hP.cell (k := 11) rfl
  cases hf : fits p with
  | false =>
    have HF := hid (show queryE p x = 4 by simp [queryE, hf])
    clear hf
    go_wp2
    go_ret
    exact ⟨ret_int HF.out.symm, hb2⟩
  | true =>
  have hF := hid ((fits_iff p).1 hf)
  cases hD : ((x.length : Int) != p.D) with
  | true =>
    have HF := hid (show queryE p x = 4 by simp [queryE, hf, hD])
    clear hf
    go_wp2
    go_ret
    exact ⟨ret_int HF.out.symm, hb2⟩
  | false =>
  have HQ := hid (show queryE p x = if nears x p.X = true then 0 else 20 by simp [queryE, hf, hD])
  have m0 : 0 ≤ p.X := hF.out.X0
  have m1 : p.X < 9223372036854775808 := by have := hF.out.X; omega
  clear hf
  go_wp2
  go_loopw [5] (fun i wr => ∃ k : Nat, i = .int .i64 k ∧ k ≤ x.length ∧ nears (x.take k) p.X = true ∧ Dr w1 wr) (fun i _ => x.length - (intOf i).toNat)
  case atStart => exact ⟨0, rfl, by omega, by simp [nears], Dr.refl _⟩
  case round =>
    obtain ⟨k, rfl, hk, hall, hw⟩ := hrel
    rename_i wr
    have HA := hid hall
    clear hall
    have cX' := (hP.dr hw).cell (k := 11) rfl
    by_cases hlt : k < x.length
    · obtain ⟨n, hx⟩ := get_of_lt hlt
      obtain ⟨b, off, rfl, hc⟩ := (hA1.dr hw).at_map hx
      have hun := hu.at_ hx
      cases hn : near n p.X with
      | true =>
        have HT := hid (nears_take hx HA.out hn)
        go_wp2
        go_quiet ((go_at_call 93; exact quiet_dr (within_b n p.X _ hun m0 m1 hn _)))
        go_wp2
        go_roundw
        case rel => exact ⟨k + 1, by go_num, by omega, HT.out, hw.more _⟩
        case measure => simp [intOf]; omega
      | false =>
        have HF := hid (nears_false hx hn)
        go_wp2
        go_quiet ((go_at_call 93; exact quiet_dr (within_b n p.X _ hun m0 m1 hn _)))
        go_wp2
        go_ret
        exact ⟨ret_int (by rw [HQ.out, HF.out]; rfl), below_dr hb2 (hw.more _)⟩
    · obtain rfl : k = x.length := by omega
      go_wp2
      go_ret
      have := HA.out
      rw [List.take_length] at this
      exact ⟨ret_int (by rw [HQ.out, this]; rfl), below_dr hb2 hw⟩

end Go.Proofs.Ytnmadmcegdpecaa
