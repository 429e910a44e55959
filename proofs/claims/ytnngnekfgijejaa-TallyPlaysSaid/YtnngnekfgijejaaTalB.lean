/-
  Whether a vote may be: the reference's walk.
-/
import Derived.Test.YtnngnekfgijejaaTalA
namespace Go.Proofs.Ytnngnekfgijejaa
open Go.RowKit

theorem ge_100 (x : Int) : decide (x ≥ 100) = decide (x > 99) := by rw [decide_eq_decide]; omega

set_option maxHeartbeats 2000000 in
theorem rmay_c (v : Vt) (n : Int) (w : World) (hv : v.Ok) (hn : I64 n) :
    Calls Try.prog 43 #[vval v, .int .i64 n] w fun e w' => e = .returned (.bool (mayV v n)) ∧ Below w.heap.size w w' := by
  obtain ⟨⟨f1, f2⟩, ⟨r1, r2⟩, ⟨k1, k2⟩, ⟨a1, a2⟩, ht⟩ := hv
  obtain ⟨n1, n2⟩ := hn
  have HM := hid (rfl : mayV v n = mayV v n)
  cases h1 : decide (v.fr < 1) <;> cases h2 : decide (v.fr > n) <;> cases h3 : decide (v.rd < 0) <;> cases h4 : decide (v.rd > 99) <;> cases h5 : decide ((v.tx.size : Int) > 2048)
  case false.false.false.false.false =>
    have he : mayE v n = false := by simp only [mayE, ge_100, h1, h2, h3, h4, h5]; rfl
    have HE := hid (show mayV v n = mayK v by simp [mayV, he])
    clear he HM
    by_cases q2 : v.kd = 2
    · obtain ⟨fr, rd, kd, va, tx⟩ := v
      simp only at *
      subst q2
      cases g1 : tx.toList.isEmpty <;> cases g2 : decide (va ≥ -1) <;> cases g3 : decide (va < rd)
      all_goals
        have HK := hid (show mayK ⟨fr, rd, 2, va, tx⟩ = _ by simp only [mayK, g1, g2, g3, if_true]; rfl)
        go_enter Try.func43, Try.ntmps43
        go_wp2
        go_ret
        exact ⟨ret_bool (HE.out.trans HK.out).symm, below_alloc _ _⟩
    · obtain ⟨fr, rd, kd, va, tx⟩ := v
      simp only at *
      by_cases q3 : kd = 3
      · subst q3
        cases g1 : va == 0
        all_goals
          have HK := hid (show mayK ⟨fr, rd, 3, va, tx⟩ = (va == 0) by simp [mayK])
          rw [g1] at HK
          go_enter Try.func43, Try.ntmps43
          go_wp2
          go_ret
          exact ⟨ret_bool (HE.out.trans HK.out).symm, below_alloc _ _⟩
      · by_cases q4 : kd = 4
        · subst q4
          cases g1 : va == 0
          all_goals
            have HK := hid (show mayK ⟨fr, rd, 4, va, tx⟩ = (va == 0) by simp [mayK])
            rw [g1] at HK
            go_enter Try.func43, Try.ntmps43
            go_wp2
            go_ret
            exact ⟨ret_bool (HE.out.trans HK.out).symm, below_alloc _ _⟩
        · have HK := hid (show mayK ⟨fr, rd, kd, va, tx⟩ = false by simp [mayK, q2, q3, q4])
          have e2 : (kd == 2) = false := by simp [q2]
          have e3 : (kd == 3) = false := by simp [q3]
          have e4 : (kd == 4) = false := by simp [q4]
          clear q2 q3 q4
          go_enter Try.func43, Try.ntmps43
          go_wp2
          go_ret
          exact ⟨ret_bool (HE.out.trans HK.out).symm, below_alloc _ _⟩
  all_goals
    have he : mayE v n = true := by simp only [mayE, ge_100, h1, h2, h3, h4, h5]; rfl
    have HE := hid (show mayV v n = false by simp [mayV, he])
    clear he HM
    go_enter Try.func43, Try.ntmps43
    go_wp2
    go_ret
    exact ⟨ret_bool HE.out.symm, below_alloc _ _⟩
end Go.Proofs.Ytnngnekfgijejaa
