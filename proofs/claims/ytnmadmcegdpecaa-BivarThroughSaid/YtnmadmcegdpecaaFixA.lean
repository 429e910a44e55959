/-
  Params; whether they fit; whether whole numbers are near to 0.
-/
import Derived.Test.YtnmadmcegdpecaaOwn
import Derived.Test.YtnmadmcegdpecaaRegion
import Derived.StillTailTactics
namespace Go.Proofs.Ytnmadmcegdpecaa
open Go.RowKit

/-- the params, as numbers. -/
structure Par where
  (P Q G H Nodes N T K D R M X : Int)
structure Par.ok (p : Par) : Prop where
  P : U64 p.P
  Q : U64 p.Q
  G : U64 p.G
  H : U64 p.H
  Nodes : I64 p.Nodes
  N : I64 p.N
  T : I64 p.T
  K : I64 p.K
  D : I64 p.D
  R : I64 p.R
  M : I64 p.M
  X : I64 p.X
abbrev pval (p : Par) : Value := .agg #[.int .u64 p.P, .int .u64 p.Q, .int .u64 p.G, .int .u64 p.H, .int .i64 p.Nodes, .int .i64 p.N, .int .i64 p.T, .int .i64 p.K, .int .i64 p.D, .int .i64 p.R, .int .i64 p.M, .int .i64 p.X]
def parSome : Par := ⟨0, 101, 0, 0, 0, 0, 0, 2, 1, 0, 3, 2⟩
theorem parSome_ok : parSome.ok := by constructor <;> exact ⟨by decide, by decide⟩

/-- do they fit? -/
def fits (p : Par) : Bool := decide (p.K ≥ 0) && (decide (p.K ≤ 2) && (decide (p.D ≥ 0) && (decide (p.D ≤ 4) && (decide (p.M ≥ 0) && (decide (p.M ≤ 1048576) && (decide (p.X ≥ 0) && decide (p.X ≤ 1048576)))))))
structure Fits (p : Par) : Prop where
  K0 : 0 ≤ p.K
  K : p.K ≤ 2
  D0 : 0 ≤ p.D
  D : p.D ≤ 4
  M0 : 0 ≤ p.M
  M : p.M ≤ 1048576
  X0 : 0 ≤ p.X
  X : p.X ≤ 1048576
theorem fits_iff (p : Par) : fits p = true ↔ Fits p := by
  constructor
  · intro h
    simp only [fits, Bool.and_eq_true, decide_eq_true_eq] at h
    obtain ⟨a, b, c, d, e, f, g, i⟩ := h
    exact ⟨a, b, c, d, e, f, g, i⟩
  · intro h
    simp only [fits, Bool.and_eq_true, decide_eq_true_eq]
    exact ⟨h.K0, h.K, h.D0, h.D, h.M0, h.M, h.X0, h.X⟩

set_option maxHeartbeats 400000 in
theorem some_c (w : World) : Calls Try.prog 42 #[] w fun e w' => e = .returned (pval parSome) ∧ Below w.heap.size w w' := by
  go_enter Try.func42, Try.ntmps42
  go_wp2
  refine bodyPost_ret (v := pval parSome) (by simp [results, Try.f42, go_sem, parSome]) rfl ⟨rfl, ?_⟩
  exact (Below.refl _ _).alloc (Nat.le_refl _) _

set_option maxHeartbeats 1000000 in
theorem fit_c (p : Par) (w : World) : Calls Try.prog 86 #[pval p] w fun e w' => e = .returned (.bool (fits p)) ∧ Below w.heap.size w w' := by
  go_enter Try.func86, Try.ntmps86
  go_wp2
  all_goals
    go_ret
    refine ⟨ret_bool ?_, (Below.refl _ _).alloc (Nat.le_refl _) _⟩
    simp [fits, *]
    try omega


end Go.Proofs.Ytnmadmcegdpecaa
