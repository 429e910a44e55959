/-
  The tally's map: its keys.
-/
import Derived.Test.YtnngnekfgijejaaTalA
import Derived.Maps.Own
import Derived.DeepKeys4
namespace Go.Proofs.Ytnngnekfgijejaa
open Go.RowKit

theorem laidOut : laidOutB Try.prog = true := by kernel_rfl
theorem place_law : WideMaps.KeyLaw Try.prog 70 := deep_law_laid laidOut (m := 2) (by omega) (of_decide_eq_true (by kernel_rfl)) (by kernel_rfl) (by rw [Try.underlying70])
theorem place_keyed : Maps.Keyed Try.prog 70 := Maps.Keyed.of_law place_law
theorem keyLits_struct {P : Program} {d : Nat} {t : TypeId} {fs : Array Field} {cs : List Value} (h : P.underlying t = some (.struct fs)) :
    P.keyLits (d + 1) t cs = if cs.length = P.cellsOf t ∧ fs.all (·.name != "_") = true then (fs.toList.mapM fun f => P.keyLits d f.type ((cs.drop f.offset).take (P.cellsOf f.type))).map List.flatten else none := by
  simp only [Program.keyLits, h]
abbrev pval (r f k : Int) : Value := .agg #[.int .i64 r, .int .i64 f, .int .u8 k]
theorem wf_i64 {x : Int} (h : I64 x) : (Lit.int .i64 x).wf = true := by
  have h1 : IntKind.i64.min = -9223372036854775808 := by kernel_rfl
  have h2 : IntKind.i64.max = 9223372036854775807 := by kernel_rfl
  obtain ⟨_, _⟩ := h
  simp only [Lit.wf, h1, h2, Bool.and_eq_true, decide_eq_true_eq]; omega
theorem wf_u8 {x : Int} (h : 0 ≤ x ∧ x < 256) : (Lit.int .u8 x).wf = true := by
  have h1 : IntKind.u8.min = 0 := by kernel_rfl
  have h2 : IntKind.u8.max = 255 := by kernel_rfl
  simp only [Lit.wf, h1, h2, Bool.and_eq_true, decide_eq_true_eq]; omega
theorem place_key (r f k : Int) (hr : I64 r) (hf : I64 f) (hk : 0 ≤ k ∧ k < 256) : ∃ l, keyOf Try.prog 70 (pval r f k) = some l := by
  have h1 := wf_i64 hr
  have h2 := wf_i64 hf
  have h3 := wf_u8 hk
  have hk : Try.prog.keyType 70 = true := by kernel_rfl
  obtain ⟨m, hm⟩ : ∃ m, Try.prog.types.size = m + 1 := Nat.exists_eq_succ_of_ne_zero (of_decide_eq_true (by kernel_rfl))
  have c1 : Try.prog.cellsOf 70 = 3 := by kernel_rfl
  have c2 : Try.prog.cellsOf 3 = 1 := by kernel_rfl
  have c3 : Try.prog.cellsOf 5 = 1 := by kernel_rfl
  have L1 : ∀ (d : Nat) (x : Int), (Lit.int .i64 x).wf = true → Try.prog.keyLits (d + 1) 3 [.int .i64 x] = some [.int .i64 x] := by
    intro d x hx
    simp only [Program.keyLits, Try.underlying3]
    rw [if_pos ⟨trivial, hx⟩]
  have L2 : ∀ (d : Nat) (x : Int), (Lit.int .u8 x).wf = true → Try.prog.keyLits (d + 1) 5 [.int .u8 x] = some [.int .u8 x] := by
    intro d x hx
    simp only [Program.keyLits, Try.underlying5]
    rw [if_pos ⟨trivial, hx⟩]
  have L : ∀ d : Nat, Try.prog.keyLits (d + 2) 70 [.int .i64 r, .int .i64 f, .int .u8 k] = some [.int .i64 r, .int .i64 f, .int .u8 k] := by
    intro d
    rw [show d + 2 = (d + 1) + 1 from rfl, keyLits_struct Try.underlying70]
    simp [c1, c2, c3, L1 d _ h1, L1 d _ h2, L2 d _ h3]
  rw [keyOf, Try.underlying70]
  simp only [hk, Value.formed, Try.underlying70, c1, hm, Value.cells, L m]
  exact ⟨_, rfl⟩
end Go.Proofs.Ytnngnekfgijejaa
