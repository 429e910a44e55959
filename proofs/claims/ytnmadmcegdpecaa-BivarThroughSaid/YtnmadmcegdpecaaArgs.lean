/-
  Params, models and rows of whole numbers, as arguments.
-/
import Derived.Test.YtnmadmcegdpecaaOpen
import Derived.Test.YtnmadmcegdpecaaFixD
namespace Go.Proofs.Ytnmadmcegdpecaa
open Go.ChangeShapes Go.WideShapes Go.ChangeAt Go.RowKit Go.Deep

section
variable {H : Type} {enc : TypeId × Value → H}

set_option maxRecDepth 100000 in
theorem trod_int_of {w : World} {base : Nat} {spare : Nat → Bool} {held : Bool} {t : TypeId} {k : IntKind} {fuel : Nat} {c : Value} {x : DataW H × List MemPlace} (ht : Try.prog.underlying t = some (.int k)) (h : DataW.trod enc Try.prog w base spare held fuel t [c] = some x) :
    ∃ z, c = .int k z ∧ (Lit.int k z).wf = true := by
  cases fuel with
  | zero => simp [DataW.trod] at h
  | succ n =>
    unfold DataW.trod at h
    rw [ht] at h
    cases c <;> simp at h
    rename_i k' z
    obtain ⟨⟨rfl, h2⟩, _⟩ := h
    exact ⟨z, rfl, h2⟩

set_option maxRecDepth 100000 in
theorem par_at {r : Reach} {b0 : Nat} {v : Value} {d : DataW H} {p : List MemPlace} {w : World} {base : Nat} {spare : Nat → Bool} {held : Bool} (hv : Value.okWide Try.prog w r b0 40 v) (h : DataW.Trod enc Try.prog w base spare held 40 v d p) :
    ∃ q : Par, v = pval q ∧ q.ok := by
  obtain ⟨cs, n, rfl, hlen, hf⟩ := fields_at Try.underlying40 (by kernel_rfl) (by kernel_rfl) hv h
  match cs, hlen with
  | [c0, c1, c2, c3, c4, c5, c6, c7, c8, c9, c10, c11], _ =>
    obtain ⟨_, g0⟩ := hf 0 _ c0 rfl rfl
    obtain ⟨_, g1⟩ := hf 1 _ c1 rfl rfl
    obtain ⟨_, g2⟩ := hf 2 _ c2 rfl rfl
    obtain ⟨_, g3⟩ := hf 3 _ c3 rfl rfl
    obtain ⟨_, g4⟩ := hf 4 _ c4 rfl rfl
    obtain ⟨_, g5⟩ := hf 5 _ c5 rfl rfl
    obtain ⟨_, g6⟩ := hf 6 _ c6 rfl rfl
    obtain ⟨_, g7⟩ := hf 7 _ c7 rfl rfl
    obtain ⟨_, g8⟩ := hf 8 _ c8 rfl rfl
    obtain ⟨_, g9⟩ := hf 9 _ c9 rfl rfl
    obtain ⟨_, g10⟩ := hf 10 _ c10 rfl rfl
    obtain ⟨_, g11⟩ := hf 11 _ c11 rfl rfl
    obtain ⟨z0, rfl, w0⟩ := trod_int_of Try.underlying23 g0
    obtain ⟨z1, rfl, w1⟩ := trod_int_of Try.underlying23 g1
    obtain ⟨z2, rfl, w2⟩ := trod_int_of Try.underlying23 g2
    obtain ⟨z3, rfl, w3⟩ := trod_int_of Try.underlying23 g3
    obtain ⟨z4, rfl, w4⟩ := trod_int_of Try.underlying3 g4
    obtain ⟨z5, rfl, w5⟩ := trod_int_of Try.underlying3 g5
    obtain ⟨z6, rfl, w6⟩ := trod_int_of Try.underlying3 g6
    obtain ⟨z7, rfl, w7⟩ := trod_int_of Try.underlying3 g7
    obtain ⟨z8, rfl, w8⟩ := trod_int_of Try.underlying3 g8
    obtain ⟨z9, rfl, w9⟩ := trod_int_of Try.underlying3 g9
    obtain ⟨z10, rfl, w10⟩ := trod_int_of Try.underlying2 g10
    obtain ⟨z11, rfl, w11⟩ := trod_int_of Try.underlying2 g11
    exact ⟨⟨z0, z1, z2, z3, z4, z5, z6, z7, z8, z9, z10, z11⟩, rfl, ⟨u64_of w0, u64_of w1, u64_of w2, u64_of w3, i64_of w4, i64_of w5, i64_of w6, i64_of w7, i64_of w8, i64_of w9, i64_of w10, i64_of w11⟩⟩

set_option maxRecDepth 100000 in
theorem ints_at {fuel : Nat} {v : Value} {x : DataW H × List MemPlace} {w : World} (h : DataW.trod enc Try.prog w 0 (fun _ => true) true fuel 42 [v] = some x) :
    ∃ (A : Option Addr) (l : List Int) (c : Nat), v = .slice A l.length c ∧ Cells w A (l.map (.int .i64)) ∧ l.length ≤ 9223372036854775807 ∧ I64s l := by
  obtain ⟨A, l, c, h1, h2, h3, h4⟩ := nums_at Try.underlying42 Try.underlying2 (by kernel_rfl) h
  exact ⟨A, l, c, h1, h2, h3, fun z hz => i64_of (h4 z hz)⟩
set_option maxRecDepth 100000 in
theorem words_at {fuel : Nat} {v : Value} {x : DataW H × List MemPlace} {w : World} (h : DataW.trod enc Try.prog w 0 (fun _ => true) true fuel 26 [v] = some x) :
    ∃ (A : Option Addr) (l : List Int) (c : Nat), v = .slice A l.length c ∧ Cells w A (l.map (.int .u64)) ∧ l.length ≤ 9223372036854775807 ∧ U64s l := by
  obtain ⟨A, l, c, h1, h2, h3, h4⟩ := nums_at Try.underlying26 Try.underlying23 (by kernel_rfl) h
  exact ⟨A, l, c, h1, h2, h3, fun z hz => u64_of (h4 z hz)⟩

set_option maxRecDepth 100000 in
/-- a value of one cell. -/
theorem one_of {w : World} {base : Nat} {spare : Nat → Bool} {held : Bool} {t : TypeId} {v : Value} {d : DataW H} {p : List MemPlace} {r : Reach} {b0 : Nat} {e : TypeId} (ht : Try.prog.underlying t = some (.slice e)) (hv : Value.okWide Try.prog w r b0 t v) (h : DataW.Trod enc Try.prog w base spare held t v d p) :
    ∃ fuel, DataW.trod enc Try.prog w base spare held fuel t [v] = some (d, p) := by
  obtain ⟨fuel, hf⟩ := h
  obtain ⟨a, n, c, rfl⟩ := okWide_slice ht hv
  exact ⟨fuel, hf⟩

set_option maxRecDepth 100000 in
theorem model_at {r : Reach} {b0 : Nat} {v : Value} {d : DataW H} {p : List MemPlace} {w : World} (hv : Value.okWide Try.prog w r b0 44 v) (h : DataW.Trod enc Try.prog w 0 (fun _ => true) true 44 v d p) :
    ∃ (A : Option Addr) (W : List (List Int)) (c : Nat) (B : Option Addr) (b : List Int) (e : Nat), v = mval A W.length c B b.length e ∧ GridI w A W ∧ Cells w B (b.map (.int .i64)) ∧ W.length ≤ 9223372036854775807 ∧ b.length ≤ 9223372036854775807 ∧ Ints W ∧ I64s b := by
  obtain ⟨cs, n, rfl, hlen, hf⟩ := fields_at Try.underlying44 (by kernel_rfl) (by kernel_rfl) hv h
  match cs, hlen with
  | [c0, c1], _ =>
    obtain ⟨_, g0⟩ := hf 0 _ c0 rfl rfl
    obtain ⟨_, g1⟩ := hf 1 _ c1 rfl rfl
    obtain ⟨A, W, c, rfl, hl, hw, vs, hc, hvl, hrow⟩ := rows_at Try.underlying41 Try.underlying42 Try.underlying2 (by kernel_rfl) (by kernel_rfl) g0
    obtain ⟨B, b, e, rfl, hB, hl', hu'⟩ := ints_at g1
    exact ⟨A, W, c, B, b, e, rfl, ⟨vs, hc, hvl, hrow⟩, hB, hl, hl', fun l hl z hz => i64_of (hw l hl z hz), hu'⟩

end
end Go.Proofs.Ytnmadmcegdpecaa
