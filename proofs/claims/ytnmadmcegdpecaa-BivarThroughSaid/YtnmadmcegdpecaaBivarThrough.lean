/-
  PROVED HERE: BivarThrough: through whatever rows, at whatever places, modulo whatever number, the polynomial of two, or how it is refused, is the document's.
-/
import Derived.Test.YtnmadmcegdpecaaBivThC
namespace Go.Proofs.Ytnmadmcegdpecaa
open Go.ChangeShapes Go.WideShapes Go.ChangeAt Go.RowKit

set_option maxRecDepth 100000 in
theorem bivarThrough_lifted (os : Os) (started : os.Started) (H : Type) (enc : TypeId × Value → H) :
    ReturnsInHanded {} Try.checked os 14 .any (Rows.bivarThroughSpec.pre6 enc Try.prog Try.f14 Rows.bivarThroughRow.domain false) (Rows.bivarThroughSpec.post enc Try.prog Try.f14 false true false false) := by
  refine returnsInHanded_of_change (C := Try.checked) Try.own started (by kernel_rfl) Try.func14
    (ChangeSpec.witness6 (enc := enc) (C := Try.checked) false ⟨#[], #[.slice none 0 0, .slice none 0 0, .int .u64 0], []⟩ 8 (by kernel_rfl) (by kernel_rfl) (by kernel_rfl) (by kernel_rfl)) ?_
  intro W base args ds gs before hval0 hW hcnd _
  have hval : ∀ (j : Nat) t v, Try.f14.params[j]? = some t → args[j]? = some v → Value.okWide Try.prog W .any base t v := hval0
  have hW' := hW
  obtain ⟨p, q, hA0, hV, rfl, hfz, hnd⟩ := hW
  have hA : DataW.TrodAll enc Try.prog W 0 (fun _ => true) true Try.f14.params.toList args.toList ds p := hA0
  rw [Try.params14] at hA hval
  obtain ⟨v0, v1, v2, d0, d1, d2, p0, p1, p2, rfl, rfl, rfl, h0, h1, h2⟩ := trodAll_three hA
  obtain ⟨rfl, rfl⟩ := trodVars_none hV
  obtain ⟨_, k0⟩ := one_of Try.underlying26 (hval 0 26 v0 rfl rfl) h0
  obtain ⟨A, a, c, rfl, gA, gl, gu⟩ := words_at k0
  obtain ⟨_, k1⟩ := one_of Try.underlying22 (hval 1 22 v1 rfl rfl) h1
  obtain ⟨B, f, d, rfl, hl, hw, vs, hc, hvl, hrow⟩ := rows_at Try.underlying22 Try.underlying26 Try.underlying23 (by kernel_rfl) (by kernel_rfl) k1
  obtain ⟨z, rfl, _, _, wz⟩ := open_int Try.underlying23 (hval 2 23 v2 rfl rfl) h2
  clear hA0 hval0
  refine (bivarThrough_c A B a f c d z W gA ⟨vs, hc, hvl, hrow⟩ gl hl gu (fun l hl z hz => u64_of (hw l hl z hz)) (u64_of wz)).mono fun e W' ⟨he, hb⟩ => ?_
  subst he
  exact ⟨_, rfl, post_true hW' hb Try.laidOut (by kernel_rfl) rfl rfl rfl rfl rfl Try.underlying4⟩

theorem bivarThrough_holds : Rows.BivarThroughSaid :=
  OpenClaim.holds_of_wide 14 Try.f14 rfl rfl rfl rfl rfl rfl rfl ⟨rfl, rfl, rfl, rfl, rfl⟩ rfl rfl rfl rfl rfl (by kernel_rfl) Try.func14 (by kernel_rfl)
    (of_decide_eq_true (by kernel_rfl)) (by unfold Func.isWrapper; first | (rw [if_pos (by decide +kernel)]; kernel_rfl) | (rw [if_neg (by decide +kernel)]; exact ⟨rfl, rfl⟩))
    (fun os started H enc _ => bivarThrough_lifted os started H enc)
#print axioms bivarThrough_holds

end Go.Proofs.Ytnmadmcegdpecaa
