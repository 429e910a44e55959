/-
  PROVED HERE: FixedNums: the number of any whole number, and the whole number of any number, are the document's.
-/
import Derived.Test.YtnmadmcegdpecaaAwake07
import Derived.Test.YtnmadmcegdpecaaJoin
namespace Go.Proofs.Ytnmadmcegdpecaa
open Go.ChangeShapes Go.WideShapes Go.ChangeAt Go.RowKit

set_option maxRecDepth 100000 in
set_option maxHeartbeats 1000000 in
theorem fixedNums_c (n x q : Int) (hn : I64 n) (hx : U64 x) (hq : U64 q) (w : World) :
    Calls Try.prog 4 #[.int .i64 n, .int .u64 x, .int .u64 q] w fun e w' => e = .returned (.bool true) ∧ Below w.heap.size w w' := by
  go_enter Try.func4, Try.ntmps4
  go_wp2_with (first
    | (go_at_call 27; refine (num_c n q hn hq _).mono ?_; rintro e w1 ⟨rfl, h1⟩)
    | (go_at_call 28; refine (rnum_c n q hn hq _).mono ?_; rintro e w2 ⟨rfl, rfl⟩)
    | (go_at_call 29; refine (int_c x q hx hq _).mono ?_; rintro e w3 ⟨rfl, h3⟩)
    | (go_at_call 30; refine (rint_c x q hx hq _).mono ?_; rintro e w4 ⟨rfl, rfl⟩)
    | (go_at_call 31; refine (awake07_c _).mono ?_; rintro e w5 ⟨rfl, h5⟩))
  go_ret
  have hb := below_dr (below_of_dr (B := w.heap.size) h1) h3
  exact ⟨rfl, below_next hb hb.size h5⟩

set_option maxRecDepth 100000 in
theorem fixedNums_lifted (os : Os) (started : os.Started) (H : Type) (enc : TypeId × Value → H) :
    ReturnsInHanded {} Try.checked os 4 .any (Rows.fixedNumsSpec.pre6 enc Try.prog Try.f4 Rows.fixedNumsRow.domain false) (Rows.fixedNumsSpec.post enc Try.prog Try.f4 false true false false) := by
  refine returnsInHanded_of_change (C := Try.checked) Try.own started (by kernel_rfl) Try.func4
    (ChangeSpec.witness6 (enc := enc) (C := Try.checked) false ⟨#[], #[.int .i64 0, .int .u64 0, .int .u64 0], []⟩ 8 (by kernel_rfl) (by kernel_rfl) (by kernel_rfl) (by kernel_rfl)) ?_
  intro W base args ds gs before hval0 hW hcnd _
  have hval : ∀ (j : Nat) t v, Try.f4.params[j]? = some t → args[j]? = some v → Value.okWide Try.prog W .any base t v := hval0
  have hW' := hW
  obtain ⟨p, q, hA0, hV, rfl, hfz, hnd⟩ := hW
  have hA : DataW.TrodAll enc Try.prog W 0 (fun _ => true) true Try.f4.params.toList args.toList ds p := hA0
  rw [Try.params4] at hA hval
  obtain ⟨v0, v1, v2, d0, d1, d2, p0, p1, p2, rfl, rfl, rfl, h0, h1, h2⟩ := trodAll_three hA
  obtain ⟨rfl, rfl⟩ := trodVars_none hV
  obtain ⟨a, rfl, rfl, rfl, w0⟩ := open_int Try.underlying2 (hval 0 2 v0 rfl rfl) h0
  obtain ⟨b, rfl, rfl, rfl, w1⟩ := open_int Try.underlying23 (hval 1 23 v1 rfl rfl) h1
  obtain ⟨c, rfl, rfl, rfl, w2⟩ := open_int Try.underlying23 (hval 2 23 v2 rfl rfl) h2
  clear hA0 hval0
  simp only [List.append_nil] at hW'
  refine (fixedNums_c a b c (i64_of w0) (u64_of w1) (u64_of w2) W).mono fun e W' ⟨he, hb⟩ => ?_
  subst he
  exact ⟨_, rfl, post_below (pa := []) (pv := []) hW' hb rfl (fun _ _ _ => trodAll_mk1 (shut_bool Try.underlying4 _)) (fun sp _ => trodAll_mk3 (shut_int Try.underlying2 w0) (shut_int Try.underlying23 w1) (shut_int Try.underlying23 w2)) (fun _ _ => rfl)⟩

theorem fixedNums_holds : Rows.FixedNumsSaid :=
  OpenClaim.holds_of_wide 4 Try.f4 rfl rfl rfl rfl rfl rfl rfl ⟨rfl, rfl, rfl, rfl, rfl⟩ rfl rfl rfl rfl rfl (by kernel_rfl) Try.func4 (by kernel_rfl)
    (of_decide_eq_true (by kernel_rfl)) (by unfold Func.isWrapper; first | (rw [if_pos (by decide +kernel)]; kernel_rfl) | (rw [if_neg (by decide +kernel)]; exact ⟨rfl, rfl⟩))
    (fun os started H enc _ => fixedNums_lifted os started H enc)
#print axioms fixedNums_holds

end Go.Proofs.Ytnmadmcegdpecaa
