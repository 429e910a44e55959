/-
  A query is put: the document's.
-/
import Derived.Test.YtlbhmoiicbhgkaaDoorAdmQ1
import Derived.Test.YtlbhmoiicbhgkaaDoorAdmQ2
import Derived.Test.YtlbhmoiicbhgkaaDoorAdmQ3
import Derived.Test.YtlbhmoiicbhgkaaDoorAdmQ4
import Derived.Test.YtlbhmoiicbhgkaaDoorAdmQ5
import Derived.Test.YtlbhmoiicbhgkaaDoorAdmQ6
import Derived.Test.YtlbhmoiicbhgkaaDoorAdmQ7
import Derived.Test.YtlbhmoiicbhgkaaDoorAdmQ8
import Derived.Test.YtlbhmoiicbhgkaaDoorAsB
namespace Go.Proofs.YtlbhmoiicbhgkaaDoor
open Go Go.RowKit Go.Maps Go.Shelf Go.Proofs

attribute [local go_sem] Oper.semAt_some

set_option maxRecDepth 100000 in
set_option maxHeartbeats 2000000 in
theorem rput21_c (p : Par) (hp : p.ok) (A : Option Addr) (l : List Ask) (c : Nat) (id : Int) (A2 : Option Addr) (x : List Int) (c2 : Nat) (w : World) (hA : Asks w A l) (hl : AskOk l) (hid1 : I64 id) (hA2 : Cells w A2 (x.map (.int .i64))) (hx : x.length ≤ 1000000) (hxu : I64s x) :
    Calls Tryd.prog 29 #[pval p, .slice A l.length c, .int .i64 id, .slice A2 x.length c2] w (PutR p l id x w) := by
  have hb0 := below_alloc w (.cells (pcells p).toArray 33)
  have hP := row1_new w (pcells p) 33
  have hA1 := hA.below hb0
  have hA21 := hA2.below hb0
  have hlf := hl.few
  have HL := hid hl
  have HQ := hid (rquery21_c p hp A l c id A2 x c2 _ hA1 hl hid1 hA21 hx hxu)
  unfold PutR
  obtain ⟨R, hR⟩ : ∃ R, queryP p l id x = R := ⟨_, rfl⟩
  rw [hR] at HQ ⊢
  clear hA hA2 hl hp hR
  go_enter Tryd.func29, Tryd.ntmps29
  change Row1 (w.alloc (.cells #[.int .u64 p.P, .int .u64 p.Q, .int .u64 p.G, .int .u64 p.H, .int .i64 p.Nodes, .int .i64 p.N, .int .i64 p.T, .int .i64 p.K, .int .i64 p.D, .int .i64 p.R, .int .i64 p.M, .int .i64 p.X] 33)) _ _ _ at hP
  obtain ⟨p0, p1, p2, p3, p4, p5, p6, p7, p8, p9, p10, p11⟩ := par_cells hP
  go_wp2_with (fail)
  refine HQ.out.mono ?_
  rintro e w2 ⟨rfl, hb2⟩
  have HB := hid (⟨hA1.below hb2, hA21.below hb2, below_next hb0 hb0.size hb2⟩ : _ ∧ _ ∧ _)
  clear p0 p1 p2 p3 p4 p5 p6 p7 p8 p9 p10 p11 hP hA1 hA21 hb0 hb2 HQ
  by_cases h0 : R = 0
  case neg =>
    have h0' : (R != 0) = true := by simpa using h0
    have HN := hid h0
    clear h0
    go_wp2
    go_ret2
    exact ⟨_, rfl, fun h => absurd h HN.out, fun _ => rfl, HB.out.2.2⟩
  subst h0
  go_wp2_with (fail)
  refine (rcopy21_c A l c w2 HB.out.1 HL.out).mono ?_
  rintro e w3 ⟨v3, rfl, ho3, hb3⟩
  have HO := hid (⟨ho3, hb3, HB.out.2.1.below hb3⟩ : _ ∧ _ ∧ _)
  have hb1 := below_alloc w3 (.cells #[] 2)
  have ho1 := own_zero (row1_new w3 [] 2) (Nat.le_refl _)
  simp only [List.toArray] at ho1
  clear ho3 hb3
  go_wp2_with (first
    | (at_builtin; refine wpList_more elt_i64 (w3.alloc (.cells #[] 2)) (by rfl) _ _ rfl w3.heap.size ho1 rfl (HO.out.2.2.below hb1) (by rw [List.length_map]; rfl) (i64_ones _) (by simp; omega) (by simp; omega) hb1.size ?_; intro v4 w4 ho4 hb4; replace hb4 := hb1.trans hb4; clear hb1 ho1; rw [List.nil_append] at ho4; obtain ⟨A4, c4, e4, _⟩ := ho4.form; rw [List.length_map] at e4; subst e4)
    | (at_builtin; refine wpList_pushA (w4.alloc (.cells #[.int .i64 id, .slice A4 x.length c4] 41)) rfl _ _ rfl w2.heap.size rfl ((HO.out.1.below hb4).below (below_alloc w4 _)) (k := ⟨id, x⟩) rfl (row1_new w4 [.int .i64 id, .slice A4 x.length c4] 41) (ho4.rowT.below (below_alloc w4 _)) (by omega) (Nat.le_trans HO.out.2.1.size (Nat.le_trans hb4.size (below_alloc w4 _).size)) ?_; intro v5 w5 ho5 hg5 hb5)
    | fail)
  go_ret2
  exact ⟨_, rfl, ho5.from_ HB.out.2.2.size, below_next HB.out.2.2 HB.out.2.2.size (((HO.out.2.1.trans (hb4.mono HO.out.2.1.size)).trans ((below_alloc w4 (.cells #[.int .i64 id, .slice A4 x.length c4] 41)).mono (Nat.le_trans HO.out.2.1.size hb4.size))).trans hb5)⟩
end Go.Proofs.YtlbhmoiicbhgkaaDoor
