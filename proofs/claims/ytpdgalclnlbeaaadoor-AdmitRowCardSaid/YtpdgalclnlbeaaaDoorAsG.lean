/-
  A prime: what statements on admitted queries ask first.
-/
import Derived.Test.YtpdgalclnlbeaaaDoorAdmQ1
import Derived.Test.YtpdgalclnlbeaaaDoorAdmQ2
import Derived.Test.YtpdgalclnlbeaaaDoorAdmQ3
import Derived.Test.YtpdgalclnlbeaaaDoorAdmQ4
import Derived.Test.YtpdgalclnlbeaaaDoorAdmQ5
import Derived.Test.YtpdgalclnlbeaaaDoorAdmQ6
import Derived.Test.YtpdgalclnlbeaaaDoorAdmQ7
import Derived.Test.YtpdgalclnlbeaaaDoorAdmQ8
import Derived.Test.YtpdgalclnlbeaaaDoorAdP
import Derived.Test.YtpdgalclnlbeaaaDoorAdO
namespace Go.Proofs.YtpdgalclnlbeaaaDoor
open Go Go.RowKit Go.Maps Go.Shelf Go.Proofs

attribute [local go_sem] Oper.semAt_some

abbrev pZ : Par := ⟨0, 0, 0, 0, 0, 0, 0, 0, 0, 0, 0, 0⟩
theorem par_frozen {w : World} {g : Nat} {e : TypeId} {xs : List Value} (h : Row1 w g e xs) : w.frozen? ⟨g, 0, none⟩ = false ∧ w.frozen? ⟨g, 1, none⟩ = false ∧ w.frozen? ⟨g, 2, none⟩ = false ∧ w.frozen? ⟨g, 3, none⟩ = false ∧ w.frozen? ⟨g, 4, none⟩ = false ∧ w.frozen? ⟨g, 5, none⟩ = false ∧ w.frozen? ⟨g, 6, none⟩ = false ∧ w.frozen? ⟨g, 7, none⟩ = false ∧ w.frozen? ⟨g, 8, none⟩ = false ∧ w.frozen? ⟨g, 9, none⟩ = false ∧ w.frozen? ⟨g, 10, none⟩ = false ∧ w.frozen? ⟨g, 11, none⟩ = false :=
  ⟨h.frozen 0, h.frozen 1, h.frozen 2, h.frozen 3, h.frozen 4, h.frozen 5, h.frozen 6, h.frozen 7, h.frozen 8, h.frozen 9, h.frozen 10, h.frozen 11⟩
def parLaid (w : World) (a : Nat) (p : Par) : World :=
  (((((((((((w.setCell ⟨a, 0, none⟩ (.int .u64 p.P)).setCell ⟨a, 1, none⟩ (.int .u64 p.Q)).setCell ⟨a, 2, none⟩ (.int .u64 p.G)).setCell ⟨a, 3, none⟩ (.int .u64 p.H)).setCell ⟨a, 4, none⟩ (.int .i64 p.Nodes)).setCell ⟨a, 5, none⟩ (.int .i64 p.N)).setCell ⟨a, 6, none⟩ (.int .i64 p.T)).setCell ⟨a, 7, none⟩ (.int .i64 p.K)).setCell ⟨a, 8, none⟩ (.int .i64 p.D)).setCell ⟨a, 9, none⟩ (.int .i64 p.R)).setCell ⟨a, 10, none⟩ (.int .i64 p.M)).setCell ⟨a, 11, none⟩ (.int .i64 p.X)
theorem parLaid_row {w : World} {a : Nat} {e : TypeId} {p z : Par} (h : Row1 w a e (pcells z)) : Row1 (parLaid w a p) a e (pcells p) :=
  (((((((((((h.set 0 (.int .u64 p.P)).set 1 (.int .u64 p.Q)).set 2 (.int .u64 p.G)).set 3 (.int .u64 p.H)).set 4 (.int .i64 p.Nodes)).set 5 (.int .i64 p.N)).set 6 (.int .i64 p.T)).set 7 (.int .i64 p.K)).set 8 (.int .i64 p.D)).set 9 (.int .i64 p.R)).set 10 (.int .i64 p.M)).set 11 (.int .i64 p.X)
theorem parLaid_below {w0 w : World} {a : Nat} {p : Par} (h : Below w0.heap.size w0 w) (ha : w0.heap.size ≤ a) : Below w0.heap.size w0 (parLaid w a p) :=
  (((((((((((h.setCell (p := ⟨a, 0, none⟩) ha _).setCell (p := ⟨a, 1, none⟩) ha _).setCell (p := ⟨a, 2, none⟩) ha _).setCell (p := ⟨a, 3, none⟩) ha _).setCell (p := ⟨a, 4, none⟩) ha _).setCell (p := ⟨a, 5, none⟩) ha _).setCell (p := ⟨a, 6, none⟩) ha _).setCell (p := ⟨a, 7, none⟩) ha _).setCell (p := ⟨a, 8, none⟩) ha _).setCell (p := ⟨a, 9, none⟩) ha _).setCell (p := ⟨a, 10, none⟩) ha _).setCell (p := ⟨a, 11, none⟩) ha _
set_option maxRecDepth 100000 in
set_option maxHeartbeats 2000000 in
theorem prime21_c (p : Par) (hp : p.ok) (w : World) (hTab : Tabs w) :
    Calls Tryd.prog 6 #[pval p] w fun e w' => e = .returned (pval (prPar p)) ∧ Below w.heap.size w w' := by
  have hb1 := below_alloc w (.cells (pcells p).toArray 24)
  have hP := row1_new w (pcells p) 24
  have hb2 := below_alloc (w.alloc (.cells (pcells p).toArray 24)) (.cells (pcells pZ).toArray 24)
  have hZ := row1_new (w.alloc (.cells (pcells p).toArray 24)) (pcells pZ) 24
  have hP2 := hP.below hb2
  have hbb := below_next hb1 hb1.size hb2
  have hTb := hTab.below hbb
  have hs : (w.alloc (.cells (pcells p).toArray 24)).heap.size = w.heap.size + 1 := by simp
  rw [hs] at hZ
  have hq := hp.Q
  clear hTab hb1 hb2 hP hs
  go_enter Tryd.func6, Tryd.ntmps6
  go_wp2_with (fail)
  refine (prime_c p.Q hq _ hTb).mono ?_
  rintro e w2 ⟨rfl, hd⟩
  have hP3 : Row1 w2 w.heap.size 24 (pcells p) := hP2.below (below_of_dr hd)
  have hZ3 : Row1 w2 (w.heap.size + 1) 24 (pcells pZ) := hZ.below (below_of_dr hd)
  have hbw : Below w.heap.size w w2 := below_dr hbb hd
  clear hP2 hZ hbb hd hTb
  cases hv : primeV p.Q with
  | true =>
    have HV := hid (show prPar p = p from if_pos hv)
    clear hv
    obtain ⟨p0, p1, p2, p3, p4, p5, p6, p7, p8, p9, p10, p11⟩ := par_cells hP3
    obtain ⟨z0, z1, z2, z3, z4, z5, z6, z7, z8, z9, z10, z11⟩ := par_cells hZ3
    obtain ⟨f0, f1, f2, f3, f4, f5, f6, f7, f8, f9, f10, f11⟩ := par_frozen hZ3
    have HQ := hid (⟨parLaid_row (p := p) hZ3, parLaid_below (p := p) hbw (by omega)⟩ : Row1 (parLaid w2 (w.heap.size + 1) (p)) (w.heap.size + 1) 24 (pcells (p)) ∧ Below w.heap.size w (parLaid w2 (w.heap.size + 1) (p)))
    clear hP3 hZ3 hbw
    go_wp2
    obtain ⟨w17, hw17⟩ : ∃ w17, parLaid w2 (w.heap.size + 1) (p) = w17 := ⟨_, rfl⟩
    rw [hw17] at HQ
    unfold parLaid at hw17
    rw [hw17]
    clear hw17 z0 z1 z2 z3 z4 z5 z6 z7 z8 z9 z10 z11 f0 f1 f2 f3 f4 f5 f6 f7 f8 f9 f10 f11 p0 p1 p2 p3 p4 p5 p6 p7 p8 p9 p10 p11
    obtain ⟨r0, r1, r2, r3, r4, r5, r6, r7, r8, r9, r10, r11⟩ := par_cells HQ.out.1
    refine bodyPost_ret (v := pval (p)) (by simp [results, Tryd.f6, go_sem, r0, r1, r2, r3, r4, r5, r6, r7, r8, r9, r10, r11]) rfl ⟨by rw [HV.out], HQ.out.2⟩
  | false =>
    have HV := hid (show prPar p = { p with Q := someP.getD (p.Q % 6).toNat 0 } from if_neg (by rw [hv]; decide))
    have h0 := hq.lo
    have h6 := Int.tmod_eq_emod_of_nonneg (b := 6) h0
    have hr6 : 0 ≤ p.Q % 6 ∧ p.Q % 6 < 6 := by omega
    have hB := Bun.nil w2
    clear hv
    obtain ⟨Z, hZq⟩ : ∃ Z, someP.getD (p.Q % 6).toNat 0 = Z := ⟨_, rfl⟩
    rw [hZq] at HV
    have HZ := hid hZq
    clear hZq
    have hc1 := hP3.cell (k := 1) rfl
    have hf1 := (par_frozen hP3).2.1
    go_upto_region 3 with (first | (refine wpList_named hB rfl ?_; clear hB; intro wn gn hB hbn hg; (try rw [hg]); clear hg; have cq := cellP (hB.row (i := 0) rfl) h0; rw [HZ.out] at cq; replace hc1 := (hP3.below hbn).cell (k := 1) rfl; replace hf1 := (par_frozen (hP3.below hbn)).2.1; replace hP3 := hP3.below hbn; replace hZ3 := hZ3.below hbn; replace hbw := below_next hbw hbw.size hbn; clear hbn) | fail)
    replace hP3 : Row1 (wn.setCell ⟨w.heap.size, 1, none⟩ (.int .u64 Z)) w.heap.size 24 (pcells { p with Q := Z }) := hP3.set 1 (.int .u64 Z)
    replace hZ3 := hZ3.far (p := ⟨w.heap.size, 1, none⟩) (by show w.heap.size ≠ w.heap.size + 1; omega) (.int .u64 Z)
    replace hbw := hbw.setCell (p := ⟨w.heap.size, 1, none⟩) (Nat.le_refl _) (.int .u64 Z)
    clear hB cq hc1 hf1 HZ h6 hr6
    generalize wn.setCell ⟨w.heap.size, 1, none⟩ (.int .u64 Z) = w4 at *
    obtain ⟨p0, p1, p2, p3, p4, p5, p6, p7, p8, p9, p10, p11⟩ := par_cells hP3
    obtain ⟨z0, z1, z2, z3, z4, z5, z6, z7, z8, z9, z10, z11⟩ := par_cells hZ3
    obtain ⟨f0, f1, f2, f3, f4, f5, f6, f7, f8, f9, f10, f11⟩ := par_frozen hZ3
    have HQ := hid (⟨parLaid_row (p := { p with Q := Z }) hZ3, parLaid_below (p := { p with Q := Z }) hbw (by omega)⟩ : Row1 (parLaid w4 (w.heap.size + 1) ({ p with Q := Z })) (w.heap.size + 1) 24 (pcells ({ p with Q := Z })) ∧ Below w.heap.size w (parLaid w4 (w.heap.size + 1) ({ p with Q := Z })))
    clear hP3 hZ3 hbw
    go_wp2
    obtain ⟨w17, hw17⟩ : ∃ w17, parLaid w4 (w.heap.size + 1) ({ p with Q := Z }) = w17 := ⟨_, rfl⟩
    rw [hw17] at HQ
    unfold parLaid at hw17
    rw [hw17]
    clear hw17 z0 z1 z2 z3 z4 z5 z6 z7 z8 z9 z10 z11 f0 f1 f2 f3 f4 f5 f6 f7 f8 f9 f10 f11 p0 p1 p2 p3 p4 p5 p6 p7 p8 p9 p10 p11
    obtain ⟨r0, r1, r2, r3, r4, r5, r6, r7, r8, r9, r10, r11⟩ := par_cells HQ.out.1
    refine bodyPost_ret (v := pval ({ p with Q := Z })) (by simp [results, Tryd.f6, go_sem, r0, r1, r2, r3, r4, r5, r6, r7, r8, r9, r10, r11]) rfl ⟨by rw [HV.out], HQ.out.2⟩
end Go.Proofs.YtpdgalclnlbeaaaDoor
