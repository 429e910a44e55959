/-
  Queries that are written over.
-/
import Derived.Test.YtlbhmoiicbhgkaaDoorAdmQ1
import Derived.Test.YtlbhmoiicbhgkaaDoorAdmQ2
import Derived.Test.YtlbhmoiicbhgkaaDoorAdmQ3
import Derived.Test.YtlbhmoiicbhgkaaDoorAdmQ4
import Derived.Test.YtlbhmoiicbhgkaaDoorAdmQ5
import Derived.Test.YtlbhmoiicbhgkaaDoorAdmQ6
import Derived.Test.YtlbhmoiicbhgkaaDoorAdmQ7
import Derived.Test.YtlbhmoiicbhgkaaDoorAdmQ8
import Derived.Test.YtlbhmoiicbhgkaaDoorAdS
namespace Go.Proofs.YtlbhmoiicbhgkaaDoor
open Go Go.RowKit Go.Maps Go.Shelf Go.Proofs

attribute [local go_sem] Oper.semAt_some

/-- what stays while a list's blocks are written over: which are between base and T. -/
structure SpI (base T g n : Nat) (w wr : World) : Prop where
  b : Below base w wr
  up : ∀ k, T ≤ k → wr.heap[k]? = w.heap[k]?
  size : wr.heap.size = w.heap.size
  shape : ∀ (k : Nat) arr e, w.heap[k]? = some (Obj.cells arr e (0, 0)) → ∃ arr', wr.heap[k]? = some (Obj.cells arr' e (0, 0)) ∧ arr'.size = arr.size
  odd : ∀ k, k < n → wr.cell? ⟨g, k * 2 + 1, none⟩ = w.cell? ⟨g, k * 2 + 1, none⟩
theorem SpI.refl (base T g n : Nat) (w : World) : SpI base T g n w w := ⟨Below.refl _ _, fun _ _ => rfl, rfl, fun _k arr _e h => ⟨arr, h, rfl⟩, fun _ _ => rfl⟩
theorem setCell_at (w : World) (b j : Nat) (u : Value) {arr : Array Value} {e : TypeId} {fz : Nat × Nat} (h : w.heap[b]? = some (Obj.cells arr e fz)) : (w.setCell ⟨b, j, none⟩ u).heap[b]? = some (Obj.cells (arr.set! j u) e fz) := by
  simp [World.setCell, Array.getElem?_modify, h]
theorem SpI.set {base T g n : Nat} {w wr : World} (h : SpI base T g n w wr) {b j : Nat} (u : Value) (hb : base ≤ b) (hT : b < T) (hg : b = g → ∀ k, k < n → j ≠ k * 2 + 1) : SpI base T g n w (wr.setCell ⟨b, j, none⟩ u) := by
  refine ⟨h.b.setCell (p := ⟨b, j, none⟩) hb u, fun k hk => ?_, by rw [← h.size]; simp [World.setCell], fun k arr e hk => ?_, fun k hk => ?_⟩
  · rw [Below.heap_setCell wr ⟨b, j, none⟩ u k (by show k ≠ b; omega)]
    exact h.up k hk
  · obtain ⟨arr', h1, h2⟩ := h.shape k arr e hk
    by_cases e1 : k = b
    · subst e1
      exact ⟨_, setCell_at wr k j u h1, by simp [h2]⟩
    · exact ⟨arr', by rw [Below.heap_setCell wr ⟨b, j, none⟩ u k e1]; exact h1, h2⟩
  · rw [← h.odd k hk]
    by_cases e1 : g = b
    · subst e1
      have := hg rfl k hk
      apply World.cell?_setCell_other
      intro e
      injection e with _ e2 _
      exact this e2
    · exact World.cell?_of_block (Below.heap_setCell wr ⟨b, j, none⟩ u g e1)
theorem cell_in {w : World} {b j : Nat} {arr : Array Value} {e : TypeId} (h : w.heap[b]? = some (Obj.cells arr e (0, 0))) (hj : j < arr.size) : (∃ v, w.cell? ⟨b, j, none⟩ = some v) ∧ w.frozen? ⟨b, j, none⟩ = false := by
  refine ⟨⟨arr[j], ?_⟩, ?_⟩
  · unfold World.cell?
    rw [h]
    simp [hj]
  · unfold World.frozen?
    rw [h]
    simp
/-- where the queries of an own list lie. -/
structure SpO (w : World) (base T g c : Nat) (l : List Ask) : Prop where
  lo : base ≤ g
  hi : g < T
  top : ∃ arr, w.heap[g]? = some (Obj.cells arr 41 (0, 0)) ∧ l.length * 2 ≤ arr.size
  row : ∀ (k : Nat) (a : Ask), l[k]? = some a → ∃ v, w.cell? ⟨g, k * 2 + 1, none⟩ = some v ∧ Own w base 2 v (a.x.map (.int .i64)) ∧ ∀ b, v.ownBlock = some b → b < T
theorem spO_of {w0 w : World} {base : Nat} {A : Option Addr} {c : Nat} {l : List Ask} (h : OwnS w0 base (.slice A l.length c) l) (hl : 0 < l.length) (hb : Below w0.heap.size w0 w) : ∃ g, A = some ⟨g, 0, none⟩ ∧ SpO w base w0.heap.size g c l := by
  obtain ⟨vs, h1, h2, h3⟩ := h
  have h1' := h1
  rcases h1.2 with ⟨e1, h0⟩ | ⟨g, cap, cur, e1, hg, hh, hn, hm, hs, ht⟩
  · omega
  · injection e1 with e2 _ _
    subst e2
    have hlt : g < w0.heap.size := (Array.getElem?_eq_some_iff.1 hh).1
    refine ⟨g, rfl, hg, hlt, ⟨cur, (hb.block g hlt).trans hh, by omega⟩, fun k a ha => ?_⟩
    obtain ⟨u, hu⟩ := get_of_lt (l := vs) (k := k) (by rw [h2]; exact (List.getElem?_eq_some_iff.1 ha).1)
    obtain ⟨_, q2⟩ := h3 k u a hu ha
    have hc := World.ownsRow.cells (w := w0) h1' (g := g) rfl (k * 2 + 1) u.v (by rw [(flatA_at vs k).2, hu]; rfl)
    rw [Addr.add_lit, Nat.zero_add] at hc
    exact ⟨u.v, (hb.cell hlt).trans hc, q2.below hb, fun b e => (q2.block b e).2⟩
set_option maxRecDepth 100000 in
set_option maxHeartbeats 2000000 in
theorem spoil_c (base : Nat) (A : Option Addr) (l : List Ask) (c : Nat) (w0 w : World) (hO : OwnS w0 base (.slice A l.length c) l) (hb : Below w0.heap.size w0 w) (hl : AskOk l) :
    Calls Tryd.prog 32 #[.slice A l.length c] w fun e w' => e = .returned (.tuple #[]) ∧ Below base w w' ∧ (∀ k, w0.heap.size ≤ k → w'.heap[k]? = w.heap[k]?) ∧ w'.heap.size = w.heap.size := by
  by_cases hl0 : l.length = 0
  · have hl0' : ¬ (0 : Int) < (l.length : Int) := by omega
    clear hO
    rw [hl0] at hl0' ⊢
    go_enter Tryd.func32, Tryd.ntmps32
    go_wp2
    go_loopw [2] (fun x wr => x = .int .i64 0 ∧ wr = w) (fun _ _ => 0)
    case atStart => exact ⟨rfl, rfl⟩
    case round =>
    obtain ⟨rfl, hw'⟩ := hrel
    cases hw'
    go_wp2
    go_end0
    exact ⟨rfl, Below.refl _ _, fun _ _ => rfl, rfl⟩
  obtain ⟨g, rfl, hS⟩ := spO_of hO (by omega) hb
  have HS := hid hS
  have hlf := hl.few
  have HL := hid hl
  clear hO hS hl
  generalize w0.heap.size = T at *
  go_enter Tryd.func32, Tryd.ntmps32
  go_wp2
  go_loopw [2] (fun x wr => ∃ i : Nat, x = .int .i64 (i : Int) ∧ i ≤ l.length ∧ Hid (SpI base T g l.length w wr)) (fun x _ => l.length - (intOf x).toNat)
  case atStart => exact ⟨0, rfl, by omega, hid (SpI.refl _ _ _ _ _)⟩
  case round =>
  obtain ⟨i, rfl, hi, HI⟩ := hrel
  by_cases hlt : i < l.length
  case neg =>
    obtain rfl : i = l.length := by omega
    clear hi hlt
    have hlt' : ¬ (l.length : Int) < (l.length : Int) := by omega
    go_wp2
    go_end0
    exact ⟨rfl, HI.out.b, HI.out.up, HI.out.size⟩
  have hlt' : (i : Int) < (l.length : Int) := by omega
  obtain ⟨a, ha⟩ := get_of_lt hlt
  obtain ⟨v, hv, hvo, hvb⟩ := HS.out.row i a ha
  have hal := HL.out.len a (List.mem_of_getElem? ha)
  obtain ⟨Ax, cx, ex, _⟩ := hvo.form
  rw [List.length_map] at ex
  subst ex
  obtain ⟨arr, ht1, ht2⟩ := HS.out.top
  obtain ⟨arr', hs1, hs2⟩ := HI.out.shape _ _ _ ht1
  obtain ⟨⟨u0, hu0⟩, hf0⟩ := cell_in (j := i * 2) hs1 (by omega)
  have HI1 := hid (HI.out.set (b := g) (j := i * 2) (.int .i64 (-7)) HS.out.lo HS.out.hi (fun _ k _ => by omega))
  have hcx := (HI1.out.odd i hlt).trans hv
  have HV := hid (⟨hv, hvo, hvb⟩ : _ ∧ _ ∧ _)
  clear HI ha hv hvo hvb ht1 ht2 hs1 hs2
  go_wp2
  have HSI := hid HI1.out
  generalize wr.setCell ⟨g, i * 2, none⟩ (.int .i64 (-7)) = w3 at *
  clear HI1 hf0 hu0
  go_loopw [3] (fun x wr => ∃ j : Nat, x = .int .i64 (j : Int) ∧ j ≤ a.x.length ∧ Hid (SpI base T g l.length w wr)) (fun x _ => a.x.length - (intOf x).toNat)
  case atStart => exact ⟨0, rfl, by omega, HSI⟩
  case round =>
  obtain ⟨j, rfl, hj, HJ⟩ := hrel
  have hcx2 := (HJ.out.odd i hlt).trans HV.out.1
  by_cases hltj : j < a.x.length
  case neg =>
    obtain rfl : j = a.x.length := by omega
    clear hj hltj
    have hltj' : ¬ (a.x.length : Int) < (a.x.length : Int) := by omega
    go_wp2
    go_roundw
    case rel => exact ⟨i + 1, by go_num, by omega, HJ⟩
    case measure => simp [intOf]; omega
  have hltj' : (j : Int) < (a.x.length : Int) := by omega
  have hxo := HV.out.2.1
  rcases hxo.2 with ⟨e1, h0⟩ | ⟨gx, cap, cur, e1, hgx, hhx, hnx, hmx, hsx, htx⟩
  · rw [List.length_map] at h0
    omega
  injection e1 with e2 e3 e4
  clear e3
  subst e2
  subst e4
  have hgT : gx < T := HV.out.2.2 gx rfl
  have hgg : gx ≠ g := by
    rintro rfl
    obtain ⟨arr, ht1, _⟩ := HS.out.top
    rw [hhx] at ht1
    simp only [Option.some.injEq, Obj.cells.injEq] at ht1
    exact absurd ht1.2.1 (by decide)
  obtain ⟨arr', hs1, hs2⟩ := HJ.out.shape _ _ _ hhx
  rw [List.length_map] at hnx
  obtain ⟨⟨u0, hu0⟩, hf0⟩ := cell_in (j := j) hs1 (by omega)
  have HJ1 := hid (HJ.out.set (b := gx) (j := j) (.int .i64 (-77)) hgx hgT (fun e => absurd e hgg))
  have hcx3 := (HJ.out.odd i hlt).trans HV.out.1
  clear HJ hxo hhx hs1 hs2 htx hsx hmx hcx2
  go_wp2
  go_roundw
  case rel => exact ⟨j + 1, by go_num, by omega, HJ1⟩
  case measure => simp [intOf]; omega
end Go.Proofs.YtlbhmoiicbhgkaaDoor
