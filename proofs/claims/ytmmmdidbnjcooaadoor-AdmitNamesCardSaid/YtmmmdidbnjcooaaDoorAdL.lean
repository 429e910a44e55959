/-
  AdmitNames: boxes that a region makes and fills in whatever order; params laid in a box; the rows of the last region.
-/
import Derived.Test.YtmmmdidbnjcooaaDoorAdI
import Derived.Test.YtmmmdidbnjcooaaDoorLits
namespace Go.Proofs.YtmmmdidbnjcooaaDoor
open Go Go.RowKit Go.Maps Go.Shelf Go.Proofs

abbrev pZ : Par := ⟨0, 0, 0, 0, 0, 0, 0, 0, 0, 0, 0, 0⟩
theorem par_frozen {w : World} {g : Nat} {e : TypeId} {xs : List Value} (h : Row1 w g e xs) : w.frozen? ⟨g, 0, none⟩ = false ∧ w.frozen? ⟨g, 1, none⟩ = false ∧ w.frozen? ⟨g, 2, none⟩ = false ∧ w.frozen? ⟨g, 3, none⟩ = false ∧ w.frozen? ⟨g, 4, none⟩ = false ∧ w.frozen? ⟨g, 5, none⟩ = false ∧ w.frozen? ⟨g, 6, none⟩ = false ∧ w.frozen? ⟨g, 7, none⟩ = false ∧ w.frozen? ⟨g, 8, none⟩ = false ∧ w.frozen? ⟨g, 9, none⟩ = false ∧ w.frozen? ⟨g, 10, none⟩ = false ∧ w.frozen? ⟨g, 11, none⟩ = false :=
  ⟨h.frozen 0, h.frozen 1, h.frozen 2, h.frozen 3, h.frozen 4, h.frozen 5, h.frozen 6, h.frozen 7, h.frozen 8, h.frozen 9, h.frozen 10, h.frozen 11⟩
/-- boxes, and what was laid in them: box j (4 to 7) by operation j + 4. -/
structure BoxB (w0 : World) (e : TypeId) (zs xs : List Value) (g : Rgi.Ghost) (w : World) : Prop where
  b : Below w0.heap.size w0 w
  row : ∀ j, 4 ≤ j ∧ j ≤ 7 → ∀ v, g j = some v → ∃ a : Nat, v = .pointer (some ⟨a, 0, none⟩) ∧ w0.heap.size ≤ a ∧ Row1 w a e (if (g (j + 4)).isSome = true then xs else zs)
  ne : ∀ i j, 4 ≤ i ∧ i < j ∧ j ≤ 7 → ∀ a a' : Nat, g i = some (.pointer (some ⟨a, 0, none⟩)) → g j = some (.pointer (some ⟨a', 0, none⟩)) → a ≠ a'
  ord : ∀ j, 4 ≤ j ∧ j ≤ 7 → g j = none → g (j + 4) = none
  last : g 11 = none
theorem BoxB.start (w0 : World) (e : TypeId) (zs xs : List Value) : BoxB w0 e zs xs (fun _ => none) w0.drew :=
  ⟨⟨rfl, rfl, rfl, Nat.le_refl _, fun _ _ => rfl⟩, fun _ _ _ h => (by cases h), fun _ _ _ _ _ h => (by cases h), fun _ _ _ => rfl, rfl⟩
theorem BoxB.new {w0 w : World} {e : TypeId} {zs xs : List Value} {g : Rgi.Ghost} (h : BoxB w0 e zs xs g w) {j : Nat} (hj : 4 ≤ j ∧ j ≤ 7) (hg : g j = none) : BoxB w0 e zs xs (g.upd j (.pointer (some ⟨w.heap.size, 0, none⟩))) (w.alloc (.cells zs.toArray e)) := by
  have hb := below_alloc w (.cells zs.toArray e)
  have hlt : ∀ i, 4 ≤ i ∧ i ≤ 7 → ∀ a : Nat, g i = some (.pointer (some ⟨a, 0, none⟩)) → a < w.heap.size := fun i hi a ha => by
    obtain ⟨a', e1, _, hr⟩ := h.row i hi _ ha
    injection e1 with e1
    injection e1 with e1
    injection e1 with e1 _ _
    subst e1
    exact hr.lt
  refine ⟨below_next h.b h.b.size hb, fun i hi v hv => ?_, fun i k hik a a' hi hk => ?_, fun i hi hn => ?_, by unfold Rgi.Ghost.upd; rw [if_neg (by omega)]; exact h.last⟩
  · have e4 : g.upd j (.pointer (some ⟨w.heap.size, 0, none⟩)) (i + 4) = g (i + 4) := by unfold Rgi.Ghost.upd; rw [if_neg (by omega)]
    rw [e4]
    unfold Rgi.Ghost.upd at hv
    split at hv
    · rename_i he
      subst he
      obtain rfl := Option.some.inj hv
      rw [h.ord i hi hg]
      exact ⟨_, rfl, h.b.size, row1_new w zs e⟩
    · obtain ⟨a, h1, h2, h3⟩ := h.row i hi v hv
      exact ⟨a, h1, h2, h3.below hb⟩
  · unfold Rgi.Ghost.upd at hi hk
    split at hi
    · rename_i he
      rw [if_neg (by omega)] at hk
      injection hi with hi
      injection hi with hi
      injection hi with hi
      injection hi with hi _ _
      have := hlt k (by omega) a' hk
      omega
    · split at hk
      · injection hk with hk
        injection hk with hk
        injection hk with hk
        injection hk with hk _ _
        have := hlt i (by omega) a hi
        omega
      · exact h.ne i k hik a a' hi hk
  · unfold Rgi.Ghost.upd at hn ⊢
    split at hn
    · cases hn
    · rw [if_neg (by omega)]
      exact h.ord i hi hn
theorem BoxB.box {w0 w : World} {e : TypeId} {zs xs : List Value} {g : Rgi.Ghost} (h : BoxB w0 e zs xs g w) (j : Nat) (hj : 4 ≤ j ∧ j ≤ 7) (v : Value) (hv : g j = some v) (hn : g (j + 4) = none) : ∃ a : Nat, v = .pointer (some ⟨a, 0, none⟩) ∧ w0.heap.size ≤ a ∧ Row1 w a e zs := by
  obtain ⟨a, h1, h2, h3⟩ := h.row j hj v hv
  rw [hn] at h3
  exact ⟨a, h1, h2, h3⟩
/-- params are laid in a box. -/
def parLaid (w : World) (a : Nat) (p : Par) : World :=
  (((((((((((w.setCell ⟨a, 0, none⟩ (.int .u64 p.P)).setCell ⟨a, 1, none⟩ (.int .u64 p.Q)).setCell ⟨a, 2, none⟩ (.int .u64 p.G)).setCell ⟨a, 3, none⟩ (.int .u64 p.H)).setCell ⟨a, 4, none⟩ (.int .i64 p.Nodes)).setCell ⟨a, 5, none⟩ (.int .i64 p.N)).setCell ⟨a, 6, none⟩ (.int .i64 p.T)).setCell ⟨a, 7, none⟩ (.int .i64 p.K)).setCell ⟨a, 8, none⟩ (.int .i64 p.D)).setCell ⟨a, 9, none⟩ (.int .i64 p.R)).setCell ⟨a, 10, none⟩ (.int .i64 p.M)).setCell ⟨a, 11, none⟩ (.int .i64 p.X)
theorem parLaid_row {w : World} {a : Nat} {e : TypeId} {p z : Par} (h : Row1 w a e (pcells z)) : Row1 (parLaid w a p) a e (pcells p) :=
  (((((((((((h.set 0 (.int .u64 p.P)).set 1 (.int .u64 p.Q)).set 2 (.int .u64 p.G)).set 3 (.int .u64 p.H)).set 4 (.int .i64 p.Nodes)).set 5 (.int .i64 p.N)).set 6 (.int .i64 p.T)).set 7 (.int .i64 p.K)).set 8 (.int .i64 p.D)).set 9 (.int .i64 p.R)).set 10 (.int .i64 p.M)).set 11 (.int .i64 p.X)
theorem parLaid_far {w : World} {a : Nat} {e : TypeId} {p : Par} {b : Nat} {xs : List Value} (h : Row1 w b e xs) (hne : a ≠ b) : Row1 (parLaid w a p) b e xs :=
  (((((((((((h.far (p := ⟨a, 0, none⟩) hne _).far (p := ⟨a, 1, none⟩) hne _).far (p := ⟨a, 2, none⟩) hne _).far (p := ⟨a, 3, none⟩) hne _).far (p := ⟨a, 4, none⟩) hne _).far (p := ⟨a, 5, none⟩) hne _).far (p := ⟨a, 6, none⟩) hne _).far (p := ⟨a, 7, none⟩) hne _).far (p := ⟨a, 8, none⟩) hne _).far (p := ⟨a, 9, none⟩) hne _).far (p := ⟨a, 10, none⟩) hne _).far (p := ⟨a, 11, none⟩) hne _
theorem parLaid_below {w0 w : World} {a : Nat} {p : Par} (h : Below w0.heap.size w0 w) (ha : w0.heap.size ≤ a) : Below w0.heap.size w0 (parLaid w a p) :=
  (((((((((((h.setCell (p := ⟨a, 0, none⟩) ha _).setCell (p := ⟨a, 1, none⟩) ha _).setCell (p := ⟨a, 2, none⟩) ha _).setCell (p := ⟨a, 3, none⟩) ha _).setCell (p := ⟨a, 4, none⟩) ha _).setCell (p := ⟨a, 5, none⟩) ha _).setCell (p := ⟨a, 6, none⟩) ha _).setCell (p := ⟨a, 7, none⟩) ha _).setCell (p := ⟨a, 8, none⟩) ha _).setCell (p := ⟨a, 9, none⟩) ha _).setCell (p := ⟨a, 10, none⟩) ha _).setCell (p := ⟨a, 11, none⟩) ha _
theorem BoxB.laid {w0 w : World} {e : TypeId} {zs : List Value} {p z : Par} {g : Rgi.Ghost} (h : BoxB w0 e zs (pcells p) g w) {j : Nat} (hj : 4 ≤ j ∧ j ≤ 6) {a : Nat} (ha : g j = some (.pointer (some ⟨a, 0, none⟩))) (hge : w0.heap.size ≤ a) (hr : Row1 w a e (pcells z)) :
    BoxB w0 e zs (pcells p) (g.upd (j + 4) undef) (parLaid w a p) := by
  have eu : ∀ i, i ≠ j + 4 → g.upd (j + 4) undef i = g i := fun i hi => by unfold Rgi.Ghost.upd; rw [if_neg hi]
  refine ⟨parLaid_below h.b hge, fun i hi v hv => ?_, fun i k hik b b' hi hk => ?_, fun i hi hn => ?_, by rw [eu 11 (by omega)]; exact h.last⟩
  · rw [eu i (by omega)] at hv
    obtain ⟨b, rfl, h2, h3⟩ := h.row i hi v hv
    by_cases hij : i = j
    · subst hij
      rw [ha] at hv
      injection hv with hv
      injection hv with hv
      injection hv with hv
      injection hv with hv _ _
      subst hv
      refine ⟨a, rfl, h2, ?_⟩
      have : g.upd (i + 4) undef (i + 4) = some undef := by unfold Rgi.Ghost.upd; rw [if_pos rfl]
      rw [this]
      exact parLaid_row hr
    · refine ⟨b, rfl, h2, ?_⟩
      rw [eu (i + 4) (by omega)]
      refine parLaid_far h3 ?_
      rcases Nat.lt_or_ge i j with hlt | hge'
      · exact fun e => h.ne i j ⟨by omega, hlt, by omega⟩ b a hv ha e.symm
      · exact h.ne j i ⟨by omega, by omega, by omega⟩ a b ha hv
  · rw [eu i (by omega)] at hi
    rw [eu k (by omega)] at hk
    exact h.ne i k hik b b' hi hk
  · rw [eu i (by omega)] at hn
    by_cases e : i = j
    · subst e
      rw [ha] at hn
      cases hn
    · rw [eu (i + 4) (by omega)]
      exact h.ord i hi hn
theorem BoxB.full {w0 w : World} {e : TypeId} {zs xs : List Value} {g : Rgi.Ghost} (h : BoxB w0 e zs xs g w) (j : Nat) (hj : 4 ≤ j ∧ j ≤ 7) (v u : Value) (hv : g j = some v) (hu : g (j + 4) = some u) : ∃ a : Nat, v = .pointer (some ⟨a, 0, none⟩) ∧ w0.heap.size ≤ a ∧ Row1 w a e xs := by
  obtain ⟨a, h1, h2, h3⟩ := h.row j hj v hv
  rw [hu] at h3
  exact ⟨a, h1, h2, h3⟩
theorem ok8 : AskOk (manyL 8) := askOk_of (by decide +kernel)
theorem ok7 : AskOk (manyL 7) := askOk_of (by decide +kernel)
/-- the rows of the last region. -/
def madeA : Nat → Option (TypeId × List Value) := fun j =>
  if j = 2 then some (2, [.int .i64 1, .int .i64 0]) else if j = 8 then some (2, [.int .i64 1, .int .i64 0]) else if j = 16 then some (2, [.int .i64 1, .int .i64 0])
  else if j = 22 then some (2, [.int .i64 1, .int .i64 0, .int .i64 0, .int .i64 0, .int .i64 0]) else if j = 51 then some (2, [.int .i64 1, .int .i64 1])
  else if j = 57 then some (2, [.int .i64 0, .int .i64 0]) else if j = 63 then some (2, [.int .i64 1, .int .i64 0]) else none
end Go.Proofs.YtmmmdidbnjcooaaDoor
