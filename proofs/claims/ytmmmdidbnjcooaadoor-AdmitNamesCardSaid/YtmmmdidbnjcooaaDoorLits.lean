/-
  New rows in a region that draws its order: each lies in a block of its own. (No program in sight.)
-/
import Derived.Test.YtmmmdidbnjcooaaDoorRegionI
import Derived.Test.YtmmmdidbnjcooaaDoorCore
namespace Go.Proofs.YtmmmdidbnjcooaaDoor
open Go Go.RowKit

/-- 'L j': the row that operation j makes. -/
structure LitsB (w0 : World) (L : Nat → Option (TypeId × List Value)) (g : Rgi.Ghost) (w : World) : Prop where
  b : Below w0.heap.size w0 w
  row : ∀ (j : Nat) (e : TypeId) (xs : List Value), L j = some (e, xs) → ∀ v, g j = some v → ∃ a : Nat, v = .slice (some ⟨a, 0, none⟩) xs.length xs.length ∧ Row1 w a e xs ∧ w0.heap.size ≤ a
  ne : ∀ (j j' : Nat) (x x' : TypeId × List Value), j ≠ j' → L j = some x → L j' = some x' → ∀ v v', g j = some v → g j' = some v' → v.ownBlock ≠ v'.ownBlock
theorem LitsB.start (w0 : World) (L : Nat → Option (TypeId × List Value)) : LitsB w0 L (fun _ => none) w0.drew :=
  ⟨⟨rfl, rfl, rfl, Nat.le_refl _, fun _ _ => rfl⟩, fun _ _ _ _ _ h => (by cases h), fun _ _ _ _ _ _ _ _ _ h => (by cases h)⟩
theorem LitsB.keep {w0 w w' : World} {L : Nat → Option (TypeId × List Value)} {g : Rgi.Ghost} (h : LitsB w0 L g w) (hb : Below w.heap.size w w') : LitsB w0 L g w' :=
  ⟨below_next h.b h.b.size hb, fun j e xs hj v hv => by
    obtain ⟨a, h1, h2, h3⟩ := h.row j e xs hj v hv
    exact ⟨a, h1, h2.below hb, h3⟩, h.ne⟩
theorem LitsB.made {w0 w w' : World} {L : Nat → Option (TypeId × List Value)} {g : Rgi.Ghost} (h : LitsB w0 L g w) {j : Nat} {e : TypeId} {xs : List Value} (hj : L j = some (e, xs)) (hr : Row1 w' w.heap.size e xs) (hb : Below w.heap.size w w') :
    LitsB w0 L (g.upd j (.slice (some ⟨w.heap.size, 0, none⟩) xs.length xs.length)) w' := by
  have h' := h.keep hb
  have hlt : ∀ (i : Nat) (x : TypeId × List Value), L i = some x → ∀ v, g i = some v → ∃ a, v.ownBlock = some a ∧ a < w.heap.size := fun i x hi v hv => by
    obtain ⟨a, rfl, h2, _⟩ := h.row i x.1 x.2 hi v hv
    exact ⟨a, rfl, h2.lt⟩
  refine ⟨h'.b, fun i e' xs' hi v hv => ?_, fun i i' x x' hne hi hi' v v' hv hv' => ?_⟩
  · unfold Rgi.Ghost.upd at hv
    split at hv
    · rename_i he
      subst he
      rw [hj] at hi
      obtain ⟨rfl, rfl⟩ : e = e' ∧ xs = xs' := by simpa using hi
      obtain rfl := Option.some.inj hv
      exact ⟨_, rfl, hr, h.b.size⟩
    · exact h'.row i e' xs' hi v hv
  · unfold Rgi.Ghost.upd at hv hv'
    split at hv
    · rename_i he
      subst he
      rw [if_neg (Ne.symm hne)] at hv'
      obtain rfl := Option.some.inj hv
      obtain ⟨a, h1, h2⟩ := hlt i' x' hi' v' hv'
      rw [h1]
      intro he
      have : w.heap.size = a := Option.some.inj he
      omega
    · split at hv'
      · obtain rfl := Option.some.inj hv'
        obtain ⟨a, h1, h2⟩ := hlt i x hi v hv
        rw [h1]
        intro he
        have : a = w.heap.size := Option.some.inj he
        omega
      · exact h.ne i i' x x' hne hi hi' v v' hv hv'
theorem LitsB.new {w0 w : World} {L : Nat → Option (TypeId × List Value)} {g : Rgi.Ghost} (h : LitsB w0 L g w) {j : Nat} {e : TypeId} {xs : List Value} (hj : L j = some (e, xs)) :
    LitsB w0 L (g.upd j (.slice (some ⟨w.heap.size, 0, none⟩) xs.length xs.length)) (w.alloc (.cells xs.toArray e)) := h.made hj (row1_new w xs e) (below_alloc w _)
theorem LitsB.skip {w0 w : World} {L : Nat → Option (TypeId × List Value)} {g : Rgi.Ghost} (h : LitsB w0 L g w) {j : Nat} (hj : L j = none) (u : Value) : LitsB w0 L (g.upd j u) w := by
  have hs : ∀ (i : Nat) (x : TypeId × List Value), L i = some x → g.upd j u i = g i := fun i x hi => by
    unfold Rgi.Ghost.upd
    rw [if_neg]
    rintro rfl
    rw [hj] at hi
    cases hi
  refine ⟨h.b, fun i e xs hi v hv => h.row i e xs hi v ?_, fun i i' x x' hne hi hi' v v' hv hv' => h.ne i i' x x' hne hi hi' v v' ?_ ?_⟩
  · rw [← hs i _ hi]; exact hv
  · rw [← hs i _ hi]; exact hv
  · rw [← hs i' _ hi']; exact hv'
end Go.Proofs.YtmmmdidbnjcooaaDoor
