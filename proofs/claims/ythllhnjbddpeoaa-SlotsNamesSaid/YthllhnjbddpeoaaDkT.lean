/-
  Several disks side by side.
-/
import Derived.Test.YthllhnjbddpeoaaDkQ
namespace Go.Proofs.Ythllhnjbddpeoaa
open Go.RowKit Go.Maps Go.Shelf Go.Proofs

/-- where a disk lies, and what it is. -/
structure Hd where
  g : Nat
  gm : Nat
  v : Value
  d : Dk
def Hd.Feet (X : Hd) (b : Nat) : Prop := b = X.g ∨ b = X.gm ∨ X.v.ownBlock = some b
abbrev Hd.Lies (X : Hd) (w : World) : Prop := Dsk w X.g X.gm X.v X.d
theorem Hd.Lies.feet_lt {X : Hd} {w : World} (h : X.Lies w) {b : Nat} (hb : X.Feet b) : b < w.heap.size := by
  rcases hb with rfl | rfl | hb
  · exact h.lt.1
  · exact h.lt.2.1
  · exact (h.vlt hb).1
/-- disks in w, that were not in w0. -/
structure Many (w0 w : World) (L : List Hd) : Prop where
  b : Below w0.heap.size w0 w
  lies : ∀ (i : Nat) (X : Hd), L[i]? = some X → X.Lies w
  base : ∀ (i : Nat) (X : Hd), L[i]? = some X → ∀ b, X.Feet b → w0.heap.size ≤ b
  apart : ∀ (i j : Nat) (X Y : Hd), i ≠ j → L[i]? = some X → L[j]? = some Y → ∀ b, X.Feet b → ¬ Y.Feet b
section
variable {w0 w w' : World} {L : List Hd}
theorem Many.nil (hb : Below w0.heap.size w0 w) : Many w0 w [] := ⟨hb, (fun i X h => by simp at h), (fun i X h => by simp at h), (fun i j X Y _ h => by simp at h)⟩
theorem Many.at_ (h : Many w0 w L) (i : Nat) {g gm : Nat} {v : Value} {d : Dk} (hx : L[i]? = some ⟨g, gm, v, d⟩) : Dsk w g gm v d := h.lies i _ hx
theorem Many.base_ (h : Many w0 w L) (i : Nat) {g gm : Nat} {v : Value} {d : Dk} (hx : L[i]? = some ⟨g, gm, v, d⟩) : Base w0 w g gm v :=
  ⟨h.b, h.base i _ hx _ (.inl rfl), h.base i _ hx _ (.inr (.inl rfl)), fun _ hb => h.base i _ hx _ (.inr (.inr hb))⟩
theorem Many.below (h : Many w0 w L) (hb : Below w.heap.size w w') : Many w0 w' L :=
  ⟨below_next h.b h.b.size hb, fun i X hx => (h.lies i X hx).below hb, h.base, h.apart⟩
theorem Many.dr (h : Many w0 w L) (hd : Dr w w') : Many w0 w' L :=
  ⟨below_dr h.b hd, fun i X hx => (h.lies i X hx).dr hd, h.base, h.apart⟩
theorem Many.from_ {w1 : World} (h : Many w1 w L) (hb : Below w0.heap.size w0 w1) : Many w0 w L :=
  ⟨below_next hb hb.size h.b, h.lies, fun i X hx b hf => Nat.le_trans hb.size (h.base i X hx b hf), h.apart⟩
theorem Many.of {g gm : Nat} {v : Value} {d : Dk} (h : Dsk w g gm v d) (hB : Base w0 w g gm v) : Many w0 w [⟨g, gm, v, d⟩] := by
  have key : ∀ (i : Nat) (X : Hd), ([⟨g, gm, v, d⟩] : List Hd)[i]? = some X → i = 0 ∧ X = ⟨g, gm, v, d⟩ := fun i X hx => by
    cases i with
    | zero => exact ⟨rfl, (Option.some.inj hx).symm⟩
    | succ i => simp at hx
  refine ⟨hB.b, fun i X hx => ?_, fun i X hx b hb => ?_, fun i j X Y hij hx hy => absurd ((key i X hx).1.trans (key j Y hy).1.symm) hij⟩
  · obtain ⟨_, rfl⟩ := key i X hx
    exact h
  · obtain ⟨_, rfl⟩ := key i X hx
    rcases hb with rfl | rfl | hb
    · exact hB.g
    · exact hB.gm
    · exact hB.v b hb
/-- one of them is turned. -/
theorem Many.set (h : Many w0 w L) (i : Nat) {g gm : Nat} {v v' : Value} {d d' : Dk} (hx : L[i]? = some ⟨g, gm, v, d⟩) (hD : Dsk w' g gm v' d') (ht : Then w v v') (hT : Tch w w' g gm v) : Many w0 w' (L.set i ⟨g, gm, v', d'⟩) := by
  have hil := (List.getElem?_eq_some_iff.1 hx).1
  have hF : ∀ b, (Hd.mk g gm v' d').Feet b → (Hd.mk g gm v d).Feet b ∨ w.heap.size ≤ b := fun b hb => by
    rcases hb with hb | hb | hb
    · exact .inl (.inl hb)
    · exact .inl (.inr (.inl hb))
    · exact (ht b hb).imp (fun e => .inr (.inr e)) id
  have key : ∀ j X, (L.set i ⟨g, gm, v', d'⟩)[j]? = some X → (j = i ∧ X = ⟨g, gm, v', d'⟩) ∨ (j ≠ i ∧ L[j]? = some X) := fun j X hj => by
    by_cases e : i = j
    · subst e
      rw [List.getElem?_set_self hil] at hj
      exact .inl ⟨rfl, (Option.some.inj hj).symm⟩
    · rw [List.getElem?_set_ne e] at hj
      exact .inr ⟨fun e2 => e e2.symm, hj⟩
  refine ⟨((h.base_ i hx).step ht hT).b, fun j X hj => ?_, fun j X hj b hb => ?_, fun j k X Y hjk hj hk b hb hc => ?_⟩
  · rcases key j X hj with ⟨rfl, rfl⟩ | ⟨hne, hj⟩
    · exact hD
    · have ha := fun b (hb : X.Feet b) => h.apart j i X _ hne hj hx b hb
      exact hT.other (h.lies j X hj) ⟨fun e => ha _ (.inl rfl) (.inl e), fun e => ha _ (.inl rfl) (.inr (.inl e)), fun e => ha _ (.inl rfl) (.inr (.inr e))⟩
        ⟨fun e => ha _ (.inr (.inl rfl)) (.inl e), fun e => ha _ (.inr (.inl rfl)) (.inr (.inl e)), fun e => ha _ (.inr (.inl rfl)) (.inr (.inr e))⟩
        fun b hb => ⟨fun e => ha b (.inr (.inr hb)) (.inl e), fun e => ha b (.inr (.inr hb)) (.inr (.inl e)), fun e => ha b (.inr (.inr hb)) (.inr (.inr e))⟩
  · rcases key j X hj with ⟨rfl, rfl⟩ | ⟨_, hj⟩
    · rcases hF b hb with hb | hb
      · exact h.base _ _ hx b hb
      · exact Nat.le_trans h.b.size hb
    · exact h.base j X hj b hb
  · rcases key j X hj with ⟨rfl, rfl⟩ | ⟨hn, hj2⟩
    · rcases key k Y hk with ⟨rfl, rfl⟩ | ⟨hn2, hk2⟩
      · exact hjk rfl
      · rcases hF b hb with hb | hb
        · exact h.apart _ k _ Y hjk hx hk2 b hb hc
        · have := (h.lies k Y hk2).feet_lt hc; omega
    · rcases key k Y hk with ⟨rfl, rfl⟩ | ⟨hn2, hk2⟩
      · rcases hF b hc with hc | hc
        · exact h.apart j _ X _ hjk hj2 hx b hb hc
        · have := (h.lies j X hj2).feet_lt hb; omega
      · exact h.apart j k X Y hjk hj2 hk2 b hb hc
/-- a new one. -/
theorem Many.add (h : Many w0 w L) {g gm : Nat} {v : Value} {d : Dk} (hD : Dsk w' g gm v d) (h1 : w.heap.size ≤ g) (h2 : w.heap.size ≤ gm) (h3 : ∀ b, v.ownBlock = some b → w.heap.size ≤ b) (hb : Below w.heap.size w w') : Many w0 w' (⟨g, gm, v, d⟩ :: L) := by
  have hF : ∀ b, (Hd.mk g gm v d).Feet b → w.heap.size ≤ b := fun b hb => by
    rcases hb with rfl | rfl | hb
    · exact h1
    · exact h2
    · exact h3 b hb
  have hN := h.below hb
  refine ⟨hN.b, fun i X hx => ?_, fun i X hx b hb => ?_, fun i j X Y hij hx hy b hb hc => ?_⟩
  · cases i with
    | zero => obtain rfl := Option.some.inj hx; exact hD
    | succ i => exact hN.lies i X hx
  · cases i with
    | zero => obtain rfl := Option.some.inj hx; exact Nat.le_trans h.b.size (hF b hb)
    | succ i => exact h.base i X hx b hb
  · cases i with
    | zero =>
      obtain rfl := Option.some.inj hx
      cases j with
      | zero => exact hij rfl
      | succ j => have := (h.lies j Y hy).feet_lt hc; have := hF b hb; omega
    | succ i =>
      cases j with
      | zero =>
        obtain rfl := Option.some.inj hy
        have := (h.lies i X hx).feet_lt hb
        have := hF b hc
        omega
      | succ j => exact h.apart i j X Y (fun e => hij (by rw [e])) hx hy b hb hc
/-- one of them is left. -/
theorem Many.drop {X : Hd} (h : Many w0 w (X :: L)) : Many w0 w L :=
  ⟨h.b, fun i Y hy => h.lies (i + 1) Y hy, fun i Y hy => h.base (i + 1) Y hy, fun i j Y Z hij hy hz => h.apart (i + 1) (j + 1) Y Z (by omega) hy hz⟩
end
end Go.Proofs.Ythllhnjbddpeoaa
