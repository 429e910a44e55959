/-
  A range over a function that walks a map. (No program in sight.)
-/
import Derived.Test.YthllhnjbddpeoaaRangeT
import Derived.Test.YthllhnjbddpeoaaTab
import Derived.Shelf.Abstract
import Derived.Shelf.RegionOpen
import Derived.OwnWalkIn
import Derived.TacticsInMore
import Derived.LoopNIn
import Derived.LoopIn
import Derived.RangeFuncKeeps
import Derived.Maps.OwnIn
namespace Go.Proofs.Ythllhnjbddpeoaa
open Go.RowKit

/-- memory grows, or a block that holds no cells and is newer than B turns. -/
def Turns (B : Nat) (A C : World) : Prop := ∃ row, A.grownBy C row ∧ ∀ r, row = some r → B ≤ r ∧ ∃ o : Obj, A.heap[r]? = some o ∧ o.isCells = false
theorem Turns.below {B : Nat} {A C : World} (h : Below A.heap.size A C) : Turns B A C := ⟨none, but_below h none, fun r e => by cases e⟩
theorem Turns.row {B : Nat} {A C : World} {g : Nat} {e : TypeId} {xs : List Value} (h : Turns B A C) (hr : Row1 A g e xs) : Row1 C g e xs := by
  obtain ⟨row, hg, hro⟩ := h
  refine hr.keep (hg.block g hr.lt fun e => ?_)
  obtain ⟨_, o, h1, h2⟩ := hro g e.symm
  unfold Row1 at hr
  rw [hr] at h1
  obtain rfl := Option.some.inj h1
  cases h2
theorem Turns.past {B : Nat} {w A C : World} (h : Turns B A C) (hw : Below B w A) (hB : B ≤ A.heap.size) : Below B w C := by
  obtain ⟨row, hg, hro⟩ := h
  refine hw.grown hg hB fun k e => (hro k e).1
theorem Turns.ownsRow {B : Nat} {A C : World} {base : Nat} {e : TypeId} {k : Nat} {v : Value} {m : Nat} {xs : List Value} (h : Turns B A C) (hr : A.ownsRow base e k v m xs) : C.ownsRow base e k v m xs := by
  obtain ⟨row, hg, hro⟩ := h
  refine ⟨hr.1, ?_⟩
  rcases hr.2 with h1 | ⟨g, cap, cur, h1, h2, h3, h4⟩
  · exact .inl h1
  · refine .inr ⟨g, cap, cur, h1, h2, (hg.block g (Array.getElem?_eq_some_iff.1 h3).1 fun e => ?_).trans h3, h4⟩
    obtain ⟨_, o, h5, h6⟩ := hro g e.symm
    rw [h3] at h5
    obtain rfl := Option.some.inj h5
    cases h6
theorem Turns.mono {B B' : Nat} {A C : World} (h : Turns B A C) (hb : B' ≤ B) : Turns B' A C := by
  obtain ⟨row, hg, hro⟩ := h
  exact ⟨row, hg, fun r e => ⟨Nat.le_trans hb (hro r e).1, (hro r e).2⟩⟩
theorem Turns.put {B : Nat} {A : World} {l : Nat} {o : Obj} (o' : Obj) (hl : A.heap[l]? = some o) (ho : o.isCells = false) (hB : B ≤ l) : Turns B A (A.putObj l o') := ⟨some l, grownBy_putObj' A l o', fun r e => by cases e; exact ⟨hB, o, hl, ho⟩⟩

theorem wpIn_rangeMap {α : Type} {F : Fence} {n : Nat} {P : Program} {g : Operand} {ps : Array Tmp} {assign body : Code} {Q : Exit → Act → World → Prop} {a : Act} {w : World}
    (hro : F.round = none) (h1 : 1 ≤ n) {gf : Nat} {lb : Array Value} (hg : a.eval g = .func (.func gf) #[] lb) (hFg : F.fn gf) (eg : ∀ args w, (callFunc gf args).run P w = .ok (.enter gf args) w)
    {encs : α → Array Value} (hps : ∀ x, (encs x).size = ps.size) (I : List α → World → Prop) (Ok : List α → α → Prop) (S : List α → Prop)
    (hI : ∀ xs A C, w.heap.size ≤ A.heap.size → I xs A → Turns w.heap.size A C → I xs C)
    (h0 : I [] w)
    (hit : ∀ (l : Nat) (J : List α → World → Prop) (W : World), Below w.heap.size w W → (∀ xs A C, W.heap.size ≤ A.heap.size → J xs A → Turns W.heap.size A C → J xs C) →
      (∀ pre x A, W.heap.size ≤ A.heap.size → J pre A → Ok pre x → YieldAt F (n - 1 - 1) P l (encs x) A fun e C => e = .returned (.bool true) ∧ J (pre ++ [x]) C ∧ KeepsWalks A C) → J [] W →
      CallsIn F (n - 1) P gf (#[.func (.yield l) #[] #[]] ++ lb) W fun e C => (∃ v, e = .returned v) ∧ ∃ xs, S xs ∧ J xs C)
    (Ax : α → Act → World → Prop)
    (hAx : ∀ x a' A C, w.heap.size ≤ A.heap.size → Ax x a' A → Turns w.heap.size A C → Ax x a' C)
    (hassign : ∀ (l : Nat) (pre : List α) (x : α) (W : World) (K : Act → World → Prop), w.heap.size ≤ W.heap.size → I pre W → Ok pre x → (∀ a' W', Below W.heap.size W W' → Ax x a' W' → K a' W') →
      assign.wpIn (F.inRound l) (n - 1 - 1) P (Exit.then K (fun _ _ _ => False)) { tmps := (ps.zip (encs x)).foldl (fun t (p, v) => t.setIfInBounds p v) a.tmps, defers := [] } W)
    (hbody : ∀ (l : Nat) (pre : List α) (x : α) (a' : Act) (A : World), w.heap.size ≤ A.heap.size → I pre A → Ok pre x → Ax x a' A → body.wpIn (F.inRound l) (n - 1 - 1) P (GoesOn (fun _ _ => True) I (pre ++ [x]) A) a' A)
    (hdone : ∀ (D : Nat) (xs : List α) (A : World), w.heap.size ≤ D → S xs → I xs A → A.heap[D]? = some (.deferred (some [])) → Q .normal { a with defers := { target := .collected D, args := #[] } :: a.defers } A) :
    (Code.rangeFunc g ps assign body).wpIn F n P Q a w := by
  refine wpIn_rangeFunc fun fn hfn => ?_
  rw [hro]
  let R : LoopState → Loop := fun st => { state := st, pending := none, fn, tmps := a.tmps, params := ps, assign, body, defers := w.heap.size }
  let d := w.heap.size
  let l := w.heap.size + 1
  let W0 := (w.alloc (.deferred (some []))).alloc (.loop (R .ready))
  have hL0 : W0.heap[l]? = some (.loop (R .ready)) := by
    have := World.alloc_heap_new (w.alloc (.deferred (some []))) (.loop (R .ready))
    rwa [World.size_alloc] at this
  have hD0 : W0.heap[d]? = some (.deferred (some [])) := (Below.heap_alloc _ _ _ (by simp [d])).trans (World.alloc_heap_new w _)
  have hb0 : Below w.heap.size w W0 := ((Below.refl _ w).alloc (Nat.le_refl _) _).alloc (by simp) _
  have hI0 : I [] W0 := hI _ _ _ (Nat.le_refl _) h0 (Turns.below hb0)
  have hs0 : W0.heap.size = w.heap.size + 2 := by simp [W0]
  refine ⟨l, [{ target := .collected d, args := #[] }], W0, { target := .fn (.func gf) lb, args := #[.func (.yield l) #[] #[]] }, W0, gf, #[.func (.yield l) #[] #[]] ++ lb, W0, run_enterLoop_outer _ _ _ _ _, ?_, ?_, ?_, fun _ => h1, ?_⟩
  · simp only [resolve, hg]
    simp [go_sem]
  · intro f' hf'
    simp [Target.leads] at hf'
    subst hf'
    exact hFg
  · simp [invoke, go_sem, eg]
  · refine (hit l (fun xs A => I xs A ∧ A.heap[l]? = some (.loop (R .ready)) ∧ A.heap[d]? = some (.deferred (some []))) W0 hb0 (fun xs A C hA hJ ht => ?_) (fun pre x A hA hJ hx => ?_) ⟨hI0, hL0, hD0⟩).mono ?_
    · obtain ⟨row, hg2, hr2⟩ := ht
      refine ⟨hI _ _ _ (by omega) hJ.1 ⟨row, hg2, fun r e => ⟨by have := (hr2 r e).1; omega, (hr2 r e).2⟩⟩, (hg2.block _ (by omega) fun e => ?_).trans hJ.2.1, (hg2.block _ (by omega) fun e => ?_).trans hJ.2.2⟩
      · have := (hr2 _ e.symm).1; omega
      · have := (hr2 _ e.symm).1; omega
    · obtain ⟨hi, hl, hd⟩ := hJ
      have hy := run_yield (P := P) (args := encs x) hl (hps x)
      refine ⟨fn, _, assign, body, hy, roundIn_of_wpIn hfn (hassign l pre x A _ (by omega) hi hx fun a' A' hbA hax => ?_)⟩
      have hl' : A'.heap[l]? = some (.loop (R .ready)) := (hbA.block _ (by omega)).trans hl
      have hd' : A'.heap[d]? = some (.deferred (some [])) := (hbA.block _ (by omega)).trans hd
      refine ⟨_, run_beginRound hl' rfl, ?_⟩
      have hsA := hbA.size
      have hll : l < A'.heap.size := by omega
      have hi2 := hI _ _ _ (by omega) (hI _ _ _ (by omega) hi (Turns.below hbA)) (Turns.put (.loop { R .ready with state := .busy }) hl' rfl (by omega))
      have hx2 := hAx _ _ _ _ (by omega) hax (Turns.put (.loop { R .ready with state := .busy }) hl' rfl (by omega))
      have hl2 : (A'.putObj l (.loop { R .ready with state := .busy })).heap[l]? = some (.loop { R .ready with state := .busy }) := World.putObj_heap_same hll
      have hd2 : (A'.putObj l (.loop { R .ready with state := .busy })).heap[d]? = some (.deferred (some [])) := (World.putObj_heap_other (by omega)).trans hd'
      refine wpIn_mono (hbody l pre x _ _ (by simp; omega) hi2 hx hx2) ?_
      rintro e a3 C ⟨rfl, ho, _, hsz, hib⟩
      rw [World.putObj_size] at hsz
      have hl3 := ho.same _ _ hl2 rfl
      have hd3 := ho.same _ _ hd2 rfl
      refine ⟨_, _, run_endRound none hl3, rfl, ⟨hI _ _ _ (by omega) hib (Turns.put _ hl3 rfl (by omega)), World.putObj_heap_same (by omega), (World.putObj_heap_other (by omega)).trans hd3⟩, ?_⟩
      have k0 : KeepsWalks A A' := ⟨hsA, fun k o hk _ => (hbA.block k (Array.getElem?_eq_some_iff.1 hk).1).trans hk⟩
      have k1 : KeepsWalks A' (A'.putObj l (.loop { R .ready with state := .busy })) := KeepsWalks.putObj _ hl' rfl
      exact ((k0.trans k1).trans ho.walks).trans (KeepsWalks.putObj _ hl3 rfl)
    · rintro e C ⟨⟨v, rfl⟩, xs, hS, hi, hl, hd⟩
      have hll := (Array.getElem?_eq_some_iff.1 hl).1
      exact ⟨none, _, run_endLoop hl (by simp [R]), hdone d xs _ (Nat.le_refl _) hS (hI _ _ _ (by omega) hi (Turns.put _ hl rfl (by omega))) ((World.putObj_heap_other (by omega)).trans hd)⟩
end Go.Proofs.Ythllhnjbddpeoaa
