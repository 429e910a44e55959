/-
  A range over a function whose rounds all go on, where a round may lean on what the iterator has just laid. (No program in sight.)
-/
import Derived.Test.YtgdfphcggjclkaaDoorCore
import Derived.RangeFuncNested
import Derived.RangeFuncBound
import Derived.RangeFuncCalls
import Derived.RangeFuncLeaves
import Derived.RangeFuncFrom
namespace Go.Proofs.YtgdfphcggjclkaaDoor
open Go.RowKit

/-- how a round's body ends: it goes on. -/
def GoesOn {α : Type} (Kp : World → World → Prop) (I : List α → World → Prop) (xs : List α) (A : World) (e : Exit) (_ : Act) (B : World) : Prop :=
  e = .normal ∧ KeepsOthers A B ∧ Kp A B ∧ A.heap.size ≤ B.heap.size ∧ I xs B

theorem wpIn_rangeAll {α : Type} {F : Fence} {n : Nat} {P : Program} {g : Operand} {ps : Array Tmp} {assign body : Code} {Q : Exit → Act → World → Prop} {a : Act} {w : World}
    (hro : F.round = none) (h1 : 1 ≤ n) {gf : Nat} {lb : Array Value} (hg : a.eval g = .func (.func gf) #[] lb) (hFg : F.fn gf) (eg : ∀ args w, (callFunc gf args).run P w = .ok (.enter gf args) w)
    {encs : α → Array Value} (hps : ∀ x, (encs x).size = ps.size) (I : List α → World → Prop) (Ok : α → World → Prop) (S : List α → Prop) (Kp : World → World → Prop)
    (hIb : ∀ xs A B, w.heap.size ≤ A.heap.size → I xs A → Below A.heap.size A B → I xs B)
    (hIp : ∀ xs A l o o', I xs A → w.heap.size ≤ l → A.heap[l]? = some o → o.isCells = false → I xs (A.putObj l o'))
    (hOp : ∀ x A l o o', Ok x A → w.heap.size ≤ l → A.heap[l]? = some o → o.isCells = false → Ok x (A.putObj l o'))
    (hKt : ∀ A B C : World, Kp A B → Kp B C → Kp A C)
    (hKp : ∀ (A : World) l o o', w.heap.size ≤ l → A.heap[l]? = some o → o.isCells = false → Kp A (A.putObj l o'))
    (h0 : I [] w)
    (hit : ∀ (l : Nat) (J : List α → World → Prop) (W : World), Below w.heap.size w W → (∀ xs A B, W.heap.size ≤ A.heap.size → J xs A → Below A.heap.size A B → J xs B) →
      (∀ pre x A, W.heap.size ≤ A.heap.size → J pre A → Ok x A → YieldAt F (n - 1 - 1) P l (encs x) A fun e B => e = .returned (.bool true) ∧ J (pre ++ [x]) B ∧ Kp A B ∧ A.heap.size ≤ B.heap.size) → J [] W →
      CallsIn F (n - 1) P gf (#[.func (.yield l) #[] #[]] ++ lb) W fun e B => (∃ v, e = .returned v) ∧ ∃ xs, S xs ∧ J xs B)
    (a₁ : α → Act)
    (hassign : ∀ (l : Nat) (x : α) (W : World) (K : Act → World → Prop), K (a₁ x) W →
      assign.wpIn (F.inRound l) (n - 1 - 1) P (Exit.then K (fun _ _ _ => False)) { tmps := (ps.zip (encs x)).foldl (fun t (p, v) => t.setIfInBounds p v) a.tmps, defers := [] } W)
    (hbody : ∀ (l : Nat) (pre : List α) (x : α) (A : World), w.heap.size ≤ A.heap.size → I pre A → Ok x A → body.wpIn (F.inRound l) (n - 1 - 1) P (GoesOn Kp I (pre ++ [x]) A) (a₁ x) A)
    (hdone : ∀ (D : Nat) (xs : List α) (A : World), w.heap.size ≤ D → S xs → I xs A → A.heap[D]? = some (.deferred (some [])) → Q .normal { a with defers := { target := .collected D, args := #[] } :: a.defers } A) :
    (Code.rangeFunc g ps assign body).wpIn F n P Q a w := by
  refine wpIn_rangeFunc fun fn hfn => ?_
  rw [hro]
  -- the record, in each of its states
  let R : LoopState → Loop := fun st => { state := st, pending := none, fn, tmps := a.tmps, params := ps, assign, body, defers := w.heap.size }
  let d := w.heap.size
  let l := w.heap.size + 1
  let W0 := (w.alloc (.deferred (some []))).alloc (.loop (R .ready))
  have hL0 : W0.heap[l]? = some (.loop (R .ready)) := by
    have := World.alloc_heap_new (w.alloc (.deferred (some []))) (.loop (R .ready))
    rwa [World.size_alloc] at this
  have hD0 : W0.heap[d]? = some (.deferred (some [])) := (Below.heap_alloc _ _ _ (by simp [d])).trans (World.alloc_heap_new w _)
  have hb0 : Below w.heap.size w W0 := ((Below.refl _ w).alloc (Nat.le_refl _) _).alloc (by simp) _
  have hI0 : I [] W0 := hIb _ _ _ (by simp) (hIb _ _ _ (Nat.le_refl _) h0 ((Below.refl _ w).alloc (Nat.le_refl _) _)) ((Below.refl _ _).alloc (Nat.le_refl _) _)
  have hs0 : W0.heap.size = w.heap.size + 2 := by simp [W0]
  refine ⟨l, [{ target := .collected d, args := #[] }], W0, { target := .fn (.func gf) lb, args := #[.func (.yield l) #[] #[]] }, W0, gf, #[.func (.yield l) #[] #[]] ++ lb, W0, run_enterLoop_outer _ _ _ _ _, ?_, ?_, ?_, fun _ => h1, ?_⟩
  · simp only [resolve, hg]
    simp [go_sem]
  · intro f' hf'
    simp [Target.leads] at hf'
    subst hf'
    exact hFg
  · simp [invoke, go_sem, eg]
  · refine (hit l (fun xs A => I xs A ∧ A.heap[l]? = some (.loop (R .ready)) ∧ A.heap[d]? = some (.deferred (some []))) W0 hb0 (fun xs A B hA hJ hb => ?_) (fun pre x A hA hJ hx => ?_) ⟨hI0, hL0, hD0⟩).mono ?_
    · exact ⟨hIb _ _ _ (by omega) hJ.1 hb, (hb.block _ (by omega)).trans hJ.2.1, (hb.block _ (by omega)).trans hJ.2.2⟩
    · obtain ⟨hi, hl, hd⟩ := hJ
      have hy := run_yield (P := P) (args := encs x) hl (hps x)
      refine ⟨fn, _, assign, body, hy, roundIn_of_wpIn hfn (hassign l x A _ ⟨_, run_beginRound hl rfl, ?_⟩)⟩
      have hll : l < A.heap.size := by omega
      have hi2 := hIp _ _ _ _ (.loop { R .ready with state := .busy }) hi (by omega) hl rfl
      have hx2 := hOp _ _ _ _ (.loop { R .ready with state := .busy }) hx (by omega) hl rfl
      have hk2 := hKp A l _ (.loop { R .ready with state := .busy }) (by omega) hl rfl
      have hl2 : (A.putObj l (.loop { R .ready with state := .busy })).heap[l]? = some (.loop { R .ready with state := .busy }) := World.putObj_heap_same hll
      have hd2 : (A.putObj l (.loop { R .ready with state := .busy })).heap[d]? = some (.deferred (some [])) := (World.putObj_heap_other (by omega)).trans hd
      refine wpIn_mono (hbody l pre x _ (by simp; omega) hi2 hx2) ?_
      rintro e a3 B ⟨rfl, ho, hkb, hsz, hib⟩
      rw [World.putObj_size] at hsz
      have hl3 := ho.same _ _ hl2 rfl
      have hd3 := ho.same _ _ hd2 rfl
      refine ⟨_, _, run_endRound none hl3, rfl, ⟨hIp _ _ _ _ _ hib (by omega) hl3 rfl, World.putObj_heap_same (by omega), (World.putObj_heap_other (by omega)).trans hd3⟩, hKt _ _ _ (hKt _ _ _ hk2 hkb) (hKp B l _ _ (by omega) hl3 rfl), by simp; omega⟩
    · rintro e B ⟨⟨v, rfl⟩, xs, hS, hi, hl, hd⟩
      have hll := (Array.getElem?_eq_some_iff.1 hl).1
      exact ⟨none, _, run_endLoop hl (by simp [R]), hdone d xs _ (Nat.le_refl _) hS (hIp _ _ _ _ _ hi (by omega) hl rfl) ((World.putObj_heap_other (by omega)).trans hd)⟩

end Go.Proofs.YtgdfphcggjclkaaDoor
