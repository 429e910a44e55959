/-
  A range over a function whose rounds may end it, where a round may lean on what the iterator has just laid. (No program in sight.)
-/
import Derived.Test.YtmmmdidbnjcooaaDoorRangeT
namespace Go.Proofs.YtmmmdidbnjcooaaDoor
open Go.RowKit

/-- what lies from N on stays. -/
def Up (N : Nat) (A B : World) : Prop := A.heap.size ≤ B.heap.size ∧ ∀ b, N ≤ b → b < A.heap.size → B.heap[b]? = A.heap[b]?
theorem Up.refl (N : Nat) (A : World) : Up N A A := ⟨Nat.le_refl _, fun _ _ _ => rfl⟩
theorem Up.trans {N : Nat} {A B C : World} (h : Up N A B) (k : Up N B C) : Up N A C := ⟨Nat.le_trans h.1 k.1, fun b h1 h2 => (k.2 b h1 (Nat.lt_of_lt_of_le h2 h.1)).trans (h.2 b h1 h2)⟩
theorem Up.from_ {N M : Nat} {A B : World} (h : Up N A B) (hm : N ≤ M) : Up M A B := ⟨h.1, fun b h1 h2 => h.2 b (Nat.le_trans hm h1) h2⟩
theorem Up.below {N : Nat} {A B : World} (h : Below A.heap.size A B) : Up N A B := ⟨h.size, fun b _ h2 => h.block b h2⟩
theorem Up.put {N l : Nat} {A : World} {o' : Obj} (hl : l < N) : Up N A (A.putObj l o') := ⟨by simp, fun b h1 _ => World.putObj_heap_other (by omega)⟩
/-- rows that lie from N on stay. -/
def CellsUp (N : Nat) (A B : World) : Prop := ∀ b arr e fz, N ≤ b → A.heap[b]? = some (.cells arr e fz) → B.heap[b]? = A.heap[b]?
theorem CellsUp.refl (N : Nat) (A : World) : CellsUp N A A := fun _ _ _ _ _ _ => rfl
theorem CellsUp.trans {N : Nat} {A B C : World} (h : CellsUp N A B) (k : CellsUp N B C) : CellsUp N A C := fun b arr e fz h1 h2 => (k b arr e fz h1 ((h b arr e fz h1 h2).trans h2)).trans (h b arr e fz h1 h2)
theorem CellsUp.from_ {N M : Nat} {A B : World} (h : CellsUp N A B) (hm : N ≤ M) : CellsUp M A B := fun b arr e fz h1 h2 => h b arr e fz (Nat.le_trans hm h1) h2
theorem CellsUp.below {N : Nat} {A B : World} (h : Below A.heap.size A B) : CellsUp N A B := fun b _ _ _ _ h2 => h.block b (Array.getElem?_eq_some_iff.1 h2).1
theorem CellsUp.of_up {N : Nat} {A B : World} (h : Up N A B) : CellsUp N A B := fun b _ _ _ h1 h2 => h.2 b h1 (Array.getElem?_eq_some_iff.1 h2).1
theorem CellsUp.put {N l : Nat} {A : World} {o o' : Obj} (hl : A.heap[l]? = some o) (hc : o.isCells = false) : CellsUp N A (A.putObj l o') := fun b arr e fz _ h2 => World.putObj_heap_other (fun e' => by
  subst e'
  rw [hl] at h2
  obtain rfl := Option.some.inj h2
  cases hc)
theorem Row1.up {N : Nat} {A B : World} {g : Nat} {e : TypeId} {xs : List Value} (h : Row1 A g e xs) (hu : CellsUp N A B) (hg : N ≤ g) : Row1 B g e xs := h.keep (hu g _ _ _ hg h)
theorem below_putR {n0 : Nat} {A : World} {l : Nat} (o' : Obj) (_ : n0 ≤ A.heap.size) (hn : n0 ≤ l) : Below n0 A (A.putObj l o') :=
  ⟨rfl, rfl, rfl, by simp, fun b hb => World.putObj_heap_other (by omega)⟩

/-- how a round may end. -/
def StopsPost {α : Type} (N0 N : Nat) (I : List α → World → Prop) (Ix : Code → List α → World → Prop) (xs : List α) (A : World) : Exit → Act → World → Prop
  | .normal, _, B => (Up N A B ∧ CellsUp N0 A B) ∧ I xs B
  | .ret, _, B => (Up N A B ∧ CellsUp N0 A B) ∧ Ix .ret xs B
  | .exit id, _, B => (Up N A B ∧ CellsUp N0 A B) ∧ Ix (.exit id) xs B
  | .goto _, _, _ => False
  | .panic _, _, _ => False
  | .outgrown, _, _ => False

/-- an iterator: whoever asks it in whatever way, it hands on, one by one, what S tells, or the first ones, till it is told to stop. -/
def SeqO {α : Type} (F : Fence) (n : Nat) (P : Program) (gf : Nat) (lb : Array Value) (encs : α → Array Value) (Ok : α → World → Prop) (S Sp : List α → Prop) (N0 : Nat) (w : World) : Prop :=
  ∀ (l : Nat) (J Jx : List α → World → Prop) (W : World), Below w.heap.size w W → (∀ xs A B, J xs A → Below W.heap.size A B → J xs B) → (∀ xs A B, Jx xs A → Below W.heap.size A B → CellsUp 0 A B → Jx xs B) →
    (∀ pre x A, W.heap.size ≤ A.heap.size → J pre A → Ok x A → YieldAt F (n - 1) P l (encs x) A fun e B => ((e = .returned (.bool true) ∧ J (pre ++ [x]) B) ∨ (e = .returned (.bool false) ∧ Jx (pre ++ [x]) B)) ∧ Up W.heap.size A B ∧ CellsUp N0 A B) →
    J [] W → CallsIn F n P gf (#[.func (.yield l) #[] #[]] ++ lb) W fun e B => (∃ v, e = .returned v) ∧ ((∃ xs, S xs ∧ J xs B) ∨ (∃ pre, Sp pre ∧ Jx pre B))

theorem wpIn_rangeStop {α : Type} {F : Fence} {n : Nat} {P : Program} {g : Operand} {ps : Array Tmp} {assign body : Code} {Q : Exit → Act → World → Prop} {a : Act} {w : World}
    (hro : F.round = none) (h1 : 1 ≤ n) {gf : Nat} {lb : Array Value} (hg : a.eval g = .func (.func gf) #[] lb) (hFg : F.fn gf) (eg : ∀ args w, (callFunc gf args).run P w = .ok (.enter gf args) w)
    {encs : α → Array Value} (hps : ∀ x, (encs x).size = ps.size) (I : List α → World → Prop) (Ix : Code → List α → World → Prop) (Ok : α → World → Prop) (S Sp : List α → Prop)
    (hIb : ∀ xs A B, I xs A → Below w.heap.size A B → I xs B) (hIxb : ∀ c xs A B, Ix c xs A → Below w.heap.size A B → CellsUp 0 A B → Ix c xs B)
    (hOp : ∀ x A l o o', Ok x A → w.heap.size ≤ l → A.heap[l]? = some o → o.isCells = false → Ok x (A.putObj l o'))
    (h0 : I [] w) {N0 : Nat} (hit : SeqO F (n - 1) P gf lb encs Ok S Sp N0 w)
    (a₁ : α → Act)
    (hassign : ∀ (l : Nat) (x : α) (W : World) (K : Act → World → Prop), K (a₁ x) W →
      assign.wpIn (F.inRound l) (n - 1 - 1) P (Exit.then K (fun _ _ _ => False)) { tmps := (ps.zip (encs x)).foldl (fun t (p, v) => t.setIfInBounds p v) a.tmps, defers := [] } W)
    (hbody : ∀ (l : Nat) (pre : List α) (x : α) (A : World), w.heap.size + 2 ≤ A.heap.size → I pre A → Ok x A → body.wpIn (F.inRound l) (n - 1 - 1) P (StopsPost N0 w.heap.size I Ix (pre ++ [x]) A) (a₁ x) A)
    (hdone : ∀ (D : Nat) (xs : List α) (A : World), w.heap.size ≤ D → w.heap.size ≤ A.heap.size → S xs → I xs A → A.heap[D]? = some (.deferred (some [])) → Q .normal { a with defers := { target := .collected D, args := #[] } :: a.defers } A)
    (hstop : ∀ (D : Nat) (c : Code) (pre : List α) (A : World), w.heap.size ≤ D → w.heap.size ≤ A.heap.size → Sp pre → Ix c pre A → A.heap[D]? = some (.deferred (some [])) → c.wpIn F n P Q { a with defers := { target := .collected D, args := #[] } :: a.defers } A) :
    (Code.rangeFunc g ps assign body).wpIn F n P Q a w := by
  refine wpIn_rangeFunc fun fn hfn => ?_
  rw [hro]
  let R : LoopState → Option Code → Loop := fun st pe => { state := st, pending := pe, fn, tmps := a.tmps, params := ps, assign, body, defers := w.heap.size }
  let d := w.heap.size
  let l := w.heap.size + 1
  let W0 := (w.alloc (.deferred (some []))).alloc (.loop (R .ready none))
  have hL0 : W0.heap[l]? = some (.loop (R .ready none)) := by
    have := World.alloc_heap_new (w.alloc (.deferred (some []))) (.loop (R .ready none))
    rwa [World.size_alloc] at this
  have hD0 : W0.heap[d]? = some (.deferred (some [])) := (Below.heap_alloc _ _ _ (by simp [d])).trans (World.alloc_heap_new w _)
  have hb0 : Below w.heap.size w W0 := ((Below.refl _ w).alloc (Nat.le_refl _) _).alloc (by simp) _
  have hI0 : I [] W0 := hIb _ _ _ h0 hb0
  have hs0 : W0.heap.size = w.heap.size + 2 := by simp [W0]
  refine ⟨l, [{ target := .collected d, args := #[] }], W0, { target := .fn (.func gf) lb, args := #[.func (.yield l) #[] #[]] }, W0, gf, #[.func (.yield l) #[] #[]] ++ lb, W0, run_enterLoop_outer _ _ _ _ _, ?_, ?_, ?_, fun _ => h1, ?_⟩
  · simp only [resolve, hg]
    simp [go_sem]
  · intro f' hf'
    simp [Target.leads] at hf'
    subst hf'
    exact hFg
  · simp [invoke, go_sem, eg]
  · refine (hit l (fun xs A => I xs A ∧ A.heap[l]? = some (.loop (R .ready none)) ∧ A.heap[d]? = some (.deferred (some [])) ∧ W0.heap.size ≤ A.heap.size)
      (fun xs A => ∃ c, Ix c xs A ∧ A.heap[l]? = some (.loop (R .done (some c))) ∧ A.heap[d]? = some (.deferred (some [])) ∧ W0.heap.size ≤ A.heap.size) W0 hb0 (fun xs A B hJ hb => ?_) (fun xs A B hJ hb hcu => ?_) (fun pre x A hA hJ hx => ?_) ⟨hI0, hL0, hD0, Nat.le_refl _⟩).mono ?_
    · exact ⟨hIb _ _ _ hJ.1 (hb.mono (by omega)), (hb.block _ (by omega)).trans hJ.2.1, (hb.block _ (by omega)).trans hJ.2.2.1, Nat.le_trans hJ.2.2.2 hb.size⟩
    · obtain ⟨c, hJ⟩ := hJ
      exact ⟨c, hIxb _ _ _ _ hJ.1 (hb.mono (by omega)) hcu, (hb.block _ (by omega)).trans hJ.2.1, (hb.block _ (by omega)).trans hJ.2.2.1, Nat.le_trans hJ.2.2.2 hb.size⟩
    · obtain ⟨hi, hl, hd, _⟩ := hJ
      have hy := run_yield (P := P) (args := encs x) hl (hps x)
      refine ⟨fn, _, assign, body, hy, roundIn_of_wpIn hfn (hassign l x A _ ⟨_, run_beginRound hl rfl, ?_⟩)⟩
      have hll : l < A.heap.size := by omega
      have hi2 := hIb _ _ _ hi (below_putR (l := l) (.loop { R .ready none with state := .busy }) (by omega) (by omega))
      have hx2 := hOp _ _ _ _ (.loop { R .ready none with state := .busy }) hx (by omega) hl rfl
      have hl2 : (A.putObj l (.loop { R .ready none with state := .busy })).heap[l]? = some (.loop { R .ready none with state := .busy }) := World.putObj_heap_same hll
      have hd2 : (A.putObj l (.loop { R .ready none with state := .busy })).heap[d]? = some (.deferred (some [])) := (World.putObj_heap_other (by omega)).trans hd
      refine wpIn_mono (hbody l pre x _ (by simp; omega) hi2 hx2) ?_
      intro e a3 B hp
      have fin : ∀ jump : Option Code, Up w.heap.size (A.putObj l (.loop { R .ready none with state := .busy })) B ∧ CellsUp N0 (A.putObj l (.loop { R .ready none with state := .busy })) B →
          (Instr.endRound l jump).run P B = .ok (.bool jump.isNone) (B.putObj l (.loop (R (if jump.isNone then .ready else .done) jump))) ∧ B.heap[l]? = some (.loop { R .ready none with state := .busy }) ∧
          (B.putObj l (.loop (R (if jump.isNone then .ready else .done) jump))).heap[l]? = some (.loop (R (if jump.isNone then .ready else .done) jump)) ∧
          (B.putObj l (.loop (R (if jump.isNone then .ready else .done) jump))).heap[d]? = some (.deferred (some [])) ∧ W0.heap.size ≤ (B.putObj l (.loop (R (if jump.isNone then .ready else .done) jump))).heap.size ∧
          Up W0.heap.size A (B.putObj l (.loop (R (if jump.isNone then .ready else .done) jump))) ∧ CellsUp N0 A (B.putObj l (.loop (R (if jump.isNone then .ready else .done) jump))) := fun jump hu0 => by
        obtain ⟨hu, hcu⟩ := hu0
        have hsz := hu.1
        rw [World.putObj_size] at hsz
        have hl3 := (hu.2 l (by omega) (by simpa using hll)).trans hl2
        have hd3 := (hu.2 d (Nat.le_refl _) (by simp; omega)).trans hd2
        refine ⟨run_endRound (P := P) jump hl3, hl3, World.putObj_heap_same (by omega), (World.putObj_heap_other (by omega)).trans hd3, by simp; omega, ?_⟩
        exact ⟨(Up.put (by omega)).trans ((hu.from_ (by omega)).trans (Up.put (by omega))), (CellsUp.put hl rfl).trans (hcu.trans (CellsUp.put hl3 rfl))⟩
      cases e with
      | normal =>
        obtain ⟨hu, hib⟩ := hp
        obtain ⟨hr, hl3, hl4, hd4, hs4, hu4⟩ := fin none hu
        exact ⟨_, _, hr, .inl ⟨rfl, hIb _ _ _ hib (below_putR _ (by have := (Array.getElem?_eq_some_iff.1 hl3).1; omega) (by omega)), hl4, hd4, hs4⟩, hu4⟩
      | ret =>
        obtain ⟨hu, hib⟩ := hp
        obtain ⟨hr, hl3, hl4, hd4, hs4, hu4⟩ := fin (some .ret) hu
        exact ⟨_, _, hr, .inr ⟨rfl, .ret, hIxb _ _ _ _ hib (below_putR _ (by have := (Array.getElem?_eq_some_iff.1 hl3).1; omega) (by omega)) (CellsUp.put hl3 rfl), hl4, hd4, hs4⟩, hu4⟩
      | exit id =>
        obtain ⟨hu, hib⟩ := hp
        obtain ⟨hr, hl3, hl4, hd4, hs4, hu4⟩ := fin (some (.exit id)) hu
        exact ⟨_, _, hr, .inr ⟨rfl, .exit id, hIxb _ _ _ _ hib (below_putR _ (by have := (Array.getElem?_eq_some_iff.1 hl3).1; omega) (by omega)) (CellsUp.put hl3 rfl), hl4, hd4, hs4⟩, hu4⟩
      | goto t => exact hp.elim
      | panic ch => exact hp.elim
      | outgrown => exact hp.elim
    · rintro e B ⟨⟨v, rfl⟩, (⟨xs, hS, hi, hl, hd, hsz⟩ | ⟨pre, hS, c, hi, hl, hd, hsz⟩)⟩
      · have hll := (Array.getElem?_eq_some_iff.1 hl).1
        exact ⟨none, _, run_endLoop hl (by simp [R]), hdone d xs _ (Nat.le_refl _) (by simp; omega) hS (hIb _ _ _ hi (below_putR _ (by omega) (by omega))) ((World.putObj_heap_other (by omega)).trans hd)⟩
      · have hll := (Array.getElem?_eq_some_iff.1 hl).1
        exact ⟨some c, _, run_endLoop hl (by simp [R]), hstop d c pre _ (Nat.le_refl _) (by simp; omega) hS (hIxb _ _ _ _ hi (below_putR _ (by omega) (by omega)) (CellsUp.put hl rfl)) ((World.putObj_heap_other (by omega)).trans hd)⟩
end Go.Proofs.YtmmmdidbnjcooaaDoor
