/-
  The document's numbers (consistoryref01) for the admit family.
-/
import Derived.Test.YtlbhmoiicbhgkaaDoorAdmQ1
import Derived.Test.YtlbhmoiicbhgkaaDoorAdmQ2
import Derived.Test.YtlbhmoiicbhgkaaDoorAdmQ3
import Derived.Test.YtlbhmoiicbhgkaaDoorAdmQ4
import Derived.Test.YtlbhmoiicbhgkaaDoorAdmQ5
import Derived.Test.YtlbhmoiicbhgkaaDoorAdmQ6
import Derived.Test.YtlbhmoiicbhgkaaDoorAdmQ7
import Derived.Test.YtlbhmoiicbhgkaaDoorAdmQ8
import Derived.Test.YtlbhmoiicbhgkaaDoorRows
import Derived.Test.YtlbhmoiicbhgkaaDoorPlain
import Derived.WalkKit
import Derived.WalkSpells
import Derived.WalkLawsBesides
import Derived.Deep.QuietTactic
import Derived.Deep.Upon
import Derived.BigQuiet
import Derived.OwnWalk
import Derived.Maps.AppendAt
import Derived.RangeFuncNested
import Derived.RangeFuncBound
import Derived.RangeFuncCalls
import Derived.RangeFuncLeaves
import Derived.RangeFuncFrom
import Derived.Shelf.Small.Bits
import Derived.Shelf.Strconv.Itoa0
import Derived.Shelf.Bits.Mul64
import Derived.Shelf.Spec.TrailingZeros
import Derived.Shelf.Lays7
import Derived.Test.YtlbhmoiicbhgkaaDoorProg
import Derived.Lib.BitFns
import Derived.Lib.ItoaNum
import Derived.Laws.BitsAllLaws
import Derived.Test.YtlbhmoiicbhgkaaDoorPrP
import Derived.Deep.LoopGhost
import Derived.Maps.RangeWalk
import Derived.Maps.OwnOps
import Derived.Maps.OwnSet
import Derived.Maps.Views
import Derived.Maps.Keyed
import Derived.Orders
import Derived.NoCompiler
import Derived.Laws.CopyOwn
import Derived.Laws.EntriesVeiled
import Derived.Deep.Cut
import Derived.StillTailTactics
import Derived.Below
import Derived.ChangeSame
import Derived.ProofKit
import Derived.OrdersIn
import Derived.RegionTactic
import Derived.ChangeAlike
import Derived.Test.YtlbhmoiicbhgkaaDoorPsA
import Derived.Deep.RegionWith
import Derived.Laws.AppendOwnNone
import Derived.Lib.SliceRun
import Derived.Shelf.Abstract
import Derived.Shelf.RegionOpen
import Derived.OwnWalkIn
import Derived.TacticsInMore
import Derived.LoopNIn
import Derived.LoopIn
import Derived.IntWalk
section
namespace Go.Proofs.YtlbhmoiicbhgkaaDoor
open Go.RowKit
/-- what lies from N on stays. -/
def Up (N : Nat) (A B : World) : Prop := A.heap.size ≤ B.heap.size ∧ ∀ b, N ≤ b → b < A.heap.size → B.heap[b]? = A.heap[b]?
theorem Up.refl (N : Nat) (A : World) : Up N A A := ⟨Nat.le_refl _, fun _ _ _ => rfl⟩
theorem Up.trans {N : Nat} {A B C : World} (h : Up N A B) (k : Up N B C) : Up N A C := ⟨Nat.le_trans h.1 k.1, fun b h1 h2 => (k.2 b h1 (Nat.lt_of_lt_of_le h2 h.1)).trans (h.2 b h1 h2)⟩
theorem Up.from_ {N M : Nat} {A B : World} (h : Up N A B) (hm : N ≤ M) : Up M A B := ⟨h.1, fun b h1 h2 => h.2 b (Nat.le_trans hm h1) h2⟩
theorem Up.below {N : Nat} {A B : World} (h : Below A.heap.size A B) : Up N A B := ⟨h.size, fun b _ h2 => h.block b h2⟩
theorem Up.put {N l : Nat} {A : World} {o' : Obj} (hl : l < N) : Up N A (A.putObj l o') := ⟨by simp, fun b h1 _ => World.putObj_heap_other (by omega)⟩
/-- rows that lie from N on stay. -/
def CellsUp (N : Nat) (A B : World) : Prop := ∀ b arr e fz, N ≤ b → A.heap[b]? = some (.cells arr e fz) → B.heap[b]? = A.heap[b]?
theorem CellsUp.refl (N : Nat) (A : World) : CellsUp N A A := fun _ _ _ _ _ _ => rfl
theorem CellsUp.trans {N : Nat} {A B C : World} (h : CellsUp N A B) (k : CellsUp N B C) : CellsUp N A C := fun b arr e fz h1 h2 => (k b arr e fz h1 ((h b arr e fz h1 h2).trans h2)).trans (h b arr e fz h1 h2)
theorem CellsUp.from_ {N M : Nat} {A B : World} (h : CellsUp N A B) (hm : N ≤ M) : CellsUp M A B := fun b arr e fz h1 h2 => h b arr e fz (Nat.le_trans hm h1) h2
theorem CellsUp.below {N : Nat} {A B : World} (h : Below A.heap.size A B) : CellsUp N A B := fun b _ _ _ _ h2 => h.block b (Array.getElem?_eq_some_iff.1 h2).1
theorem CellsUp.put {N l : Nat} {A : World} {o o' : Obj} (hl : A.heap[l]? = some o) (hc : o.isCells = false) : CellsUp N A (A.putObj l o') := fun b arr e fz _ h2 => World.putObj_heap_other (fun e' => by
  subst e'
  rw [hl] at h2
  obtain rfl := Option.some.inj h2
  cases hc)
end Go.Proofs.YtlbhmoiicbhgkaaDoor
end

section
namespace Go.Proofs.YtlbhmoiicbhgkaaDoor
/-- the value over the whole numbers. -/
def ev : List Int → Int → Int
  | [], _ => 0
  | c :: l, x => c + x * ev l x
/-- congruence modulo q. -/
theorem emod_add_congr {a b c d q : Int} (h : a % q = b % q) (k : c % q = d % q) : (a + c) % q = (b + d) % q := by
  rw [Int.add_emod, h, k, ← Int.add_emod]
theorem emod_mul_congr {a b c d q : Int} (h : a % q = b % q) (k : c % q = d % q) : (a * c) % q = (b * d) % q := by
  rw [Int.mul_emod, h, k, ← Int.mul_emod]
theorem emod_sub_congr {a b c d q : Int} (h : a % q = b % q) (k : c % q = d % q) : (a - c) % q = (b - d) % q := by
  rw [Int.sub_emod, h, k, ← Int.sub_emod]
theorem take_snocP {α : Type} {l : List α} {k : Nat} {x : α} (h : l[k]? = some x) : l.take (k + 1) = l.take k ++ [x] := by
  rw [List.take_add_one, h]; rfl
theorem ml_mul (a b q : Int) : (a % q * b) % q = (a * b) % q := emod_mul_congr (Int.emod_emod _ _) rfl
theorem mr_mul (a b q : Int) : (a * (b % q)) % q = (a * b) % q := emod_mul_congr rfl (Int.emod_emod _ _)
/-- reduced modulo q: below q, or 0 where there are no numbers. -/
def Red (q x : Int) : Prop := if okm q then x % q = x else x = 0
theorem Red.add_zero {q x : Int} (h : Red q x) : mAdd x 0 q = x := by
  unfold Red mAdd at *; split
  · rename_i hq; rw [if_pos hq] at h; rw [Int.add_zero, h]
  · rename_i hq; rw [if_neg hq] at h; exact h.symm
end Go.Proofs.YtlbhmoiicbhgkaaDoor
end

section
namespace Go.Proofs.YtlbhmoiicbhgkaaDoor
open Go.RowKit
open Go.RowKit
theorem U64s.at_ {l : List Int} (h : U64s l) {k : Nat} {z : Int} (hk : l[k]? = some z) : U64 z := h z (List.mem_of_getElem? hk)
open Go.RowKit
attribute [local go_sem] Oper.semAt_some
open Go.RowKit
attribute [local go_sem] Oper.semAt_some
open Go.RowKit
attribute [local go_sem] Oper.semAt_some
open Go.RowKit
attribute [local go_sem] Oper.semAt_some
open Go.RowKit
attribute [local go_sem] Oper.semAt_some
end Go.Proofs.YtlbhmoiicbhgkaaDoor
end

section
namespace Go.Proofs.YtlbhmoiicbhgkaaDoor
/-- a has an inverse modulo q. -/
def Un (a q : Int) : Prop := ∃ x, (x * a) % q = 1 % q
theorem Un.congr {a b q : Int} (h : Un a q) (he : a % q = b % q) : Un b q := by
  obtain ⟨x, hx⟩ := h
  exact ⟨x, (emod_mul_congr rfl he).symm.trans hx⟩
theorem Un.one (q : Int) : Un 1 q := ⟨1, by simp⟩
theorem Un.mul {a b q : Int} (h : Un a q) (k : Un b q) : Un (a * b) q := by
  obtain ⟨x, hx⟩ := h
  obtain ⟨y, hy⟩ := k
  refine ⟨x * y, ?_⟩
  have e : x * y * (a * b) = x * a * (y * b) := by grind
  rw [e, emod_mul_congr hx hy]
  simp
theorem Un.left {a b q : Int} (h : Un (a * b) q) : Un a q := by
  obtain ⟨x, hx⟩ := h
  exact ⟨x * b, by rw [← hx]; congr 1; grind⟩
theorem Un.right {a b q : Int} (h : Un (a * b) q) : Un b q := by
  obtain ⟨x, hx⟩ := h
  exact ⟨x * a, by rw [← hx]; congr 1; grind⟩
theorem Un.neg {a b q : Int} (h : Un (a - b) q) : Un (b - a) q := by
  obtain ⟨x, hx⟩ := h
  exact ⟨-x, by rw [← hx]; congr 1; grind⟩
theorem Un.cancel {a b q : Int} (h : Un a q) (he : (a * b) % q = 0) : b % q = 0 := by
  obtain ⟨x, hx⟩ := h
  have h1 : (x * a * b) % q = b % q := by
    rw [emod_mul_congr (b := 1) hx (rfl : b % q = b % q), Int.one_mul]
  rw [← h1]
  have h2 : x * a * b = x * (a * b) := by grind
  rw [h2, ← mr_mul, he]
  simp
theorem inv_of_un {a q : Int} (h0 : 0 < q) (h : Un a q) : ∃ x, InvIs a q x := by
  obtain ⟨x, hx⟩ := h
  refine ⟨x % q, Int.emod_nonneg _ (by omega), Int.emod_lt_of_pos _ h0, (x % q * a) / q - 1 / q, ?_⟩
  have h1 : (x % q * a) % q = 1 % q := by rw [ml_mul]; exact hx
  have h2 := Int.mul_ediv_add_emod (x % q * a) q
  have h3 := Int.mul_ediv_add_emod 1 q
  rw [h1] at h2
  rw [Int.mul_sub]
  omega
theorem un_of_inv {a q x : Int} (h : InvIs a q x) : Un a q := by
  obtain ⟨_, _, k, hk⟩ := h
  exact ⟨x, by rw [hk, Int.add_mul_emod_self_left]⟩
theorem iErr_zero {a q : Int} (h : okm q = true) : iErr a q = 0 ↔ Un a q := by
  constructor
  · intro he
    apply Classical.byContradiction
    intro hn
    have := iErr_none h (fun ⟨x, hx⟩ => hn (un_of_inv hx))
    omega
  · intro hu
    obtain ⟨x, hx⟩ := inv_of_un (okm_pos h) hu
    exact iErr_is h hx
/-- all of a row but number i. -/
def but (l : List Int) (i : Nat) : List Int := l.take i ++ l.drop (i + 1)
/-- the same product, modulo q, as it is reckoned. -/
def mProd (l : List Int) (y q : Int) : Int := l.foldl (fun s x => mMul s (mSub y x q) q) (1 % q)
/-- the places are apart, and what lies between any two has an inverse. -/
def Apart (xs : List Int) (q : Int) : Prop := xs.Pairwise fun a b => Un (b - a) q
noncomputable def wOne (xs : List Int) (y q : Int) (i : Nat) : Int := mMul (iVal (mProd (but xs i) (xs.getD i 0) q) q) (mProd (but xs i) y q) q
end Go.Proofs.YtlbhmoiicbhgkaaDoor
end

section
namespace Go.Proofs.YtlbhmoiicbhgkaaDoor
open Go.RowKit Go.Maps
attribute [local go_sem] Oper.semAt_some
/-- the places modulo q. -/
def mods (xs : List Int) (q : Int) : List Int := xs.map (· % q)
def eUnlike (xs : List Int) (q : Int) : Int := if okm q then (if xs.length ≤ 1024 then (if (mods xs q).Nodup then 0 else 6) else 40) else 1
/-- what the map of k places holds. -/
structure Had (ys : List Int) (k : Nat) (D : DataW Unit) : Prop where
  tidy : Tidy D
  keys : ∀ z, has D (.int .u64 z) = true ↔ z ∈ ys.take k
  le : size D ≤ k
  eq : size D = k ↔ (ys.take k).Nodup
theorem Had.start (ys : List Int) : Had ys 0 (.map []) := ⟨tidy_empty, fun z => by simp [has], Nat.le_refl _, by simp [size]⟩
theorem Had.step {ys : List Int} {k : Nat} {D : DataW Unit} {y : Int} (h : Had ys k D) (hy : ys[k]? = some y) (d : DataW Unit) : Had ys (k + 1) (D.put (.int .u64 y) d) := by
  have hs := size_put (k := .int .u64 y) h.tidy d
  have ht := take_snocP hy
  refine ⟨h.tidy.put (k := .int .u64 y) trivial d, fun z => ?_, ?_, ?_⟩
  · rw [ht, List.mem_append, List.mem_singleton]
    by_cases hz : z = y
    · subst hz
      rw [has_put_same (k := .int .u64 z) h.tidy.isMap trivial]
      simp
    · rw [has_put_other (fun e => hz (by simpa using e)), h.keys]
      simp [hz]
  · have := h.le
    rw [hs]; split <;> omega
  · rw [ht, hs]
    have h1 := h.le
    have h2 := h.eq
    have h3 := h.keys y
    by_cases hh : has D (.int .u64 y) = true
    · rw [if_pos hh]
      have := h3.1 hh
      constructor
      · intro; omega
      · intro hn
        exact absurd rfl ((List.nodup_append.1 hn).2.2 y this y (List.mem_singleton.2 rfl))
    · rw [if_neg hh]
      have hn : y ∉ ys.take k := fun hm => hh (h3.2 hm)
      constructor
      · intro he
        have := h2.1 (by omega)
        exact List.nodup_append.2 ⟨this, by simp, fun a ha b hb => by
          rw [List.mem_singleton] at hb
          subst hb
          exact fun e => hn (e ▸ ha)⟩
      · intro he
        have := h2.2 (List.nodup_append.1 he).1
        omega
open Go.RowKit Go.Shelf
attribute [local go_sem] Oper.semAt_some
section
variable {A : World} {l : Nat} {o : Obj} (o' : Obj)
theorem not_at {g : Nat} {arr : Array Value} {e : TypeId} {fz : Nat × Nat} (hl : A.heap[l]? = some o) (hc : o.isCells = false) (h : A.heap[g]? = some (Obj.cells arr e fz)) : g ≠ l := by
  rintro rfl
  rw [h] at hl
  obtain rfl := Option.some.inj hl
  cases hc
theorem Row1.put {g : Nat} {e : TypeId} {xs : List Value} (h : Row1 A g e xs) (hl : A.heap[l]? = some o) (hc : o.isCells = false) : Row1 (A.putObj l o') g e xs := h.keep (World.putObj_heap_other (not_at hl hc h))
theorem Cells.put {B : Option Addr} {xs : List Value} (h : Cells A B xs) (hl : A.heap[l]? = some o) (hc : o.isCells = false) : Cells (A.putObj l o') B xs := by
  rcases h with h | ⟨b, off, rfl, h⟩
  · exact .inl h
  · exact .inr ⟨b, off, rfl, fun i u hu => cell_kept (h i u hu) (grownBy_putObj' A l o') (fun r e => by cases e; exact ⟨o, hl, hc⟩)⟩
theorem Grid.put {B : Option Addr} {f : List (List Int)} (h : Grid A B f) (hl : A.heap[l]? = some o) (hc : o.isCells = false) : Grid (A.putObj l o') B f := by
  obtain ⟨vs, h1, h2, h3⟩ := h
  refine ⟨vs, h1.put o' hl hc, h2, fun i m hm => ?_⟩
  obtain ⟨v, hv, B2, c, rfl, h4, h5⟩ := h3 i m hm
  exact ⟨_, hv, B2, c, rfl, h4.put o' hl hc, h5⟩
theorem RowT.put {e : TypeId} {v : Value} {xs : List Value} (h : RowT A e v xs) (hl : A.heap[l]? = some o) (hc : o.isCells = false) : RowT (A.putObj l o') e v xs := h.block fun _ _ _ hb => World.putObj_heap_other (not_at hl hc hb)
end
open Go.RowKit
attribute [local go_sem] Oper.semAt_some
/-- what the iterator has captured. -/
structure Oth (A : Option Addr) (l : List Int) (c : Nat) (i at_ q : Int) (g1 g2 g3 g4 : Nat) (w : World) : Prop where
  r1 : Row1 w g1 23 [.slice A l.length c]
  r2 : Row1 w g2 3 [.int .i64 i]
  r3 : Row1 w g3 24 [.int .u64 q]
  r4 : Row1 w g4 24 [.int .u64 at_]
  A : Cells w A (l.map (.int .u64))
theorem Oth.below {A : Option Addr} {l : List Int} {c : Nat} {i at_ q : Int} {g1 g2 g3 g4 : Nat} {w w' : World} (h : Oth A l c i at_ q g1 g2 g3 g4 w) (hb : Below w.heap.size w w') : Oth A l c i at_ q g1 g2 g3 g4 w' := ⟨h.r1.below hb, h.r2.below hb, h.r3.below hb, h.r4.below hb, h.A.keep fun _p hp => hb.cell hp⟩
open Go.RowKit Go.Shelf
attribute [local go_sem] Oper.semAt_some
open Go.RowKit Go.Shelf
attribute [local go_sem] Oper.semAt_some
theorem Oth.put {A : Option Addr} {l : List Int} {c : Nat} {i at_ q : Int} {g1 g2 g3 g4 m : Nat} {o : Obj} {w : World} (o' : Obj) (h : Oth A l c i at_ q g1 g2 g3 g4 w) (hl : w.heap[m]? = some o) (hc : o.isCells = false) : Oth A l c i at_ q g1 g2 g3 g4 (w.putObj m o') :=
  ⟨h.r1.put o' hl hc, h.r2.put o' hl hc, h.r3.put o' hl hc, h.r4.put o' hl hc, h.A.put o' hl hc⟩
end Go.Proofs.YtlbhmoiicbhgkaaDoor
end

section
namespace Go.Proofs.YtlbhmoiicbhgkaaDoor
open Go.RowKit Go.Shelf
attribute [local go_sem] Oper.semAt_some
def Marks (N : Nat) (Ds : List Nat) (w : World) : Prop := Ds.Nodup ∧ ∀ D ∈ Ds, N ≤ D ∧ w.heap[D]? = some (.deferred (some []))
theorem Marks.nil (N : Nat) (w : World) : Marks N [] w := ⟨List.nodup_nil, fun _ h => by cases h⟩
theorem Marks.lt {N : Nat} {Ds : List Nat} {w : World} (h : Marks N Ds w) {D : Nat} (hD : D ∈ Ds) : D < w.heap.size := (Array.getElem?_eq_some_iff.1 (h.2 D hD).2).1
theorem Marks.below {N K : Nat} {Ds : List Nat} {w w' : World} (h : Marks N Ds w) (hb : Below K w w') (hK : ∀ D ∈ Ds, D < K) : Marks N Ds w' := ⟨h.1, fun D hD => ⟨(h.2 D hD).1, (hb.block D (hK D hD)).trans (h.2 D hD).2⟩⟩
theorem Marks.cons {N D : Nat} {Ds : List Nat} {w : World} (h : Marks N Ds w) (hD : w.heap[D]? = some (.deferred (some []))) (hN : N ≤ D) (hK : ∀ E ∈ Ds, E < D) : Marks N (D :: Ds) w :=
  ⟨List.nodup_cons.2 ⟨fun hm => Nat.lt_irrefl _ (hK D hm), h.1⟩, fun E hE => by
    rcases List.mem_cons.1 hE with rfl | hE
    · exact ⟨hN, hD⟩
    · exact h.2 E hE⟩
/-- the state of the walk through the sets. -/
structure St1 (m fr n gm gf gn gy g5 i l N0 : Nat) (Wz K : Nat) (Ds : List Nat) (A : World) : Prop where
  M : Row1 A gm 3 [.int .i64 ((m : Int) + 1)]
  F : Row1 A gf 3 [.int .i64 (fr : Int)]
  N : Row1 A gn 3 [.int .i64 (n : Int)]
  Y : Row1 A gy 116 [.func (.yield l) #[] #[]]
  I : Row1 A g5 3 [.int .i64 (i : Int)]
  m0 : N0 ≤ gm ∧ N0 ≤ gf ∧ N0 ≤ gn
  y0 : Wz ≤ gy ∧ Wz ≤ g5
  k0 : gm < K ∧ gf < K ∧ gn < K ∧ gy < K ∧ g5 < K ∧ ∀ D ∈ Ds, D < K
  kz : K ≤ A.heap.size
  wz : Wz ≤ A.heap.size
  D : Marks Wz Ds A
section
variable {m fr n gm gf gn gy g5 i l N0 : Nat} {Wz K : Nat} {Ds : List Nat} {A B : World}
theorem St1.below (h : St1 m fr n gm gf gn gy g5 i l N0 Wz K Ds A) (hb : Below K A B) : St1 m fr n gm gf gn gy g5 i l N0 Wz K Ds B :=
  ⟨h.M.keep (hb.block _ h.k0.1), h.F.keep (hb.block _ h.k0.2.1), h.N.keep (hb.block _ h.k0.2.2.1), h.Y.keep (hb.block _ h.k0.2.2.2.1), h.I.keep (hb.block _ h.k0.2.2.2.2.1), h.m0, h.y0, h.k0, Nat.le_trans h.kz hb.size, Nat.le_trans h.wz hb.size, h.D.below hb h.k0.2.2.2.2.2⟩
end
end Go.Proofs.YtlbhmoiicbhgkaaDoor
end

section
namespace Go.Proofs.YtlbhmoiicbhgkaaDoor
open Go.RowKit
attribute [local go_sem] Oper.semAt_some
open Classical in
noncomputable def eApart (xs : List Int) (q : Int) : Int := if Apart xs q then 0 else 5
noncomputable def eAll (xs : List Int) (q : Int) : Int := if eUnlike xs q = 0 then eApart xs q else eUnlike xs q
theorem eAll_yes {xs : List Int} {q : Int} (h : eUnlike xs q = 0) (ha : Apart xs q) : eAll xs q = 0 := by unfold eAll eApart; rw [if_pos h, if_pos ha]
open Go.RowKit
attribute [local go_sem] Oper.semAt_some
end Go.Proofs.YtlbhmoiicbhgkaaDoor
end

section
namespace Go.Proofs.YtlbhmoiicbhgkaaDoor
open Go.RowKit Go.Shelf
attribute [local go_sem] Oper.semAt_some
abbrev ptsL (A B : Option Addr) (n m c d : Nat) (q : Int) : List Value := [.slice A n c, .slice B m d, .int .u64 q]
end Go.Proofs.YtlbhmoiicbhgkaaDoor
end

section
namespace Go.Proofs.YtlbhmoiicbhgkaaDoor
open Go.RowKit Go.Shelf
attribute [local go_sem] Oper.semAt_some
abbrev natv (s : List Nat) : List Value := s.map fun (i : Nat) => Value.int .i64 (i : Int)
end Go.Proofs.YtlbhmoiicbhgkaaDoor
end

section
namespace Go.Proofs.YtlbhmoiicbhgkaaDoor
open Go.RowKit Go.Shelf
attribute [local go_sem] Oper.semAt_some
def DecR (r : List Int × List Nat × Int) (w : World) (x : Ending) (w' : World) : Prop :=
  ∃ v1 v2, x = .returned (.tuple #[v1, v2, .int .i64 r.2.2]) ∧ Own w' w.heap.size 24 v1 (r.1.map (.int .u64)) ∧ Own w' w.heap.size 3 v2 (natv r.2.1) ∧ Below w.heap.size w w'
theorem DecR.none (e : Int) (w w' : World) (hb : Below w.heap.size w w') : DecR ([], [], e) w (.returned (.tuple #[.slice none 0 0, .slice none 0 0, .int .i64 e])) w' :=
  ⟨_, _, rfl, Own.nil _ _ _, Own.nil _ _ _, hb⟩
/-- what lies in memory while sets are tried. -/
structure DS (gx gt g8 g9 g10 gp : Nat) (A B : Option Addr) (n m c d : Nat) (t q : Int) (N : Nat) (w0 w : World) : Prop where
  X : Row1 w gx 23 [.slice A n c]
  T : Row1 w gt 3 [.int .i64 t]
  R8 : Row1 w g8 23 [.slice none 0 0]
  R9 : Row1 w g9 47 [.slice none 0 0]
  R10 : Row1 w g10 29 [.int .i64 0]
  P : Row1 w gp 87 (ptsL A B n m c d q)
  b : Below N w0 w
theorem DS.below {gx gt g8 g9 g10 gp : Nat} {A B : Option Addr} {n m c d : Nat} {t q : Int} {N : Nat} {w0 w5 w w' : World} (h : DS gx gt g8 g9 g10 gp A B n m c d t q N w0 w) (h5 : DS gx gt g8 g9 g10 gp A B n m c d t q N w0 w5) (hN : N ≤ w5.heap.size) (hb : Below w5.heap.size w w') : DS gx gt g8 g9 g10 gp A B n m c d t q N w0 w' :=
  ⟨h.X.keep (hb.block _ h5.X.lt), h.T.keep (hb.block _ h5.T.lt), h.R8.keep (hb.block _ h5.R8.lt), h.R9.keep (hb.block _ h5.R9.lt), h.R10.keep (hb.block _ h5.R10.lt), h.P.keep (hb.block _ h5.P.lt), h.b.trans (hb.mono hN)⟩
theorem Up.setCell {N : Nat} {A B : World} {p : Addr} (h : Up N A B) (hp : p.block < N) (u : Value) : Up N A (B.setCell p u) := ⟨by simpa using h.1, fun b h1 h2 => (Below.heap_setCell B p u b (by omega)).trans (h.2 b h1 h2)⟩
theorem Own.setCell {A : World} {base : Nat} {e : TypeId} {v : Value} {xs : List Value} {p : Addr} (h : Own A base e v xs) (hp : p.block < base) (u : Value) : Own (A.setCell p u) base e v xs := h.keep fun g hg => Below.heap_setCell A p u g (by have := (h.block g hg).1; omega)
end Go.Proofs.YtlbhmoiicbhgkaaDoor
end

section
section
namespace Go.Proofs.YtlbhmoiicbhgkaaDoor
open Go.RowKit
/-- number i of those that are left without number o. -/
def skip (o i : Nat) : Nat := if i < o then i else i + 1
end Go.Proofs.YtlbhmoiicbhgkaaDoor
end
section
namespace Go.Proofs.YtlbhmoiicbhgkaaDoor
open Go Go.RowKit Go.Maps Go.Shelf Go.Proofs
attribute [local go_sem] Oper.semAt_some
/-- two rows of the call's own, of seven numbers at most, as long as one another. -/
structure PtsR (w : World) (base : Nat) (v1 v2 : Value) (X Y : List Int) : Prop where
  x : Own w base 24 v1 (X.map (.int .u64))
  y : Own w base 24 v2 (Y.map (.int .u64))
  ne : ∀ g, v1.ownBlock = some g → v2.ownBlock ≠ some g
  len : X.length = Y.length
  few : X.length ≤ 7
  ux : U64s X
  uy : U64s Y
theorem PtsR.below {w w' : World} {base : Nat} {v1 v2 : Value} {X Y : List Int} (h : PtsR w base v1 v2 X Y) (hb : Below w.heap.size w w') : PtsR w' base v1 v2 X Y := ⟨h.x.below hb, h.y.below hb, h.ne, h.len, h.few, h.ux, h.uy⟩
theorem U64s.snoc {X : List Int} {z : Int} (h : U64s X) (hz : U64 z) : U64s (X ++ [z]) := fun x hx => by
  rcases List.mem_append.1 hx with hx | hx
  · exact h x hx
  · rw [List.mem_singleton.1 hx]; exact hz
end Go.Proofs.YtlbhmoiicbhgkaaDoor
end
section
namespace Go.Proofs.YtlbhmoiicbhgkaaDoor
open Go Go.RowKit Go.Maps Go.Shelf Go.Proofs
attribute [local go_sem] Oper.semAt_some
/-- what is known while a row is made without one. -/
structure EraseB (w0 : World) (L1 L2 : List Value) (g : Rgi.Ghost) (w : World) : Prop where
  b : Below w0.heap.size w0 w
  lit : ∀ v, g 0 = some v → g 4 = none → Own w w0.heap.size 24 v []
  one : ∀ v, g 4 = some v → g 9 = none → Own w w0.heap.size 24 v L1
  two : ∀ v, g 9 = some v → Own w w0.heap.size 24 v (L1 ++ L2)
  ord : g 4 = none → g 9 = none
theorem EraseB.start (w0 : World) (L1 L2 : List Value) : EraseB w0 L1 L2 (fun _ => none) w0.drew :=
  ⟨⟨rfl, rfl, rfl, Nat.le_refl _, fun _ _ => rfl⟩, fun _ h => (by cases h), fun _ h => (by cases h), fun _ h => (by cases h), fun _ => rfl⟩
end Go.Proofs.YtlbhmoiicbhgkaaDoor
end
end

section
namespace Go.Proofs.YtlbhmoiicbhgkaaDoor
open Go.RowKit
attribute [local go_sem] Oper.semAt_some
open Go.RowKit
/-- the first k are the same. -/
def SameUptoN (la lb : List Int) (k : Nat) : Prop := ∀ i, i < k → la[i]? = lb[i]?
theorem SameUptoN.step {la lb : List Int} {k : Nat} {x : Int} (h : SameUptoN la lb k) (ha : la[k]? = some x) (hb : lb[k]? = some x) : SameUptoN la lb (k + 1) := by
  intro i hi
  rcases Nat.lt_or_ge i k with h' | h'
  · exact h i h'
  · obtain rfl : i = k := by omega
    rw [ha, hb]
theorem SameUptoN.all {la lb : List Int} (hl : la.length = lb.length) (h : SameUptoN la lb la.length) : la = lb := by
  apply List.ext_getElem?
  intro i
  rcases Nat.lt_or_ge i la.length with h' | h'
  · exact h i h'
  · rw [List.getElem?_eq_none h', List.getElem?_eq_none (by omega)]
open Go.RowKit
attribute [local go_sem] Oper.semAt_some
theorem Cells.more {w w' : World} {A : Option Addr} {xs : List Value} (h : Cells w A xs) (hb : Below w.heap.size w w') : Cells w' A xs := h.keep fun _p hp => hb.cell hp
end Go.Proofs.YtlbhmoiicbhgkaaDoor
end

section
namespace Go.Proofs.YtlbhmoiicbhgkaaDoor
open Go Go.Lin Go.Psi
theorem un_of_pr {q a : Int} (h2 : 2 ≤ q) (hp : Pr q.toNat) (h : a % q ≠ 0) : Un a q := by
  obtain ⟨N, rfl⟩ := Int.eq_ofNat_of_zero_le (show 0 ≤ q by omega)
  rw [Int.toNat_natCast] at hp
  have hN : NeZero N := ⟨by omega⟩
  obtain ⟨y, hy⟩ := (fld_of hp).inv (tf N a) fun e => h (tf_iff_zero.1 e)
  refine ⟨y.val, ?_⟩
  have h1 : tf N ((y.val : Int) * a) = tf N 1 := by
    rw [tf_mul, tf_self, tf_one]
    grind
  exact tf_eq.1 h1
theorem ne_sub {a b q : Int} (h : a % q ≠ b % q) : (b - a) % q ≠ 0 := fun e => h (Int.emod_emod_of_dvd a (Int.dvd_refl q) ▸ (by
  have := Int.emod_add_mul_ediv (b - a) q
  rw [e] at this
  rw [show b = a + q * ((b - a) / q) by omega, Int.add_mul_emod_self_left]
  exact Int.emod_emod_of_dvd a (Int.dvd_refl q)))
/-- no two are one another's. -/
def Two (xs : List Int) (q : Int) : Prop := xs.Pairwise fun a b => a % q ≠ b % q
theorem Two.apart {xs : List Int} {q : Int} (h : Two xs q) (h2 : 2 ≤ q) (hp : Pr q.toNat) : Apart xs q :=
  List.Pairwise.imp (fun {_a _b} hab => un_of_pr h2 hp (ne_sub hab)) h
theorem Two.unlike {xs : List Int} {q : Int} (h : Two xs q) (hq : okm q = true) (hl : xs.length ≤ 1024) : eUnlike xs q = 0 := by
  unfold eUnlike
  rw [if_pos hq, if_pos hl, if_pos]
  unfold mods List.Nodup
  rw [List.pairwise_map]
  exact h
theorem Two.all {xs : List Int} {q : Int} (h : Two xs q) (hq : okm q = true) (h2 : 2 ≤ q) (hp : Pr q.toNat) (hl : xs.length ≤ 1024) : eAll xs q = 0 := eAll_yes (h.unlike hq hl) (h.apart h2 hp)
/-- values times weights, one behind the other. -/
noncomputable def sumW (xs ys : List Int) (X q : Int) : Nat → Int
  | 0 => 0
  | k + 1 => mAdd (sumW xs ys X q k) (mMul (wOne xs X q k) (ys.getD k 0) q) q
end Go.Proofs.YtlbhmoiicbhgkaaDoor
end

section
namespace Go.Proofs.YtlbhmoiicbhgkaaDoor
open Go Go.Psi
/-- ahead of: at the first place where they differ. -/
def Lx (s u : List Nat) : Prop := ∃ j a b : Nat, (∀ i : Nat, i < j → s[i]? = u[i]?) ∧ s[j]? = some a ∧ u[j]? = some b ∧ a < b
theorem Lx.cons {s u : List Nat} (h : Lx s u) (x : Nat) : Lx (x :: s) (x :: u) := by
  obtain ⟨j, a, b, h1, h2, h3, h4⟩ := h
  refine ⟨j + 1, a, b, fun i hi => ?_, by simpa using h2, by simpa using h3, h4⟩
  cases i with
  | zero => rfl
  | succ i => simpa using h1 i (by omega)
theorem Lx.ne {s u : List Nat} (h : Lx s u) : s ≠ u := by
  rintro rfl
  obtain ⟨j, a, b, _, h2, h3, h4⟩ := h
  rw [h2] at h3
  obtain rfl := Option.some.inj h3
  omega
end Go.Proofs.YtlbhmoiicbhgkaaDoor
end

section
section
namespace Go.Proofs.YtlbhmoiicbhgkaaDoor
open Go.RowKit
set_option maxHeartbeats 400000 in
theorem radd_c (a b m : Int) (ha : U64 a) (hb : U64 b) (hm : U64 m) (w : World) :
    Calls Tryd.prog 52 #[.int .u64 a, .int .u64 b, .int .u64 m] w fun e w' => e = .returned (.int .u64 (mAdd a b m)) ∧ ∃ n, w' = w.drewN n := by
  have hm' := hm
  obtain ⟨a1, a2⟩ := ha
  obtain ⟨b1, b2⟩ := hb
  obtain ⟨m1, m2⟩ := hm
  by_cases h : okm m = true
  · have h0 := okm_pos h
    have h1 := okm_le h
    have x1 := Int.emod_nonneg a (b := m) (by omega)
    have x2 := Int.emod_lt_of_pos a h0
    have y1 := Int.emod_nonneg b (b := m) (by omega)
    have y2 := Int.emod_lt_of_pos b h0
    have hd : (m == 0) = false := by simp; omega
    go_enter Tryd.func52, Tryd.ntmps52
    go_wp2
    go_quiet (fail)
    go_wp2
    · go_ret
      refine ⟨ret_int ?_, _, rfl⟩
      rw [mAdd_ok h]; exact add_hi h0 ‹_›
    · go_ret
      refine ⟨ret_int ?_, _, rfl⟩
      rw [mAdd_ok h]; exact add_lo h0 ‹_›
  · have h' : okm m = false := by simpa using h
    have hz := okm_not h' m1
    by_cases hm0 : m = 0
    · subst hm0
      go_enter Tryd.func52, Tryd.ntmps52
      go_wp2
      go_ret
      exact ⟨ret_int (mAdd_no h').symm, 0, rfl⟩
    · have hd : (m == 0) = false := by simpa using hm0
      have hg : (2305843009213693952 : Int) < m := by omega
      go_enter Tryd.func52, Tryd.ntmps52
      go_wp2
      go_ret
      exact ⟨ret_int (mAdd_no h').symm, 0, rfl⟩
set_option maxHeartbeats 400000 in
theorem rsub_c (a b m : Int) (ha : U64 a) (hb : U64 b) (hm : U64 m) (w : World) :
    Calls Tryd.prog 86 #[.int .u64 a, .int .u64 b, .int .u64 m] w fun e w' => e = .returned (.int .u64 (mSub a b m)) ∧ ∃ n, w' = w.drewN n := by
  have hm' := hm
  obtain ⟨a1, a2⟩ := ha
  obtain ⟨b1, b2⟩ := hb
  obtain ⟨m1, m2⟩ := hm
  by_cases h : okm m = true
  · have h0 := okm_pos h
    have h1 := okm_le h
    have x1 := Int.emod_nonneg a (b := m) (by omega)
    have x2 := Int.emod_lt_of_pos a h0
    have y1 := Int.emod_nonneg b (b := m) (by omega)
    have y2 := Int.emod_lt_of_pos b h0
    have hd : (m == 0) = false := by simp; omega
    by_cases hc : b % m ≤ a % m
    · go_enter Tryd.func86, Tryd.ntmps86
      go_wp2
      go_quiet (fail)
      go_wp2
      go_quiet (fail)
      go_wp2
      go_ret
      refine ⟨ret_int ?_, _, World.drewN_drewN _ _ _⟩
      rw [mSub_ok h]; exact sub_hi h0 hc
    · go_enter Tryd.func86, Tryd.ntmps86
      go_wp2
      go_quiet (fail)
      go_wp2
      go_quiet (fail)
      go_wp2
      go_ret
      refine ⟨ret_int ?_, _, World.drewN_drewN _ _ _⟩
      rw [mSub_ok h]; exact sub_lo h0 (by omega)
  · have h' : okm m = false := by simpa using h
    have hz := okm_not h' m1
    by_cases hm0 : m = 0
    · subst hm0
      go_enter Tryd.func86, Tryd.ntmps86
      go_wp2
      go_ret
      exact ⟨ret_int (mSub_no h').symm, 0, rfl⟩
    · have hd : (m == 0) = false := by simpa using hm0
      have hg : (2305843009213693952 : Int) < m := by omega
      go_enter Tryd.func86, Tryd.ntmps86
      go_wp2
      go_ret
      exact ⟨ret_int (mSub_no h').symm, 0, rfl⟩
end Go.Proofs.YtlbhmoiicbhgkaaDoor
end
section
namespace Go.Proofs.YtlbhmoiicbhgkaaDoor
open Go.RowKit
set_option maxHeartbeats 400000 in
theorem rmul_c (a b m : Int) (ha : U64 a) (hb : U64 b) (hm : U64 m) (w : World) :
    Calls Tryd.prog 51 #[.int .u64 a, .int .u64 b, .int .u64 m] w fun e w' => e = .returned (.int .u64 (mMul a b m)) ∧ Dr w w' := by
  go_enter Tryd.func51, Tryd.ntmps51
  go_wp2
  go_loopw [0, 1, 7] (fun x y z wr => ∃ a' b' o : Int, x = .int .u64 a' ∧ y = .int .u64 b' ∧ z = .int .u64 o ∧ U64 a' ∧ U64 b' ∧ U64 o ∧ Dr w wr ∧ DblInv a b m a' b' o) (fun _ y _ _ => (intOf y).toNat)
  case atStart => exact ⟨a, b, 0, rfl, rfl, rfl, ha, hb, ⟨by omega, by omega⟩, Dr.refl w, DblInv.start a b m⟩
  case round =>
    obtain ⟨a', b', o, rfl, rfl, rfl, ha', hb', ho, hw, hd⟩ := hrel
    obtain ⟨b1, b2⟩ := id hb'
    obtain ⟨m1, m2⟩ := id hm
    by_cases hb0 : 0 < b'
    · by_cases h2 : b' % 2 = 1
      · have hx : (b' % 2 == 1) = true := by simp [h2]
        have hn := DblInv.odd hd h2 (by omega)
        clear h2
        go_wp2_with (fail)
        refine (radd_c _ _ _ ho ha' hm _).mono ?_; rintro e w1 ⟨rfl, n1, rfl⟩
        go_wp2_with (fail)
        refine (radd_c _ _ _ ha' ha' hm _).mono ?_; rintro e w1 ⟨rfl, n2, rfl⟩
        go_wp2
        go_roundw
        case rel => exact ⟨_, _, _, rfl, rfl, rfl, mAdd_u64 _ _ _, ⟨by omega, by omega⟩, mAdd_u64 _ _ _, by first | exact (hw.more n1).more n2 | exact hw.more (n1 + n2), hn⟩
        case measure => simp [intOf]; omega
      · have hx : (b' % 2 == 1) = false := by simp [h2]
        have hn := DblInv.even hd (by omega) (by omega)
        clear h2
        go_wp2_with (fail)
        refine (radd_c _ _ _ ha' ha' hm _).mono ?_; rintro e w1 ⟨rfl, n2, rfl⟩
        go_wp2
        go_roundw
        case rel => exact ⟨_, _, _, rfl, rfl, rfl, mAdd_u64 _ _ _, ⟨by omega, by omega⟩, ho, hw.more n2, hn⟩
        case measure => simp [intOf]; omega
    · have hfin := DblInv.done hd (by omega)
      go_wp2
      go_ret
      exact ⟨rfl, hw⟩
set_option maxHeartbeats 400000 in
theorem rpow_c (a m : Int) (ha : U64 a) (hm : U64 m) : ∀ (n : Nat) (e : Nat), e ≤ n → e < 18446744073709551616 → ∀ w : World,
    Calls Tryd.prog 116 #[.int .u64 a, .int .u64 (e : Int), .int .u64 m] w fun en w' => en = .returned (.int .u64 (mPow a e m)) ∧ Dr w w' := by
  intro n
  induction n with
  | zero =>
    intro e he _ w
    obtain rfl : e = 0 := by omega
    go_enter Tryd.func116, Tryd.ntmps116
    go_wp2_with (fail)
    refine (radd_c _ _ _ ⟨by omega, by omega⟩ ⟨by omega, by omega⟩ hm _).mono ?_; rintro e w1 ⟨rfl, n2, rfl⟩
    go_wp2
    go_ret
    exact ⟨ret_int (mPow_zero a m).symm, _, rfl⟩
  | succ n ih =>
    intro e he hlt w
    by_cases h0 : e = 0
    · subst h0
      exact ih 0 (by omega) (by omega) w
    have ih' := hid (ih (e / 2) (by omega) (by omega))
    clear ih
    have hz : ((e : Int) == 0) = false := by simp; omega
    have hh : (e : Int) / 2 = ((e / 2 : Nat) : Int) := by omega
    obtain ⟨k, hk⟩ : ∃ k, e / 2 = k := ⟨_, rfl⟩
    rw [hk] at ih' hh
    have hhalf := mPow_u64 a k m
    by_cases h2 : e % 2 = 1
    · have hx : ((e : Int) % 2 == 1) = true := by simp; omega
      have hfin : mPow a e m = mMul (mMul (mPow a k m) (mPow a k m) m) a m := by rw [← mPow_odd, show 2 * k + 1 = e by omega]
      have HF := hid hfin
      clear hfin hk h2 h0
      go_enter Tryd.func116, Tryd.ntmps116
      go_wp2_with (fail)
      refine (ih'.out _).mono ?_; rintro e1 w1 ⟨rfl, hw1⟩
      go_wp2_with (fail)
      refine (rmul_c _ _ _ hhalf hhalf hm _).mono ?_; rintro e1 w2 ⟨rfl, hw2⟩
      go_wp2_with (fail)
      refine (rmul_c _ _ _ (mMul_u64 _ _ _) ha hm _).mono ?_; rintro e1 w3 ⟨rfl, hw3⟩
      go_wp2
      go_ret
      exact ⟨ret_int HF.out.symm, (hw1.trans hw2).trans hw3⟩
    · have hx : ((e : Int) % 2 == 1) = false := by simp; omega
      have hfin : mPow a e m = mMul (mPow a k m) (mPow a k m) m := by rw [← mPow_even, show 2 * k = e by omega]
      have HF := hid hfin
      clear hfin hk h2 h0
      go_enter Tryd.func116, Tryd.ntmps116
      go_wp2_with (fail)
      refine (ih'.out _).mono ?_; rintro e1 w1 ⟨rfl, hw1⟩
      go_wp2_with (fail)
      refine (rmul_c _ _ _ hhalf hhalf hm _).mono ?_; rintro e1 w2 ⟨rfl, hw2⟩
      go_wp2
      go_ret
      exact ⟨ret_int HF.out.symm, hw1.trans hw2⟩
end Go.Proofs.YtlbhmoiicbhgkaaDoor
end
section
namespace Go.Proofs.YtlbhmoiicbhgkaaDoor
open Go.RowKit
/-- m is no modulus: two ways. -/
theorem okm_ways {m : Int} (h : ¬ okm m = true) (h0 : 0 ≤ m) : m = 0 ∨ (2305843009213693952 < m ∧ (m == 0) = false) := by
  have := okm_not (by simpa using h) h0
  rcases this with h | h
  · exact .inl h
  · exact .inr ⟨h, by simp; omega⟩
end Go.Proofs.YtlbhmoiicbhgkaaDoor
end
section
namespace Go.Proofs.YtlbhmoiicbhgkaaDoor
end Go.Proofs.YtlbhmoiicbhgkaaDoor
end
section
namespace Go.Proofs.YtlbhmoiicbhgkaaDoor
open Go.RowKit
end Go.Proofs.YtlbhmoiicbhgkaaDoor
end
section
namespace Go.Proofs.YtlbhmoiicbhgkaaDoor
open Go.RowKit
def Words (f : List (List Int)) : Prop := ∀ l ∈ f, U64s l
theorem Words.at_ {f : List (List Int)} (h : Words f) {k : Nat} {l : List Int} (hk : f[k]? = some l) : U64s l := h l (List.mem_of_getElem? hk)
end Go.Proofs.YtlbhmoiicbhgkaaDoor
end
section
section
namespace Go.Proofs.YtlbhmoiicbhgkaaDoor
open Go.RowKit
attribute [local go_sem] Oper.semAt_some
end Go.Proofs.YtlbhmoiicbhgkaaDoor
end
section
namespace Go.Proofs.YtlbhmoiicbhgkaaDoor
open Go.RowKit
attribute [local go_sem] Oper.semAt_some
end Go.Proofs.YtlbhmoiicbhgkaaDoor
end
section
namespace Go.Proofs.YtlbhmoiicbhgkaaDoor
open Go.RowKit
attribute [local go_sem] Oper.semAt_some
end Go.Proofs.YtlbhmoiicbhgkaaDoor
end
section
namespace Go.Proofs.YtlbhmoiicbhgkaaDoor
open Go.RowKit
attribute [local go_sem] Oper.semAt_some
end Go.Proofs.YtlbhmoiicbhgkaaDoor
end
section
namespace Go.Proofs.YtlbhmoiicbhgkaaDoor
open Go.RowKit
attribute [local go_sem] Oper.semAt_some
end Go.Proofs.YtlbhmoiicbhgkaaDoor
end
section
namespace Go.Proofs.YtlbhmoiicbhgkaaDoor
open Go.RowKit
attribute [local go_sem] Oper.semAt_some
end Go.Proofs.YtlbhmoiicbhgkaaDoor
end
end
section
section
namespace Go.Proofs.YtlbhmoiicbhgkaaDoor
open Go.RowKit
attribute [local go_sem] Oper.semAt_some
end Go.Proofs.YtlbhmoiicbhgkaaDoor
end
section
namespace Go.Proofs.YtlbhmoiicbhgkaaDoor
end Go.Proofs.YtlbhmoiicbhgkaaDoor
end
section
namespace Go.Proofs.YtlbhmoiicbhgkaaDoor
end Go.Proofs.YtlbhmoiicbhgkaaDoor
end
end
section
namespace Go.Proofs.YtlbhmoiicbhgkaaDoor
open Go.RowKit Go.Shelf
attribute [local go_sem] Oper.semAt_some
end Go.Proofs.YtlbhmoiicbhgkaaDoor
end
section
namespace Go.Proofs.YtlbhmoiicbhgkaaDoor
open Go.RowKit Go.Shelf
attribute [local go_sem] Oper.semAt_some
section
variable {A : World} {l : Nat} {o : Obj} (o' : Obj)
end
end Go.Proofs.YtlbhmoiicbhgkaaDoor
end
section
section
namespace Go.Proofs.YtlbhmoiicbhgkaaDoor
open Go.RowKit
attribute [local go_sem] Oper.semAt_some
/-- what Euclid tells of two. -/
structure Bo (a b g x y : Int) : Prop where
  eq : a * x + b * y = g
  da : g ∣ a
  db : g ∣ b
  g0 : 0 ≤ g
  g1 : g ≤ a ∨ g ≤ b
  x0 : -(max 1 b) ≤ x
  x1 : x ≤ max 1 b
  y0 : -(max 1 a) ≤ y
  y1 : y ≤ max 1 a
  z : b = 0 → x = 1 ∧ y = 0
  z2 : a = 0 → b ≠ 0 → x = 0
theorem Bo.base {a : Int} (h : 0 ≤ a) : Bo a 0 a 1 0 := ⟨by omega, Int.dvd_refl _, Int.dvd_zero _, h, .inl (Int.le_refl _), by omega, by omega, by omega, by omega, fun _ => ⟨rfl, rfl⟩, fun _ h => absurd rfl h⟩
theorem Bo.step {a b g x y : Int} (ha : 0 ≤ a) (hb : 0 < b) (h : Bo b (a % b) g x y) : Bo a b g y (x - a / b * y) := by
  have f1 := Int.emod_nonneg a (b := b) (by omega)
  have f2 := Int.emod_lt_of_pos a hb
  have f3 := Int.mul_ediv_add_emod a b
  have q0 : 0 ≤ a / b := Int.ediv_nonneg ha (by omega)
  obtain ⟨heq, hda, hdb, hg0, hg1, hx0, hx1, hy0, hy1, hz, hz2⟩ := h
  generalize a / b = t at *
  generalize a % b = r at *
  have hy0' : -b ≤ y := by omega
  have hy1' : y ≤ b := by omega
  have m1 := Int.mul_le_mul_of_nonneg_left hy1' q0
  have m2 := Int.mul_le_mul_of_nonneg_left hy0' q0
  have e1 : t * b = b * t := Int.mul_comm _ _
  have e2 : t * -b = -(b * t) := by grind
  rw [e1] at m1
  rw [e2] at m2
  refine ⟨?_, ?_, hda, hg0, ?_, by omega, by omega, ?_, ?_, fun h => by omega, fun h0 _ => ?_⟩
  · rw [← f3]; rw [← heq]; grind
  · rw [← f3]; exact Int.dvd_add (Int.dvd_trans hda (Int.dvd_mul_right _ _)) hdb
  · exact .inr (by omega)
  · by_cases hr : r = 0
    · obtain ⟨rfl, rfl⟩ := hz hr; omega
    · omega
  · by_cases hr : r = 0
    · obtain ⟨rfl, rfl⟩ := hz hr; omega
    · omega
  · have hr : r = 0 := by
      have : 0 ≤ b * t := Int.mul_nonneg (by omega) q0
      omega
    exact (hz hr).2
theorem Bo.wrap {a b g x y : Int} (ha : 0 ≤ a) (hb : 0 < b) (h : Bo b (a % b) g x y) (la : a ≤ 2305843009213693952) (lb : b ≤ 2305843009213693952) : -2305843009213693953 ≤ a / b * y ∧ a / b * y ≤ 2305843009213693953 := by
  have f1 := Int.emod_nonneg a (b := b) (by omega)
  have f3 := Int.mul_ediv_add_emod a b
  have q0 : 0 ≤ a / b := Int.ediv_nonneg ha (by omega)
  obtain ⟨_, _, _, _, _, _, _, hy0, hy1, _, _⟩ := h
  generalize a / b = t at *
  generalize a % b = r at *
  have hy0' : -b ≤ y := by omega
  have hy1' : y ≤ b := by omega
  have m1 := Int.mul_le_mul_of_nonneg_left hy1' q0
  have m2 := Int.mul_le_mul_of_nonneg_left hy0' q0
  have e1 : t * b = b * t := Int.mul_comm _ _
  have e2 : t * -b = -(b * t) := by grind
  rw [e1] at m1
  rw [e2] at m2
  omega
def BothE (a b : Int) (w : World) (e : Ending) (w' : World) : Prop := ∃ g x y, e = .returned (.tuple #[.int .i64 g, .int .i64 x, .int .i64 y]) ∧ Bo a b g x y ∧ Dr w w'
set_option maxRecDepth 100000 in
set_option maxHeartbeats 2000000 in
theorem both_c : ∀ (n : Nat) (a b : Int) (w : World), 0 ≤ a → a ≤ 2305843009213693952 → 0 ≤ b → b ≤ 2305843009213693952 → b < n →
    Calls Tryd.prog 85 #[.int .i64 a, .int .i64 b] w (BothE a b w)
  | 0, _, _, _, _, _, h, _, h' => by omega
  | n + 1, a, b, w, ha, la, hb, lb, hn => by
    by_cases hz : b = 0
    · subst hz
      go_enter Tryd.func85, Tryd.ntmps85
      go_wp2
      go_ret3
      exact ⟨_, _, _, rfl, Bo.base ha, Dr.refl _⟩
    · have hp : 0 < b := by omega
      have hbz : (b == 0) = false := beq_eq_false_iff_ne.2 hz
      have f1 := Int.emod_nonneg a (b := b) (by omega)
      have f2 := Int.emod_lt_of_pos a hp
      have f4 : 0 ≤ a / b := Int.ediv_nonneg ha (by omega)
      have f5 : a / b ≤ a := Int.ediv_le_self _ ha
      go_enter Tryd.func85, Tryd.ntmps85
      go_wp2_with (fail)
      refine (both_c n b (a % b) _ (by omega) lb f1 (by omega) (by omega)).mono ?_
      rintro e w2 ⟨g, x, y, rfl, hB, hw2⟩
      have hS := hid (hB.step ha hp)
      have hW := hB.wrap ha hp la lb
      have x0 := hB.x0
      have x1 := hB.x1
      have hwr1 : IntKind.i64.wrap (a / b * y) = a / b * y := Go.IntWalk.i64_in _ (by omega)
      have hwr2 : IntKind.i64.wrap (x - a / b * y) = x - a / b * y := Go.IntWalk.i64_in _ (by omega)
      have htd : a.tdiv b = a / b := Int.tdiv_eq_ediv_of_nonneg ha
      clear hB
      go_wp2
      go_quiet (fail)
      go_wp2
      go_ret3
      exact ⟨_, _, _, rfl, hS.out, hw2.more _⟩
theorem inv_hi {a m g x y : Int} (h : okm m = true) (hB : Bo (a % m) m g x y) (hg : g = 1) (_hx : 0 ≤ x) : InvIs a m (x % m) := by
  have h0 := okm_pos h
  refine ⟨Int.emod_nonneg _ (by omega), Int.emod_lt_of_pos _ h0, ?_⟩
  have heq := hB.eq
  have e1 := Int.emod_def x m
  have e2 := Int.emod_def a m
  rw [e2] at heq
  rw [e1]
  generalize x / m = u at *
  generalize a / m = v at *
  exact ⟨v * x - y - u * a, by grind⟩
theorem inv_lo {a m g x y : Int} (h : okm m = true) (hB : Bo (a % m) m g x y) (hg : g = 1) (hx : x < 0) : InvIs a m (m - (-x) % m) := by
  have h0 := okm_pos h
  have heq := hB.eq
  have f1 := Int.emod_nonneg (-x) (b := m) (by omega)
  have f2 := Int.emod_lt_of_pos (-x) h0
  have hne : (-x) % m ≠ 0 := by
    intro hz
    have hd : m ∣ x := by
      have : m ∣ -x := Int.dvd_of_emod_eq_zero hz
      exact (Int.dvd_neg).1 this
    have h1 : m ∣ 1 := by
      rw [← hg, ← heq]
      exact Int.dvd_add (Int.dvd_trans hd (Int.dvd_mul_left _ _)) (Int.dvd_mul_right _ _)
    have h2 := Int.le_of_dvd (by decide) h1
    obtain rfl : m = 1 := by omega
    have := hB.z2 (by omega) (by decide)
    omega
  refine ⟨by omega, by omega, ?_⟩
  have e1 := Int.emod_def (-x) m
  have e2 := Int.emod_def a m
  rw [e2] at heq
  rw [e1]
  generalize -x / m = u at *
  generalize a / m = v at *
  exact ⟨v * x - y + a + u * a, by grind⟩
theorem inv_none {a m g x y : Int} (hB : Bo (a % m) m g x y) (hg : g ≠ 1) : ¬ ∃ z, InvIs a m z := by
  rintro ⟨z, _, _, k, hk⟩
  have h1 := hB.db
  have h2 : g ∣ a := by
    rw [← Int.mul_ediv_add_emod a m]
    exact Int.dvd_add (Int.dvd_trans h1 (Int.dvd_mul_right _ _)) hB.da
  have h3 : g ∣ 1 := by
    have : (1 : Int) = z * a - m * k := by omega
    rw [this]
    exact Int.dvd_sub (Int.dvd_trans h2 (Int.dvd_mul_left _ _)) (Int.dvd_trans h1 (Int.dvd_mul_right _ _))
  have h4 := Int.le_of_dvd (by decide) h3
  have h5 := hB.g0
  rcases Int.lt_or_eq_of_le h5 with h6 | h6
  · omega
  · rw [← h6] at h3
    have := Int.zero_dvd.1 h3
    omega
set_option maxRecDepth 100000 in
set_option maxHeartbeats 2000000 in
theorem rinv_c (a m : Int) (ha : U64 a) (hm : U64 m) (w : World) :
    Calls Tryd.prog 48 #[.int .u64 a, .int .u64 m] w fun e w' => e = .returned (.tuple #[.int .u64 (iVal a m), .int .i64 (iErr a m)]) ∧ Dr w w' := by
  obtain ⟨a0, a1⟩ := ha
  obtain ⟨m0, m1⟩ := hm
  by_cases h : okm m = true
  · have h0 := okm_pos h
    have h1 := okm_le h
    have f1 := Int.emod_nonneg a (b := m) (by omega)
    have f2 := Int.emod_lt_of_pos a h0
    have hmz : (m == 0) = false := beq_eq_false_iff_ne.2 (by omega)
    go_enter Tryd.func48, Tryd.ntmps48
    go_wp2_with (fail)
    refine (both_c (m.toNat + 1) (a % m) m _ f1 (by omega) (by omega) h1 (by omega)).mono ?_
    rintro e w2 ⟨g, x, y, rfl, hB, hw2⟩
    have x0 := hB.x0
    have x1 := hB.x1
    have g0 := hB.g0
    have g1 := hB.g1
    by_cases hg : g = 1
    · by_cases hx : 0 ≤ x
      · have v1 := hid (iVal_is h (inv_hi h hB hg hx))
        have v2 := hid (iErr_is h (inv_hi h hB hg hx))
        clear hB
        subst hg
        go_wp2
        go_ret2
        rw [v1.out, v2.out]
        exact ⟨rfl, hw2⟩
      · have hx' : x < 0 := by omega
        have v1 := hid (iVal_is h (inv_lo h hB hg hx'))
        have v2 := hid (iErr_is h (inv_lo h hB hg hx'))
        have f3 := Int.emod_nonneg (-x) (b := m) (by omega)
        have f4 := Int.emod_lt_of_pos (-x) h0
        have htm : x.tmod m = -((-x) % m) := by
          have e1 := Int.neg_tmod x m
          rw [Int.tmod_eq_emod_of_nonneg (by omega)] at e1
          omega
        have hwr : IntKind.u64.wrap (m + x.tmod m) = m - (-x) % m := by
          rw [htm]; exact (Go.IntWalk.u64_in _ (by omega)).trans (by omega)
        clear htm
        clear hB
        subst hg
        go_wp2
        go_ret2
        rw [v1.out, v2.out]
        exact ⟨rfl, hw2⟩
    · have hn := inv_none hB hg
      have v1 := hid (iVal_none hn)
      have v2 := hid (iErr_none h hn)
      have hbg : (g != 1) = true := bne_iff_ne.2 hg
      clear hB hn
      go_wp2
      go_ret2
      rw [v1.out, v2.out]
      exact ⟨rfl, hw2⟩
  · have h' : okm m = false := by simpa using h
    have v1 := hid (iVal_no (a := a) h')
    have v2 := hid (iErr_no (a := a) h')
    rcases okm_ways h m0 with rfl | ⟨hgt, hmz⟩
    all_goals
      go_enter Tryd.func48, Tryd.ntmps48
      go_wp2
      go_ret2
      rw [v1.out, v2.out]
      exact ⟨rfl, Dr.refl _⟩
end Go.Proofs.YtlbhmoiicbhgkaaDoor
end
section
namespace Go.Proofs.YtlbhmoiicbhgkaaDoor
open Go.RowKit
attribute [local go_sem] Oper.semAt_some
end Go.Proofs.YtlbhmoiicbhgkaaDoor
end
section
namespace Go.Proofs.YtlbhmoiicbhgkaaDoor
open Go.RowKit
attribute [local go_sem] Oper.semAt_some
end Go.Proofs.YtlbhmoiicbhgkaaDoor
end
section
namespace Go.Proofs.YtlbhmoiicbhgkaaDoor
end Go.Proofs.YtlbhmoiicbhgkaaDoor
end
section
namespace Go.Proofs.YtlbhmoiicbhgkaaDoor
open Go.RowKit
attribute [local go_sem] Oper.semAt_some
end Go.Proofs.YtlbhmoiicbhgkaaDoor
end
end
section
namespace Go.Proofs.YtlbhmoiicbhgkaaDoor
open Go.RowKit
attribute [local go_sem] Oper.semAt_some
def seenW (i k j m : Nat) : Prop := j < i ∧ m < j ∨ j = i ∧ m < k
structure Wr (l : List Int) (q : Int) (i k : Nat) (nb : Bool) : Prop where
  bad : nb = true → ¬ Apart l q
  good : nb = false → ∀ j m a b, seenW i k j m → l[j]? = some a → l[m]? = some b → Un (a - b) q
  ne : ∀ j m a b, seenW i k j m → l[j]? = some a → l[m]? = some b → a % q ≠ b % q
theorem Wr.start (l : List Int) (q : Int) : Wr l q 0 0 false := ⟨fun h => by simp at h, fun _ j m a b h => by unfold seenW at h; omega, fun j m a b h => by unfold seenW at h; omega⟩
theorem Wr.row {l : List Int} {q : Int} {i : Nat} {nb : Bool} (h : Wr l q i i nb) : Wr l q (i + 1) 0 nb := by
  refine ⟨h.bad, fun hn j m a b hs => h.good hn j m a b ?_, fun j m a b hs => h.ne j m a b ?_⟩
  all_goals
    unfold seenW at hs ⊢
    omega
theorem sub_zero_iff {a b q : Int} (h : okm q = true) : mSub a b q = 0 ↔ a % q = b % q := by
  rw [mSub_ok h]
  constructor
  · intro hz
    have : a = (a - b) + b := by omega
    rw [this, emod_add_congr (b := 0) (by rw [hz]; simp) rfl, Int.zero_add]
  · intro he
    rw [emod_sub_congr he rfl, Int.sub_self, Int.zero_emod]
theorem Wr.step {l : List Int} {q : Int} {i k : Nat} {nb : Bool} {x z : Int} (hq : okm q = true) (h : Wr l q i k nb) (hki : k < i) (hx : l[i]? = some x) (hz : l[k]? = some z) (hd : mSub x z q ≠ 0) : Wr l q i (k + 1) (nb || decide (¬ iErr (mSub x z q) q = 0)) := by
  have hne : x % q ≠ z % q := fun he => hd ((sub_zero_iff hq).2 he)
  have hun : iErr (mSub x z q) q = 0 ↔ Un (x - z) q := (iErr_zero hq).trans ⟨fun h => h.congr (by rw [mSub_ok hq, Int.emod_emod]), fun h => h.congr (by rw [mSub_ok hq, Int.emod_emod])⟩
  have hil := (List.getElem?_eq_some_iff.1 hx).1
  have hkl := (List.getElem?_eq_some_iff.1 hz).1
  refine ⟨fun hn => ?_, fun hn j m a b hs ha hb => ?_, fun j m a b hs ha hb => ?_⟩
  · simp only [Bool.or_eq_true, decide_eq_true_eq] at hn
    rcases hn with hn | hn
    · exact h.bad hn
    · intro hap
      have h1 := List.pairwise_iff_getElem.1 hap k i hkl hil hki
      obtain ⟨_, rfl⟩ := List.getElem?_eq_some_iff.1 hx
      obtain ⟨_, rfl⟩ := List.getElem?_eq_some_iff.1 hz
      exact hn (hun.2 h1)
  · simp only [Bool.or_eq_false_iff, decide_eq_false_iff_not, Classical.not_not] at hn
    by_cases hjm : j = i ∧ m = k
    · obtain ⟨rfl, rfl⟩ := hjm
      rw [hx] at ha
      rw [hz] at hb
      obtain rfl := Option.some.inj ha
      obtain rfl := Option.some.inj hb
      exact hun.1 hn.2
    · exact h.good hn.1 j m a b (by unfold seenW at hs ⊢; omega) ha hb
  · by_cases hjm : j = i ∧ m = k
    · obtain ⟨rfl, rfl⟩ := hjm
      rw [hx] at ha
      rw [hz] at hb
      obtain rfl := Option.some.inj ha
      obtain rfl := Option.some.inj hb
      exact hne
    · exact h.ne j m a b (by unfold seenW at hs ⊢; omega) ha hb
end Go.Proofs.YtlbhmoiicbhgkaaDoor
end
section
namespace Go.Proofs.YtlbhmoiicbhgkaaDoor
end Go.Proofs.YtlbhmoiicbhgkaaDoor
end
section
namespace Go.Proofs.YtlbhmoiicbhgkaaDoor
open Go.RowKit
attribute [local go_sem] Oper.semAt_some
end Go.Proofs.YtlbhmoiicbhgkaaDoor
end
end
