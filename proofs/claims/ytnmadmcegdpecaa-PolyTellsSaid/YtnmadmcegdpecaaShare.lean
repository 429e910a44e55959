/-
  How far a place is from the others of its row: the iterator is made.
-/
import Derived.Test.YtnmadmcegdpecaaUnlike
import Derived.Test.YtnmadmcegdpecaaBivG
namespace Go.Proofs.Ytnmadmcegdpecaa
open Go.RowKit

attribute [local go_sem] Oper.semAt_some

/-- what the iterator has captured. -/
structure Oth (A : Option Addr) (l : List Int) (c : Nat) (i at_ q : Int) (g1 g2 g3 g4 : Nat) (w : World) : Prop where
  r1 : Row1 w g1 26 [.slice A l.length c]
  r2 : Row1 w g2 3 [.int .i64 i]
  r3 : Row1 w g3 23 [.int .u64 q]
  r4 : Row1 w g4 23 [.int .u64 at_]
  A : Cells w A (l.map (.int .u64))
theorem Oth.below {A : Option Addr} {l : List Int} {c : Nat} {i at_ q : Int} {g1 g2 g3 g4 : Nat} {w w' : World} (h : Oth A l c i at_ q g1 g2 g3 g4 w) (hb : Below w.heap.size w w') : Oth A l c i at_ q g1 g2 g3 g4 w' := ⟨h.r1.below hb, h.r2.below hb, h.r3.below hb, h.r4.below hb, h.A.keep fun p hp => hb.cell hp⟩

set_option maxRecDepth 100000 in
theorem others_c (A : Option Addr) (l : List Int) (c : Nat) (i at_ q : Int) (w : World) (hA : Cells w A (l.map (.int .u64))) :
    Calls Try.prog 113 #[.slice A l.length c, .int .i64 i, .int .u64 at_, .int .u64 q] w fun e w' => ∃ g1 g2 g3 g4, e = .returned (.func (.func 120) #[] #[.pointer (some ⟨g1, 0, none⟩), .pointer (some ⟨g2, 0, none⟩), .pointer (some ⟨g3, 0, none⟩), .pointer (some ⟨g4, 0, none⟩)]) ∧ Oth A l c i at_ q g1 g2 g3 g4 w' ∧ Below w.heap.size w w' ∧ w.heap.size ≤ g1 ∧ w.heap.size ≤ g2 ∧ w.heap.size ≤ g3 ∧ w.heap.size ≤ g4 := by
  go_enter Try.func113, Try.ntmps113
  go_wp2
  go_ret
  have hb := (((below_alloc w (.cells #[.slice A l.length c] 26)).alloc (by simp) (.cells #[.int .i64 i] 3)).alloc (by simp; omega) (.cells #[.int .u64 at_] 23)).alloc (by simp; omega) (.cells #[.int .u64 q] 23)
  have h1 := (((row1_new w [.slice A l.length c] 26).alloc (.cells #[.int .i64 i] 3)).alloc (.cells #[.int .u64 at_] 23)).alloc (.cells #[.int .u64 q] 23)
  have h2 := ((row1_in (w.alloc (.cells #[.slice A l.length c] 26)) [.int .i64 i] 3 (w.heap.size + 1) (by simp)).alloc (.cells #[.int .u64 at_] 23)).alloc (.cells #[.int .u64 q] 23)
  have h4 := (row1_in ((w.alloc (.cells #[.slice A l.length c] 26)).alloc (.cells #[.int .i64 i] 3)) [.int .u64 at_] 23 (w.heap.size + 1 + 1) (by simp)).alloc (.cells #[.int .u64 q] 23)
  have h3 := row1_in (((w.alloc (.cells #[.slice A l.length c] 26)).alloc (.cells #[.int .i64 i] 3)).alloc (.cells #[.int .u64 at_] 23)) [.int .u64 q] 23 (w.heap.size + 1 + 1 + 1) (by simp)
  exact ⟨_, _, _, _, rfl, ⟨h1, h2, h3, h4, hA.keep fun p hp => hb.cell hp⟩, hb, by omega, by omega, by omega, by omega⟩

end Go.Proofs.Ytnmadmcegdpecaa
