/-
  Rows of the call's own read as lists.
-/
import Derived.Test.YtlbhmoiicbhgkaaDoorRnkQ1
import Derived.Test.YtlbhmoiicbhgkaaDoorRnkQ2
import Derived.Test.YtlbhmoiicbhgkaaDoorRnkQ3
import Derived.Test.YtlbhmoiicbhgkaaDoorRnkQ4
import Derived.Test.YtlbhmoiicbhgkaaDoorRnkQ5
import Derived.Test.YtlbhmoiicbhgkaaDoorRnkQ6
import Derived.Test.YtlbhmoiicbhgkaaDoorRnkQ7
import Derived.Test.YtlbhmoiicbhgkaaDoorRnkQ8
namespace Go.Proofs.YtlbhmoiicbhgkaaDoor
open Go Go.RowKit

theorem OwnRows.grid {w : World} {base : Nat} {v : Value} {f : List (List Int)} (h : OwnRows w base 23 24 v (f.map (·.map (.int .u64)))) : ∃ A c, v = .slice A f.length c ∧ Grid w A f ∧ f.length ≤ 9223372036854775807 := by
  obtain ⟨vs, h1, h2, h3⟩ := h
  have hl := h1.len_le
  rw [List.length_map] at h2
  obtain ⟨A, c, rfl, hc⟩ := h1.form
  rw [h2]
  refine ⟨A, c, rfl, ⟨vs, hc, h2, fun i l hl => ?_⟩, by omega⟩
  obtain ⟨u, hu⟩ := get_of_lt (l := vs) (show i < vs.length by have := (List.getElem?_eq_some_iff.1 hl).1; omega)
  refine ⟨u, hu, ?_⟩
  obtain ⟨A', c', rfl, h4, h5⟩ := (h3 i u (l.map (.int .u64)) hu (by rw [List.getElem?_map, hl]; rfl)).form
  exact ⟨A', c', by rw [List.length_map], h4, by simpa using h5⟩
end Go.Proofs.YtlbhmoiicbhgkaaDoor
