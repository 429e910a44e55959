/-
  How long a slice is that is handed in: no more bytes than can be reached.
-/
import Derived.Test.YtlbhmoiicbhgkaaDoorRnkQ1
import Derived.Test.YtlbhmoiicbhgkaaDoorRnkQ2
import Derived.Test.YtlbhmoiicbhgkaaDoorRnkQ3
import Derived.Test.YtlbhmoiicbhgkaaDoorRnkQ4
import Derived.Test.YtlbhmoiicbhgkaaDoorRnkQ5
import Derived.Test.YtlbhmoiicbhgkaaDoorRnkQ6
import Derived.Test.YtlbhmoiicbhgkaaDoorRnkQ7
import Derived.Test.YtlbhmoiicbhgkaaDoorRnkQ8
import Derived.Deep.Slices
import Derived.SizedLaws
namespace Go.Proofs.YtlbhmoiicbhgkaaDoor
open Go Go.ChangeShapes Go.WideShapes Go.ChangeAt Go.RowKit Go.Deep

section
variable {H : Type} {enc : TypeId × Value → H}
theorem weight_len {P : Program} {t e : TypeId} {b : Nat} {fuel : Nat} {v : Value} {x : DataW H × List MemPlace} {w : World} (ht : P.underlying t = some (.slice e)) (hb : P.bytesOf e = b)
    (h : DataW.trod enc P w 0 (fun _ => true) true fuel t [v] = some x) (hw : ∀ n ∈ x.1.weights P t, n ≤ reachBytes) {A : Option Addr} {n c : Nat} (hv : v = .slice A n c) : n * b ≤ 140737488351232 := by
  rcases open_slice ht h with ⟨h1, _⟩ | ⟨a, len, cap, m, k, D, Pl, h1, _, hl, hm, hmm, hx, hi⟩
  · simp only [List.cons.injEq, and_true] at h1
    rw [hv] at h1
    injection h1 with _ h2 _
    rw [h2, Nat.zero_mul]
    decide
  · simp only [List.cons.injEq, and_true] at h1
    simp only [if_true] at hmm
    rw [hv] at h1
    injection h1 with _ h2 _
    rw [h2]
    have hlen : len * b ≤ reachBytes := by
      rw [hx] at hw
      have := hw ((((List.range len).map D).length + ((List.range (m - len)).map fun j => D (len + j)).length) * P.bytesOf e) (by simp [DataW.weights, ht])
      rw [hb] at this
      simp only [List.length_map, List.length_range] at this
      exact Nat.le_trans (Nat.mul_le_mul_right b (by omega)) this
    exact Nat.le_trans hlen (by decide)
end
end Go.Proofs.YtlbhmoiicbhgkaaDoor
