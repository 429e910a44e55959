/-
  The document's ranks: a number of a row; may a number be; rows of places.
-/
import Derived.Test.YtlbhmoiicbhgkaaDoorAdmQ1
import Derived.Test.YtlbhmoiicbhgkaaDoorAdmQ2
import Derived.Test.YtlbhmoiicbhgkaaDoorAdmQ3
import Derived.Test.YtlbhmoiicbhgkaaDoorAdmQ4
import Derived.Test.YtlbhmoiicbhgkaaDoorAdmQ5
import Derived.Test.YtlbhmoiicbhgkaaDoorAdmQ6
import Derived.Test.YtlbhmoiicbhgkaaDoorAdmQ7
import Derived.Test.YtlbhmoiicbhgkaaDoorAdmQ8
import Derived.Test.YtlbhmoiicbhgkaaDoorMinR
import Derived.Test.YtlbhmoiicbhgkaaDoorMoreG
namespace Go.Proofs.YtlbhmoiicbhgkaaDoor
open Go Go.RowKit Go.Maps Go.Shelf Go.Proofs Go.Lin Go.Psi

attribute [local go_sem] Oper.semAt_some

/-- places, as they lie. -/
def intv (l : List Nat) : List Value := l.map fun (n : Nat) => Value.int .i64 (n : Int)
theorem intv_len (l : List Nat) : (intv l).length = l.length := by simp [intv]
theorem intv_at {l : List Nat} {k n : Nat} (h : l[k]? = some n) : (intv l)[k]? = some (.int .i64 (n : Int)) := by unfold intv; rw [List.getElem?_map, h]; rfl
theorem intv_ones (l : List Nat) : ∀ u ∈ intv l, u.oneCell' = true := by
  intro u hu
  unfold intv at hu
  obtain ⟨n, _, rfl⟩ := List.mem_map.1 hu
  rfl
theorem intv_take (l : List Nat) (k : Nat) : (intv l).take k = intv (l.take k) := by unfold intv; rw [List.map_take]
theorem intv_drop (l : List Nat) (k : Nat) : (intv l).drop k = intv (l.drop k) := by unfold intv; rw [List.map_drop]
theorem elt_int' : Elt Tryd.prog 47 3 (.int .i64 0) 8 := Elt.of Tryd.underlying47 (by kernel_rfl) rfl
theorem elt_ints : Elt Tryd.prog 67 47 (.slice none 0 0) 24 := Elt.of Tryd.underlying67 (by kernel_rfl) rfl
theorem intv_app (a b : List Nat) : intv (a ++ b) = intv a ++ intv b := by unfold intv; rw [List.map_append]
set_option maxRecDepth 100000 in
theorem at04_c (A : Option Addr) (l : List Int) (c j : Nat) (q : Int) (w : World) (hA : Cells w A (u64v l)) (_hl : l.length ≤ 9223372036854775807) (hu : U64s l) (hq : 0 < q) :
    Calls Tryd.prog 50 #[.slice A l.length c, .int .i64 (j : Int), .int .u64 q] w fun e w' => e = .returned (.int .u64 (nth l j % q)) ∧ w = w' := by
  have hq0 : (q == 0) = false := by rw [beq_eq_false_iff_ne]; omega
  by_cases h : j < l.length
  · obtain ⟨x, hx⟩ := get_of_lt h
    obtain ⟨b, o, rfl, hc⟩ := hA.at_map hx
    have hux := hu x (List.mem_of_getElem? hx)
    have hn : nth l j = x := by unfold nth; rw [List.getD_eq_getElem?_getD, hx]; rfl
    have h1 : ¬ (l.length : Int) ≤ (j : Int) := by omega
    have ht := Int.tmod_eq_emod_of_nonneg (b := q) hux.lo
    rw [hn]
    clear hn hA hx hu
    go_enter Tryd.func50, Tryd.ntmps50
    go_wp2
    go_ret
    exact ⟨rfl, rfl⟩
  · rw [show nth l j % q = 0 by rw [nth_ge (by omega)]; simp]
    have h1 : (l.length : Int) ≤ (j : Int) := by omega
    clear hA hu
    go_enter Tryd.func50, Tryd.ntmps50
    go_wp2
    go_ret
    exact ⟨rfl, rfl⟩
end Go.Proofs.YtlbhmoiicbhgkaaDoor
