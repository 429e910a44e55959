/-
  One more behind a row of the call's own.
-/
import Derived.Test.YtcojnjhffmhbiaaDoorAdmQ1
import Derived.Test.YtcojnjhffmhbiaaDoorAdmQ2
import Derived.Test.YtcojnjhffmhbiaaDoorAdmQ3
import Derived.Test.YtcojnjhffmhbiaaDoorAdmQ4
import Derived.Test.YtcojnjhffmhbiaaDoorAdmQ5
import Derived.Test.YtcojnjhffmhbiaaDoorAdmQ6
import Derived.Test.YtcojnjhffmhbiaaDoorAdmQ7
import Derived.Test.YtcojnjhffmhbiaaDoorAdmQ8
import Derived.Test.YtcojnjhffmhbiaaDoorAdmQ9
namespace Go.Proofs.YtcojnjhffmhbiaaDoor
open Go Go.RowKit Go.Proofs

theorem wpList_push_at {P : Program} {t e : TypeId} {z : Value} {bytes : Nat} (E : Elt P t e z bytes) (wr : World) {ops : Array Oper} {rest : List Oper} {o : Oper} {a : Act} {Q : Exit → Act → World → Prop}
    (hg : o.guard = none) (s x : Operand) (hop : o.op = .call { callee := .builtin .append, args := #[s, x], argTypes := #[t, t] })
    (base : Nat) {v : Value} {xs : List Value} (hown : Own wr base e v xs) (hs : a.eval s = v) (u : Value) (g : Nat) (hx : a.eval x = .slice (some ⟨g, 0, none⟩) 1 1) (hu : Row1 wr g e [u]) (h1 : u.oneCell' = true)
    (hb : (xs.length + 1) * bytes ≤ 140737488355328) (hm : xs.length + 1 ≤ 9223372036854775807) (hbase : base ≤ wr.heap.size)
    (hK : ∀ v' w', Own w' base e v' (xs ++ [u]) → wr.grownBy w' v.ownBlock → (v'.ownBlock = v.ownBlock ∨ v'.ownBlock = some wr.heap.size) → wpList P ops Q rest (a.put o.dst v') w') :
    wpList P ops Q (o :: rest) a wr := by
  obtain ⟨i, hi, hz, hsz, hby⟩ := E.info
  refine wpList_append_own_at (P := P) wr hg s x t hop base e i z 1 bytes E.under hi hz hsz hby E.one (by decide) v xs.length xs hs hown ⟨g, 0, none⟩ 1 1 [u] hx rfl (fun j u' hj => ?_) (by simpa using h1) (by unfold maxLen; omega) hb hbase ?_
  · have hadd : (⟨g, 0, none⟩ : Addr).add j = ⟨g, 0 + j, none⟩ := by unfold Addr.add; split <;> simp_all
    rw [hadd, Nat.zero_add]
    exact hu.cell hj
  · intro v' w' h2 h3 _ h5
    refine hK v' w' ?_ h3 h5
    unfold Own; rw [List.length_append]; exact h2
end Go.Proofs.YtcojnjhffmhbiaaDoor
