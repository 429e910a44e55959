/-
  An append to a row of the call's own: where the new row lies.
-/
import Derived.Test.YtlbhmoiicbhgkaaDoorAdmQ1
import Derived.Test.YtlbhmoiicbhgkaaDoorAdmQ2
import Derived.Test.YtlbhmoiicbhgkaaDoorAdmQ3
import Derived.Test.YtlbhmoiicbhgkaaDoorAdmQ4
import Derived.Test.YtlbhmoiicbhgkaaDoorAdmQ5
import Derived.Test.YtlbhmoiicbhgkaaDoorAdmQ6
import Derived.Test.YtlbhmoiicbhgkaaDoorAdmQ7
import Derived.Test.YtlbhmoiicbhgkaaDoorAdmQ8
import Derived.Laws.AppendOwn
namespace Go.Proofs.YtlbhmoiicbhgkaaDoor
open Go Go.RowKit

/-- where a row lies, once there was an append to it: where it lay, or behind all that there was. -/
def Near (w : World) (v v' : Value) : Prop := ∀ g, v'.ownBlock = some g → v.ownBlock = some g ∨ w.heap.size ≤ g
theorem run_append_near {P : Program} (w : World) (base : Nat) (t ty e : TypeId) (i : TypeInfo) (z : Value) (size bytes : Nat) (ht : P.underlying t = some (.slice e)) (hi : P.info? e = some i) (hz : i.zero = some z)
    (hsize : i.size = size) (hby : i.bytes = bytes) (hzs : z.cells.size = size) (hsz : 0 < size)
    (v : Value) (n : Nat) (xs : List Value) (hown : w.ownsRow base e size v n xs)
    (a : Addr) (m c : Nat) (news : List Value) (hl : news.length = m * size) (hnews : ∀ j u, news[j]? = some u → w.cell? (a.add j) = some u) (h1 : ∀ u ∈ news, u.oneCell' = true)
    (h63 : n + m ≤ maxLen) (hbytes : (n + m) * bytes ≤ 140737488355328) (hbase : base ≤ w.heap.size) :
    ∃ v' w', (Builtin.append_ #[t, t] ty #[v, .slice (some a) m c]).run P w = .ok v' w' ∧ w'.ownsRow base e size v' (n + m) (xs ++ news) ∧ w.grownBy w' v.ownBlock ∧ Near w v v' := by
  obtain ⟨v', w', hr, h2, h3, h4⟩ := run_append_own (P := P) w base t ty e i z size bytes ht hi hz hsize hby hzs hsz v n xs hown a m c news hl hnews h1 h63 hbytes hbase
  refine ⟨v', w', hr, h2, h3, ?_⟩
  have hsmall : n + m ≤ 9223372036854775807 := by simp only [maxLen] at h63; omega
  subst hsize
  subst hby
  rcases hown.2 with ⟨rfl, rfl⟩ | ⟨g, cap, cur, rfl, hbg, hg, hnc, hcm, hcs, htake⟩
  · by_cases hm : m = 0
    · rw [h4.2 ⟨rfl, hm⟩]
      intro g hg
      cases hg
    · have hx : xs = [] := List.eq_nil_of_length_eq_zero (by simpa using hown.1)
      have hr2 := run_append_nil (P := P) w t ty e i z ht hi hz a m c news hl hnews (by omega) (by omega) (by have hb := hbytes; simp only [Nat.zero_add] at hb; omega)
      rw [hr] at hr2
      injection hr2 with e1 e2
      rw [e1]
      intro g hg
      simp only [Value.ownBlock, Option.some.injEq] at hg
      exact .inr (by omega)
  · by_cases hroom : n + m ≤ cap
    · obtain ⟨w2, hr2, -, -⟩ := run_append_fits (P := P) w base t ty e i i.size ht hi rfl g n cap xs hown a m c news hl hnews h1 hroom
      rw [hr] at hr2
      injection hr2 with e1 e2
      rw [e1]
      intro g' hg'
      exact .inl hg'
    · have holds : ∀ j u, xs[j]? = some u → w.cell? ((⟨g, 0, none⟩ : Addr).add j) = some u := hown.cells (g := g) rfl
      have hr2 := run_append_grow (P := P) w t ty e i z ht hi hz ⟨g, 0, none⟩ n cap xs hown.1 holds a m c news hl hnews (by omega) (by omega) (growslice_fits (by omega) hbytes)
      rw [hr] at hr2
      injection hr2 with e1 e2
      rw [e1]
      intro g' hg'
      simp only [Value.ownBlock, Option.some.injEq] at hg'
      exact .inr (by omega)
/-- 'append(s, u)': one, which lies in a block that was laid for it just now. -/
theorem wpList_pushN {P : Program} {t e : TypeId} {z : Value} {bytes : Nat} (E : Elt P t e z bytes) (wr : World) {ops : Array Oper} {rest : List Oper} {o : Oper} {a : Act} {Q : Exit → Act → World → Prop}
    (hg : Region.wanted o (yielded ops a.tmps) = true) (s x : Operand) (hop : o.op = .call { callee := .builtin .append, args := #[s, x], argTypes := #[t, t] })
    (base : Nat) {v : Value} {xs : List Value} (hown : Own wr base e v xs) (hs : a.eval s = v) (u : Value) (hx : a.eval x = .slice (some ⟨wr.heap.size, 0, none⟩) 1 1) (h1 : u.oneCell' = true)
    (hb : (xs.length + 1) * bytes ≤ 140737488355328) (hm : xs.length + 1 ≤ 9223372036854775807) (hbase : base ≤ wr.heap.size)
    (hK : ∀ v' w', Own w' base e v' (xs ++ [u]) → (∀ k, k < wr.heap.size → some k ≠ v.ownBlock → w'.heap[k]? = wr.heap[k]?) → Below base wr w' → Near wr v v' → wpList P ops Q rest (a.put o.dst v') w') :
    wpList P ops Q (o :: rest) a (wr.alloc (.cells #[u] e)) := by
  refine wpList_step fun K hK' => ?_
  rw [if_pos hg]
  obtain ⟨i, hi, hz, hsz, hby⟩ := E.info
  obtain ⟨v', w', hr, h2, h3, h4⟩ := run_append_near (P := P) (wr.alloc (.cells #[u] e)) base t o.type e i z 1 bytes E.under hi hz hsz hby E.one (by decide) v xs.length xs (hown.alloc _) ⟨wr.heap.size, 0, none⟩ 1 1 [u] rfl (cell_one_new _ _ _)
    (by simpa using h1) (by unfold maxLen; omega) hb (by simp; omega)
  unfold Oper.wp execOp
  simp only [hop, resolve, invoke, builtin, Sem.run_bind, Sem.run_pure, Result.andThen_ok, List.map_toArray, List.map_cons, List.map_nil, hs, hx, hr]
  refine hK' _ _ (hK v' w' ?_ (fun k hk hne => ?_) ?_ fun g hg => ?_)
  · unfold Own; rw [List.length_append]; exact h2
  · rw [h3.block k (by simp; omega) hne, Below.heap_alloc wr _ k hk]
  · refine ((Below.refl _ _).alloc hbase _).grown h3 (by simp; omega) fun k hk => (hown.block k hk).1
  · rcases h4 g hg with h | h
    · exact .inl h
    · exact .inr (by simp at h; omega)
end Go.Proofs.YtlbhmoiicbhgkaaDoor
