/-
  A model's scores: a copy of the shifts, to which the products are added.
-/
import Derived.Test.YtnmadmcegdpecaaFixG
import Derived.Lib.SliceRun
namespace Go.Proofs.Ytnmadmcegdpecaa
open Go.RowKit

/-- 'append(s, l...)': l lies anywhere. -/
theorem wpList_appends {P : Program} {t e : TypeId} {z : Value} {bytes : Nat} (E : Elt P t e z bytes) (wr : World) {ops : Array Oper} {rest : List Oper} {o : Oper} {a : Act} {Q : Exit → Act → World → Prop}
    (hg : o.guard = none) (s x : Operand) (hop : o.op = .call { callee := .builtin .append, args := #[s, x], argTypes := #[t, t] })
    (base : Nat) {v : Value} {xs : List Value} (hown : Own wr base e v xs) (hs : a.eval s = v) {A : Addr} {c : Nat} {news : List Value} (hnew : Cells wr (some A) news) (hx : a.eval x = .slice (some A) news.length c) (h1 : ∀ u ∈ news, u.oneCell' = true)
    (hb : (xs.length + news.length) * bytes ≤ 140737488355328) (hm : xs.length + news.length ≤ 9223372036854775807) (hbase : base ≤ wr.heap.size)
    (hK : ∀ v' w', Own w' base e v' (xs ++ news) → (∀ k, k < wr.heap.size → some k ≠ v.ownBlock → w'.heap[k]? = wr.heap[k]?) → Below base wr w' → wpList P ops Q rest (a.put o.dst v') w') :
    wpList P ops Q (o :: rest) a wr := by
  obtain ⟨i, hi, hz, hsz, hby⟩ := E.info
  refine wpList_append_own wr hg s x t hop base e i z 1 bytes E.under hi hz hsz hby E.one (by decide) v xs.length xs hs hown A news.length c news hx (by omega) (fun j u hu => ?_) h1 (by unfold maxLen; omega) hb hbase ?_
  · rcases hnew with h | ⟨b, off, h, hc⟩
    · subst h; simp at hu
    · obtain rfl := Option.some.inj h
      have hadd : (⟨b, off, none⟩ : Addr).add j = ⟨b, off + j, none⟩ := by unfold Addr.add; split <;> simp_all
      rw [hadd]
      exact hc j u hu
  · intro v' w' h2 h3 _
    refine hK v' w' ?_ (fun k hk hne => h3.block k hk hne) ((Below.refl _ _).grown h3 hbase fun k hk => (hown.block k hk).1)
    unfold Own; rw [List.length_append]; exact h2

/-- a row of this call's own that is not empty: its cells may be written. -/
theorem Own.row {w : World} {base : Nat} {e : TypeId} {v : Value} {xs : List Value} (h : Own w base e v xs) (hne : 0 < xs.length) :
    ∃ g cap, v = .slice (some ⟨g, 0, none⟩) xs.length cap ∧ base ≤ g ∧ g < w.heap.size ∧ (∀ k u, xs[k]? = some u → w.cell? ⟨g, k, none⟩ = some u) ∧ (∀ k, w.frozen? ⟨g, k, none⟩ = false) ∧
      ∀ w' : World, w'.heap[g]? = w.heap[g]? → ∀ k u', k < xs.length → Own (w'.setCell ⟨g, k, none⟩ u') base e v (xs.set k u') := by
  rcases h.2 with ⟨rfl, h0⟩ | ⟨g, cap, cur, rfl, hb, hg, hn, hm, hs, ht⟩
  · omega
  · refine ⟨g, cap, rfl, hb, (Array.getElem?_eq_some_iff.1 hg).1, fun k u hu => ?_, fun k => ?_, fun w' hw' k u' hk => ?_⟩
    · have := World.ownsRow.cells (w := w) h (g := g) rfl k u hu
      have hadd : (⟨g, 0, none⟩ : Addr).add k = ⟨g, 0 + k, none⟩ := by unfold Addr.add; split <;> simp_all
      rw [hadd, Nat.zero_add] at this
      exact this
    · simp [World.frozen?, hg]
    · refine ⟨by simp, .inr ⟨g, cap, cur.set! k u', by simp, hb, ?_, by simpa using hn, hm, by simpa using hs, ?_⟩⟩
      · rw [hg] at hw'
        simp [World.setCell, Array.getElem?_modify, hw']
      · rw [List.length_set, Array.set!_eq_setIfInBounds, Array.toList_setIfInBounds]
        rw [List.take_set, ht]

theorem Own.set_len {w : World} {base : Nat} {e : TypeId} {v : Value} {xs : List Value} (h : Own w base e v xs) : xs.length ≤ 9223372036854775807 := h.len_le

/-- the result of a call: a new list of int64s. -/
def NewInts (xs : List Int) (w : World) (e : Ending) (w' : World) : Prop := ∃ v, e = .returned v ∧ Own w' w.heap.size 2 v (xs.map (.int .i64)) ∧ Below w.heap.size w w'

set_option maxRecDepth 100000 in
set_option maxHeartbeats 1000000 in
theorem clone_c (A : Option Addr) (l : List Int) (c : Nat) (w : World) (hA : Cells w A (l.map (.int .i64))) (hl : l.length ≤ 17592186044415) :
    Calls Try.prog 85 #[.slice A l.length c] w (NewInts l w) := by
  go_enter Try.func85, Try.ntmps85
  cases A with
  | none =>
    have h0 : l = [] := by
      rcases hA with h | ⟨b, off, h, _⟩
      · simpa using h
      · cases h
    subst h0
    have he : (binOp .eql 42 (.slice none 0 c) (.slice none 0 0)).run Try.prog w = .ok (.bool true) w := Lib.run_eql_slice_nil w _ _ _ _ _ _ _ Try.underlying42
    go_wp2
    go_ret
    exact ⟨_, rfl, by simpa using Own.nil w w.heap.size 2, Below.refl _ _⟩
  | some A =>
    have hr := row1_new w [] 2
    have hb := below_alloc w (.cells #[] 2)
    have hown : Own (w.alloc (.cells #[] 2)) w.heap.size 2 (.slice (some ⟨w.heap.size, 0, none⟩) 0 0) [] := by
      simpa using hr.own (base := w.heap.size) (Nat.le_refl _) (by simp)
    have hA2 := hA.below hb
    have he : (binOp .eql 42 (.slice (some A) l.length c) (.slice none 0 0)).run Try.prog w = .ok (.bool false) w := Lib.run_eql_slice_nil w _ _ _ _ _ _ _ Try.underlying42
    have hlen : (l.map (Value.int .i64)).length = l.length := by simp
    go_wp2_with (at_builtin; refine wpList_appends elt_i64 _ rfl _ _ rfl w.heap.size hown rfl hA2 (by simp; rfl) (fun u hu => by simp only [List.mem_map] at hu; obtain ⟨z, _, rfl⟩ := hu; rfl) (by simp; omega) (by simp; omega) (by simp) ?_; intro v' w5 hown5 _ hb8)
    go_ret
    exact ⟨_, rfl, by simpa using hown5, hb.trans hb8⟩

end Go.Proofs.Ytnmadmcegdpecaa
