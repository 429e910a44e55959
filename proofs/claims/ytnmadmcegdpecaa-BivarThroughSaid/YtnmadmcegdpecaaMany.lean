/-
  Lists of lists: rows that know the kind of their block, and rows of such rows that this call owns. (No program in sight.)
-/
import Derived.Test.YtnmadmcegdpecaaFixH
import Derived.Deep.Upon
namespace Go.Proofs.Ytnmadmcegdpecaa
open Go.RowKit

/-- a list that lies in blocks of the kind e. -/
def RowT (w : World) (e : TypeId) (v : Value) (xs : List Value) : Prop :=
  ∃ A c, v = .slice A xs.length c ∧ xs.length ≤ 9223372036854775807 ∧ (xs = [] ∨ ∃ b off arr fz, A = some ⟨b, off, none⟩ ∧ w.heap[b]? = some (Obj.cells arr e fz) ∧ ∀ i u, xs[i]? = some u → w.cell? ⟨b, off + i, none⟩ = some u)
section
variable {w w' : World} {e e0 : TypeId} {v v0 : Value} {xs ys : List Value} {base : Nat}
theorem RowT.form (h : RowT w e v xs) : ∃ A c, v = .slice A xs.length c ∧ Cells w A xs ∧ xs.length ≤ 9223372036854775807 := by
  obtain ⟨A, c, rfl, hl, h⟩ := h
  refine ⟨A, c, rfl, ?_, hl⟩
  rcases h with h | ⟨b, off, arr, fz, rfl, _, hc⟩
  · exact .inl h
  · exact .inr ⟨b, off, rfl, hc⟩
theorem RowT.block (h : RowT w e v xs) (hk : ∀ (b : Nat) (arr : Array Value) (fz : Nat × Nat), w.heap[b]? = some (Obj.cells arr e fz) → w'.heap[b]? = w.heap[b]?) : RowT w' e v xs := by
  obtain ⟨A, c, rfl, hl, h⟩ := h
  refine ⟨A, c, rfl, hl, ?_⟩
  rcases h with h | ⟨b, off, arr, fz, rfl, hb, hc⟩
  · exact .inl h
  · refine .inr ⟨b, off, arr, fz, rfl, (hk b arr fz hb).trans hb, fun i u hu => ?_⟩
    rw [World.cell?_of_block (a := ⟨b, off + i, none⟩) (hk b arr fz hb)]
    exact hc i u hu
theorem RowT.below (h : RowT w e v xs) (hb : Below w.heap.size w w') : RowT w' e v xs := h.block fun b _ _ h1 => hb.block b (Array.getElem?_eq_some_iff.1 h1).1
theorem RowT.other (h : RowT w e v xs) (hown : Own w base e0 v0 ys) (hne : e ≠ e0) (hk : ∀ k, k < w.heap.size → some k ≠ v0.ownBlock → w'.heap[k]? = w.heap[k]?) : RowT w' e v xs := by
  refine h.block fun b arr fz h1 => hk b (Array.getElem?_eq_some_iff.1 h1).1 fun hb => ?_
  rcases hown.2 with ⟨rfl, _⟩ | ⟨g, cap, cur, rfl, _, hg, _⟩
  · cases hb
  · simp only [Value.ownBlock, Option.some.injEq] at hb
    subst hb
    rw [h1] at hg
    simp only [Option.some.injEq, Obj.cells.injEq] at hg
    exact hne hg.2.1
theorem RowT.nil (w : World) (e : TypeId) (A : Option Addr) (c : Nat) : RowT w e (.slice A 0 c) [] := ⟨A, c, rfl, by simp, .inl rfl⟩
theorem Own.rowT (h : Own w base e v xs) : RowT w e v xs := by
  have hl := h.len_le
  obtain ⟨A, cap, rfl, hc⟩ := h.form
  rcases h.2 with ⟨h1, h0⟩ | ⟨g, cap', cur, h1, _, hg, _⟩
  · obtain rfl := List.eq_nil_of_length_eq_zero h0
    exact ⟨A, cap, rfl, hl, .inl rfl⟩
  · refine ⟨A, cap, rfl, hl, ?_⟩
    simp only [Value.slice.injEq] at h1
    obtain ⟨rfl, _, _⟩ := h1
    rcases hc with h2 | ⟨b, off, h2, hc⟩
    · exact .inl h2
    · simp only [Option.some.injEq, Addr.mk.injEq] at h2
      obtain ⟨rfl, rfl, _⟩ := h2
      exact .inr ⟨g, 0, cur, (0, 0), rfl, hg, hc⟩
end

/-- 'append([]T{}, l...)': a copy of l. -/
theorem wpList_fresh {P : Program} {t e : TypeId} {z : Value} {bytes : Nat} (E : Elt P t e z bytes) (w : World) {ops : Array Oper} {rest : List Oper} {o : Oper} {a : Act} {Q : Exit → Act → World → Prop}
    (hg : o.guard = none) (s x : Operand) (hop : o.op = .call { callee := .builtin .append, args := #[s, x], argTypes := #[t, t] })
    {A0 : Option Addr} (hs : a.eval s = .slice A0 0 0) {A : Option Addr} {c : Nat} {news : List Value} (hnew : Cells w A news) (hx : a.eval x = .slice A news.length c) (h1 : ∀ u ∈ news, u.oneCell' = true)
    (hb : news.length * bytes ≤ 140737488355328) (hm : news.length ≤ 9223372036854775807)
    (hK : ∀ v' w', RowT w' e v' news → Below w.heap.size w w' → wpList P ops Q rest (a.put o.dst v') w') :
    wpList P ops Q (o :: rest) a w := by
  obtain ⟨i, hi, hz, hsz, hby⟩ := E.info
  by_cases h0 : news = []
  · subst h0
    have hsrc : Src P i.size t (.slice A ([] : List Value).length c) 0 [] w := by
      cases A with
      | none => exact Src.ofNil w E.under c
      | some A => exact Src.ofSlice w E.under A 0 c [] (by simp) (fun j u hu => by simp at hu) (fun u hu => by cases hu)
    have hrun := run_append_nothing (P := P) w t t o.type e i E.under hi A0 0 0 (Nat.le_refl _) _ hsrc
    refine wpList_plain hg fun K hK' => ?_
    unfold Oper.wp
    simp only [List.length_nil] at hx hrun
    simp [execOp, hop, resolve, invoke, builtin, hs, hx, hrun, Result.andThen]
    exact hK' _ _ (hK _ _ (RowT.nil _ _ _ _) (Below.refl _ _))
  · rcases hnew with h | ⟨b, off, rfl, hc⟩
    · exact absurd h h0
    · have hpos : 0 < news.length := by
        rcases Nat.eq_zero_or_pos news.length with h | h
        · exact absurd (List.eq_nil_of_length_eq_zero h) h0
        · exact h
      refine wpList_append_grows w hg s x t hop e i z 1 bytes E.under hi hz hsz hby E.one (by decide) A0 0 0 [] hs (fun _ => ⟨rfl, rfl⟩) rfl (fun b _ j u hu => by simp at hu) ⟨b, off, none⟩ news.length c news hx (by omega) (fun j u hu => ?_) h1 (by omega) (by unfold maxLen; omega) (by simpa using hb) ?_
      · have hadd : (⟨b, off, none⟩ : Addr).add j = ⟨b, off + j, none⟩ := by unfold Addr.add; split <;> simp_all
        rw [hadd]
        exact hc j u hu
      · intro v' w' h2 h3
        have hown : Own w' w.heap.size e v' news := by unfold Own; simpa using h2
        exact hK v' w' hown.rowT ((Below.refl _ _).grown h3 (Nat.le_refl _) fun k hk => by cases hk)

/-- a list of lists whose own row this call owns. -/
def OwnRows (w : World) (base : Nat) (e0 e : TypeId) (v : Value) (f : List (List Value)) : Prop := ∃ vs : List Value, Own w base e0 v vs ∧ vs.length = f.length ∧ ∀ (j : Nat) u xs, vs[j]? = some u → f[j]? = some xs → RowT w e u xs
section
variable {w w' : World} {e e0 : TypeId} {v v' : Value} {f : List (List Value)} {base : Nat}
theorem OwnRows.nil (w : World) (base : Nat) (e0 e : TypeId) : OwnRows w base e0 e (.slice none 0 0) [] := ⟨[], Own.nil _ _ _, rfl, fun j u xs h => by simp at h⟩
theorem OwnRows.below (h : OwnRows w base e0 e v f) (hb : Below w.heap.size w w') : OwnRows w' base e0 e v f := by
  obtain ⟨vs, h1, h2, h3⟩ := h
  exact ⟨vs, h1.below hb, h2, fun j u xs a b => (h3 j u xs a b).below hb⟩
theorem OwnRows.from_ (h : OwnRows w base e0 e v f) {b : Nat} (hb : b ≤ base) : OwnRows w b e0 e v f := by
  obtain ⟨vs, h1, h2, h3⟩ := h
  exact ⟨vs, h1.from_ hb, h2, h3⟩
/-- one more. -/
theorem OwnRows.push {vs : List Value} {u : Value} {xs : List Value} (hne : e ≠ e0) (hl : vs.length = f.length) (h3 : ∀ (j : Nat) u xs, vs[j]? = some u → f[j]? = some xs → RowT w e u xs) (hold : Own w base e0 v vs) (hu : RowT w e u xs)
    (hnew : Own w' base e0 v' (vs ++ [u])) (hk : ∀ k, k < w.heap.size → some k ≠ v.ownBlock → w'.heap[k]? = w.heap[k]?) : OwnRows w' base e0 e v' (f ++ [xs]) := by
  refine ⟨vs ++ [u], hnew, by simp [hl], fun j u' xs' h1 h2 => ?_⟩
  rcases Nat.lt_or_ge j vs.length with h | h
  · rw [List.getElem?_append_left h] at h1
    rw [List.getElem?_append_left (by omega)] at h2
    exact (h3 j u' xs' h1 h2).other hold hne hk
  · rw [List.getElem?_append_right h] at h1
    rw [List.getElem?_append_right (by omega), ← hl] at h2
    cases hj : j - vs.length with
    | zero =>
      rw [hj] at h1 h2
      obtain rfl := Option.some.inj h1
      obtain rfl := Option.some.inj h2
      exact hu.other hold hne hk
    | succ n => rw [hj] at h1; simp at h1
end
theorem OwnRows.gridI {w : World} {base : Nat} {v : Value} {f : List (List Int)} (h : OwnRows w base 42 2 v (f.map (·.map (.int .i64)))) : ∃ A c, v = .slice A f.length c ∧ GridI w A f ∧ f.length ≤ 9223372036854775807 := by
  obtain ⟨vs, h1, h2, h3⟩ := h
  have hl := h1.len_le
  rw [List.length_map] at h2
  obtain ⟨A, c, rfl, hc⟩ := h1.form
  rw [h2]
  refine ⟨A, c, rfl, ⟨vs, hc, h2, fun i l hl => ?_⟩, by omega⟩
  obtain ⟨u, hu⟩ := get_of_lt (l := vs) (show i < vs.length by have := (List.getElem?_eq_some_iff.1 hl).1; omega)
  refine ⟨u, hu, ?_⟩
  obtain ⟨A', c', rfl, h4, h5⟩ := (h3 i u (l.map (.int .i64)) hu (by rw [List.getElem?_map, hl]; rfl)).form
  exact ⟨A', c', by rw [List.length_map], h4, by simpa using h5⟩
theorem OwnRows.grid {w : World} {base : Nat} {v : Value} {f : List (List Int)} (h : OwnRows w base 26 23 v (f.map (·.map (.int .u64)))) : ∃ A c, v = .slice A f.length c ∧ Grid w A f ∧ f.length ≤ 9223372036854775807 := by
  obtain ⟨vs, h1, h2, h3⟩ := h
  have hl := h1.len_le
  rw [List.length_map] at h2
  obtain ⟨A, c, rfl, hc⟩ := h1.form
  rw [h2]
  refine ⟨A, c, rfl, ⟨vs, hc, h2, fun i l hl => ?_⟩, by omega⟩
  obtain ⟨u, hu⟩ := get_of_lt (l := vs) (show i < vs.length by have := (List.getElem?_eq_some_iff.1 hl).1; omega)
  refine ⟨u, hu, ?_⟩
  obtain ⟨A', c', rfl, h4, h5⟩ := (h3 i u (l.map (.int .u64)) hu (by rw [List.getElem?_map, hl]; rfl)).form
  exact ⟨A', c', by rw [List.length_map], h4, by simpa using h5⟩

/-- a row of this call's own, of which only the length counts: it may be written over. -/
def Writ (w : World) (base : Nat) (e : TypeId) (v : Value) (n : Nat) : Prop := ∃ xs, Own w base e v xs ∧ xs.length = n
theorem Own.writ {w : World} {base : Nat} {e : TypeId} {v : Value} {xs : List Value} (h : Own w base e v xs) : Writ w base e v xs.length := ⟨xs, h, rfl⟩
theorem Writ.below {w w' : World} {base : Nat} {e : TypeId} {v : Value} {n : Nat} (h : Writ w base e v n) (hb : Below w.heap.size w w') : Writ w' base e v n := by
  obtain ⟨xs, h1, h2⟩ := h
  exact ⟨xs, h1.below hb, h2⟩
theorem Writ.set {w : World} {base : Nat} {e : TypeId} {v : Value} {n : Nat} (h : Writ w base e v n) (g k : Nat) (u : Value) : Writ (w.setCell ⟨g, k, none⟩ u) base e v n := by
  obtain ⟨xs, h1, h2⟩ := h
  rcases h1.2 with ⟨rfl, h0⟩ | ⟨g', cap, cur, rfl, hb, hg, hn, hm, hs, ht⟩
  · have hx := List.eq_nil_of_length_eq_zero h0
    subst hx
    exact ⟨[], Own.nil _ _ _, h2⟩
  · by_cases hgg : g' = g
    · subst hgg
      have hl : ((cur.set! k u).toList.take xs.length).length = xs.length := by
        simp at hs ⊢
        omega
      refine ⟨(cur.set! k u).toList.take xs.length, ⟨by simp, .inr ⟨g', cap, cur.set! k u, by rw [hl], hb, ?_, by rw [hl]; exact hn, hm, by simpa using hs, by rw [hl]; simp⟩⟩, by rw [hl, h2]⟩
      simp [World.setCell, Array.getElem?_modify, hg]
    · refine ⟨xs, h1.keep fun k' hk' => ?_, h2⟩
      simp only [Value.ownBlock, Option.some.injEq] at hk'
      subst hk'
      exact Below.heap_setCell w _ u _ hgg
/-- its cells. -/
theorem Writ.at_ {w : World} {base : Nat} {e : TypeId} {v : Value} {n : Nat} (h : Writ w base e v n) {k : Nat} (hk : k < n) : ∃ g cap u, v = .slice (some ⟨g, 0, none⟩) n cap ∧ base ≤ g ∧ g < w.heap.size ∧ w.cell? ⟨g, k, none⟩ = some u ∧ w.frozen? ⟨g, k, none⟩ = false ∧ ∃ arr, w.heap[g]? = some (Obj.cells arr e (0, 0)) := by
  obtain ⟨xs, h1, rfl⟩ := h
  obtain ⟨g, cap, rfl, h2, h3, h4, h5, _⟩ := h1.row (by omega)
  obtain ⟨u, hu⟩ := get_of_lt hk
  refine ⟨g, cap, u, rfl, h2, h3, h4 k u hu, h5 k, ?_⟩
  rcases h1.2 with ⟨h6, _⟩ | ⟨g', cap', cur, h6, _, hg, _⟩
  · cases h6
  · simp only [Value.slice.injEq, Option.some.injEq, Addr.mk.injEq] at h6
    obtain ⟨⟨rfl, _, _⟩, _, _⟩ := h6
    exact ⟨cur, hg⟩
theorem Writ.form {w : World} {base : Nat} {e : TypeId} {v : Value} {n : Nat} (h : Writ w base e v n) : ∃ A cap, v = .slice A n cap ∧ n ≤ 9223372036854775807 := by
  obtain ⟨xs, h1, rfl⟩ := h
  have hl := h1.len_le
  obtain ⟨A, cap, rfl, _⟩ := h1.form
  exact ⟨A, cap, rfl, hl⟩

theorem elt_rowsI : Elt Try.prog 41 42 (.slice none 0 0) 24 := .of Try.underlying41 (by kernel_rfl) rfl

end Go.Proofs.Ytnmadmcegdpecaa
