/-
  A row copied and one more put behind it, in an order that is drawn.
-/
import Derived.Test.YtlbhmoiicbhgkaaDoorRobQ1
import Derived.Test.YtlbhmoiicbhgkaaDoorRobQ2
import Derived.Test.YtlbhmoiicbhgkaaDoorRobQ3
import Derived.Test.YtlbhmoiicbhgkaaDoorRobQ4
import Derived.Test.YtlbhmoiicbhgkaaDoorRobQ5
import Derived.Test.YtlbhmoiicbhgkaaDoorRobQ6
import Derived.Test.YtlbhmoiicbhgkaaDoorRobQ7
import Derived.Test.YtlbhmoiicbhgkaaDoorRobQ8
import Derived.Test.YtlbhmoiicbhgkaaDoorRobQ9
import Derived.Test.YtlbhmoiicbhgkaaDoorRobQ10
import Derived.Test.YtlbhmoiicbhgkaaDoorRobQ11
namespace Go.Proofs.YtlbhmoiicbhgkaaDoor
open Go Go.RowKit

/-- 'append(s, l...)': l may be nothing; which block is turned. -/
theorem wpList_moreG {P : Program} {t e : TypeId} {z : Value} {bytes : Nat} (E : Elt P t e z bytes) (wr : World) {ops : Array Oper} {rest : List Oper} {o : Oper} {a : Act} {Q : Exit → Act → World → Prop}
    (hg : Region.wanted o (yielded ops a.tmps) = true) (s x : Operand) (hop : o.op = .call { callee := .builtin .append, args := #[s, x], argTypes := #[t, t] })
    (base : Nat) {v : Value} {xs : List Value} (hown : Own wr base e v xs) (hs : a.eval s = v) {A : Option Addr} {c : Nat} {news : List Value} (hnew : Cells wr A news) (hx : a.eval x = .slice A news.length c) (h1 : ∀ u ∈ news, u.oneCell' = true)
    (hb : (xs.length + news.length) * bytes ≤ 140737488355328) (hm : xs.length + news.length ≤ 9223372036854775807) (hbase : base ≤ wr.heap.size)
    (hK : ∀ v' w', Own w' base e v' (xs ++ news) → wr.grownBy w' v.ownBlock → wpList P ops Q rest (a.put o.dst v') w') :
    wpList P ops Q (o :: rest) a wr := by
  refine wpList_step fun K hK' => ?_
  rw [if_pos hg]
  obtain ⟨i, hi, hz, hsz, hby⟩ := E.info
  by_cases h0 : news = []
  · subst h0
    have hsrc : Src P i.size t (.slice A ([] : List Value).length c) 0 [] wr := by
      cases A with
      | none => exact Src.ofNil wr E.under c
      | some A => exact Src.ofSlice wr E.under A 0 c [] (by simp) (fun j u hu => by simp at hu) (fun u hu => by cases hu)
    have key : ∀ (A0 : Option Addr) (n cap : Nat), v = .slice A0 n cap → n ≤ cap → o.wp P a wr K Q := fun A0 n cap e1 hle => by
      have hrun := run_append_nothing (P := P) wr t t o.type e i E.under hi A0 n cap hle _ hsrc
      unfold Oper.wp
      rw [e1] at hs
      simp only [List.length_nil] at hx hrun
      simp [execOp, hop, resolve, invoke, builtin, hs, hx, hrun, Result.andThen]
      have := hK' _ _ (hK v wr (by rw [List.append_nil]; exact hown) ⟨rfl, rfl, rfl, Nat.le_refl _, fun _ _ _ => rfl⟩)
      rwa [e1] at this
    rcases hown.2 with ⟨h2, h3⟩ | ⟨g, cap, cur, h2, hb2, hg2, hn, hm2, hs2, ht⟩
    · exact key none 0 0 h2 (Nat.le_refl _)
    · refine key _ _ cap h2 ?_
      first | exact hn | exact hm2 | omega
  · rcases hnew with h | ⟨b, off, rfl, hc⟩
    · exact absurd h h0
    · refine wp_append_own (P := P) wr s x t hop base e i z 1 bytes E.under hi hz hsz hby E.one (by decide) v xs.length xs hs hown ⟨b, off, none⟩ news.length c news hx (by omega) (fun j u hu => ?_) h1 (by unfold maxLen; omega) hb hbase ?_
      · have hadd : (⟨b, off, none⟩ : Addr).add j = ⟨b, off + j, none⟩ := by unfold Addr.add; split <;> simp_all
        rw [hadd]
        exact hc j u hu
      · intro v' w' h2 h3 _
        refine hK' _ _ (hK v' w' ?_ h3)
        unfold Own; rw [List.length_append]; exact h2

theorem cells_one {w : World} {k : Nat} {x : Value} (h : w.cell? ⟨k, 0, none⟩ = some x) : Cells w (some ⟨k, 0, none⟩) [x] := by
  refine .inr ⟨k, 0, rfl, fun i u hu => ?_⟩
  cases i with
  | zero =>
    obtain rfl : x = u := Option.some.inj hu
    exact h
  | succ i => cases hu
/-- what is known while a row is copied and one number put behind it. -/
structure PushB (w0 : World) (L : List Value) (x : Value) (g : Rgi.Ghost) (w : World) : Prop where
  b : Below w0.heap.size w0 w
  lit : ∀ v, g 0 = some v → g 2 = none → Own w w0.heap.size 24 v []
  one : ∀ v, g 7 = some v → g 8 = none → ∃ k, v = .slice (some ⟨k, 0, none⟩) 1 1 ∧ w.cell? ⟨k, 0, none⟩ = some x ∧ k < w.heap.size ∧ ∀ u, g 0 = some u → g 2 = none → u.ownBlock ≠ some k
  two : ∀ v, g 2 = some v → g 8 = none → Own w w0.heap.size 24 v L
  all : ∀ v, g 8 = some v → Own w w0.heap.size 24 v (L ++ [x])
  ord : g 2 = none → g 8 = none
  ord7 : g 7 = none → g 8 = none
  ord0 : g 0 = none → g 2 = none
theorem PushB.start (w0 : World) (L : List Value) (x : Value) : PushB w0 L x (fun _ => none) w0.drew :=
  ⟨⟨rfl, rfl, rfl, Nat.le_refl _, fun _ _ => rfl⟩, fun _ h => (by cases h), fun _ h => (by cases h), fun _ h => (by cases h), fun _ h => (by cases h), fun _ => rfl, fun _ => rfl, fun _ => rfl⟩
theorem PushB.new {w0 w : World} {L : List Value} {x : Value} {g : Rgi.Ghost} (h : PushB w0 L x g w) (h0 : g 0 = none) : PushB w0 L x (g.upd 0 (.slice (some ⟨w.heap.size, 0, none⟩) 0 0)) (w.alloc (.cells #[] 24)) := by
  have hb := below_alloc w (.cells #[] 24)
  have h2 := h.ord0 h0
  refine ⟨below_next h.b h.b.size hb, fun v hv _ => ?_, fun v hv h8 => ?_, fun v hv h8 => (h.two v hv h8).below hb, fun v hv => (h.all v hv).below hb, h.ord, h.ord7, fun h => (by cases h)⟩
  · obtain rfl : _ = v := Option.some.inj hv
    exact own_zero (row1_new w [] 24) h.b.size
  · obtain ⟨k, e, hc, hk, hu⟩ := h.one v hv h8
    refine ⟨k, e, (hb.cell hk).trans hc, Nat.lt_of_lt_of_le hk hb.size, fun u hu _ => ?_⟩
    obtain rfl : _ = u := Option.some.inj hu
    intro he
    have : w.heap.size = k := Option.some.inj he
    omega
theorem PushB.lay {w0 w : World} {L : List Value} {x : Value} {g : Rgi.Ghost} (h : PushB w0 L x g w) (_h7 : g 7 = none) : PushB w0 L x (g.upd 7 (.slice (some ⟨w.heap.size, 0, none⟩) 1 1)) (w.alloc (.cells #[x] 24)) := by
  have hb := below_alloc w (.cells #[x] 24)
  have hr := row1_new w [x] 24
  refine ⟨below_next h.b h.b.size hb, fun v hv h2 => (h.lit v hv h2).below hb, fun v hv h8 => ?_, fun v hv h8 => (h.two v hv h8).below hb, fun v hv => (h.all v hv).below hb, h.ord, fun h => (by cases h), h.ord0⟩
  obtain rfl : _ = v := Option.some.inj hv
  refine ⟨w.heap.size, rfl, hr.cell (k := 0) rfl, by simp, fun u hu h2 he => ?_⟩
  have := ((h.lit u hu h2).block _ he).2
  omega
theorem PushB.put1 {w0 w w' : World} {L : List Value} {x : Value} {g : Rgi.Ghost} (h : PushB w0 L x g w) (hg : g 2 = none) {v v' : Value} (h0 : g 0 = some v) (hw : w.grownBy w' v.ownBlock) (hn : Own w' w0.heap.size 24 v' L) : PushB w0 L x (g.upd 2 v') w' := by
  have ho := h.lit v h0 hg
  refine ⟨h.b.grown hw h.b.size fun k e => (ho.block k e).1, fun v _ h4 => (by cases h4), fun u hu h8 => ?_, fun u hu _ => ?_, fun u hu => ?_, fun h4 => (by cases h4), h.ord7, fun h4 => ?_⟩
  · obtain ⟨k, e, hc, hk, hd⟩ := h.one u hu h8
    refine ⟨k, e, ?_, Nat.lt_of_lt_of_le hk hw.size, fun u _ h4 => (by cases h4)⟩
    have h5 := hd v h0 hg
    have h6 := hw.block k hk (fun e => h5 e.symm)
    rw [← hc]
    unfold World.cell?
    rw [h6]
  · obtain rfl : _ = u := Option.some.inj hu
    exact hn
  · have : g 8 = some u := hu
    rw [h.ord hg] at this
    cases this
  · have : g 0 = none := h4
    rw [h0] at this
    cases this
theorem PushB.put2 {w0 w w' : World} {L : List Value} {x : Value} {g : Rgi.Ghost} (h : PushB w0 L x g w) {v2 v7 v' : Value} (hg2 : g 2 = some v2) (hg7 : g 7 = some v7) (ho : Own w w0.heap.size 24 v2 L) (hw : w.grownBy w' v2.ownBlock) (hn : Own w' w0.heap.size 24 v' (L ++ [x])) : PushB w0 L x (g.upd 8 v') w' := by
  refine ⟨h.b.grown hw h.b.size fun k e => (ho.block k e).1, fun v _ h4 => ?_, fun u _ h8 => (by cases h8), fun u _ h8 => (by cases h8), fun u hu => ?_, fun h4 => ?_, fun h4 => ?_, h.ord0⟩
  · have : g 2 = none := h4
    rw [hg2] at this
    cases this
  · obtain rfl : _ = u := Option.some.inj hu
    exact hn
  · have : g 2 = none := h4
    rw [hg2] at this
    cases this
  · have : g 7 = none := h4
    rw [hg7] at this
    cases this
end Go.Proofs.YtlbhmoiicbhgkaaDoor
