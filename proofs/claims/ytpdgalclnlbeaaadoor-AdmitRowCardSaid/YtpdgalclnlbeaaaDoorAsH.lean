/-
  Rows of queries that are written to, put together and turned about; what AdmitRow says, plainly.
-/
import Derived.Test.YtpdgalclnlbeaaaDoorAdmQ1
import Derived.Test.YtpdgalclnlbeaaaDoorAdmQ2
import Derived.Test.YtpdgalclnlbeaaaDoorAdmQ3
import Derived.Test.YtpdgalclnlbeaaaDoorAdmQ4
import Derived.Test.YtpdgalclnlbeaaaDoorAdmQ5
import Derived.Test.YtpdgalclnlbeaaaDoorAdmQ6
import Derived.Test.YtpdgalclnlbeaaaDoorAdmQ7
import Derived.Test.YtpdgalclnlbeaaaDoorAdmQ8
import Derived.Test.YtpdgalclnlbeaaaDoorAsG
namespace Go.Proofs.YtpdgalclnlbeaaaDoor
open Go Go.RowKit Go.Maps Go.Shelf Go.Proofs Go.Psi

theorem setV_same {α : Type} {L : List α} {i : Nat} {v : α} (h : L[i]? = some v) : L.set i v = L := by
  obtain ⟨hi, e⟩ := List.getElem?_eq_some_iff.1 h
  rw [← e]
  exact List.set_getElem_self hi
theorem flatA_set : ∀ (vs : List AskV) (i : Nat) (u : AskV), ((vs.flatMap acl).set (i * 2) (.int .i64 u.id)).set (i * 2 + 1) u.v = (vs.set i u).flatMap acl
  | [], _, _ => rfl
  | _ :: _, 0, _ => rfl
  | a :: vs, i + 1, u => by
    have := flatA_set vs i u
    rw [List.set_cons_succ, List.flatMap_cons, List.flatMap_cons, ← this, show (i + 1) * 2 = i * 2 + 1 + 1 by omega]
    rfl
theorem flatA_drop : ∀ (vs : List AskV) (k : Nat), (vs.drop k).flatMap acl = (vs.flatMap acl).drop (k * 2)
  | _, 0 => rfl
  | [], k + 1 => by simp
  | a :: vs, k + 1 => by
    rw [List.drop_succ_cons, flatA_drop vs k, List.flatMap_cons, show (k + 1) * 2 = k * 2 + 1 + 1 by omega]
    rfl
theorem flatA_take : ∀ (vs : List AskV) (k : Nat), (vs.take k).flatMap acl = (vs.flatMap acl).take (k * 2)
  | _, 0 => by simp
  | [], k + 1 => by simp
  | a :: vs, k + 1 => by
    rw [List.take_succ_cons, List.flatMap_cons, flatA_take vs k, List.flatMap_cons, show (k + 1) * 2 = k * 2 + 1 + 1 by omega]
    rfl
theorem OwnA.form0 {w : World} {base : Nat} {v : Value} {l : List Ask} (h : OwnA w base v l) (h0 : 0 < l.length) : ∃ g cap, v = .slice (some ⟨g, 0, none⟩) l.length cap ∧ l.length ≤ cap ∧ cap ≤ 9223372036854775807 ∧ base ≤ g ∧ g < w.heap.size := by
  obtain ⟨vs, h1, _⟩ := h
  rcases h1.2 with ⟨_, h3⟩ | ⟨g, cap, cur, rfl, hg, hh, hn, hm, _⟩
  · omega
  · exact ⟨g, cap, rfl, hn, hm, hg, (Array.getElem?_eq_some_iff.1 hh).1⟩
section
variable {w : World} {base g cap : Nat} {l : List Ask}
theorem OwnA.at_ {n : Nat} (h : OwnA w base (.slice (some ⟨g, 0, none⟩) n cap) l) {i : Nat} {a : Ask} (ha : l[i]? = some a) :
    ∃ A c, w.cell? ⟨g, i * 2, none⟩ = some (.int .i64 a.id) ∧ w.cell? ⟨g, i * 2 + 1, none⟩ = some (.slice A a.x.length c) ∧ RowT w 2 (.slice A a.x.length c) (a.x.map (.int .i64)) ∧ w.frozen? ⟨g, i * 2, none⟩ = false ∧ w.frozen? ⟨g, i * 2 + 1, none⟩ = false := by
  obtain ⟨vs, h1, h2, h3⟩ := h
  obtain ⟨u, hu⟩ := get_of_lt (l := vs) (k := i) (by rw [h2]; exact (List.getElem?_eq_some_iff.1 ha).1)
  obtain ⟨e1, hr⟩ := h3 i u a hu ha
  obtain ⟨A, c, e2, _⟩ := hr.form
  rw [List.length_map] at e2
  have hc := fun j y (hy : (vs.flatMap acl)[j]? = some y) => World.ownsRow.cells (w := w) h1 (g := g) rfl j y hy
  have c0 := hc (i * 2) (.int .i64 u.id) (by rw [(flatA_at vs i).1, hu]; rfl)
  have c1 := hc (i * 2 + 1) u.v (by rw [(flatA_at vs i).2, hu]; rfl)
  rw [Addr.add_lit, Nat.zero_add] at c0 c1
  have hn : n = l.length := by
    rcases h1.2 with ⟨e, _⟩ | ⟨_, _, _, e, _⟩
    · cases e
    · injection e
  subst hn
  refine ⟨A, c, by rw [c0, e1], by rw [c1, e2], by rw [← e2]; exact hr, World.ownsRow.frozenAt h1 _, World.ownsRow.frozenAt h1 _⟩
theorem OwnA.rowKept {v : Value} (h : OwnA w base v l) {w' : World} (hw : w.grownBy w' v.ownBlock) {y : Value} {xs : List Value} (hy : RowT w 2 y xs) : RowT w' 2 y xs :=
  hy.block fun b _ _ hb => hw.block b (Array.getElem?_eq_some_iff.1 hb).1 fun e => h.block hb (by decide) e.symm
theorem OwnA.set_ (h : OwnA w base (.slice (some ⟨g, 0, none⟩) l.length cap) l) (i : Nat) {a : Ask} {u : Value} (hu : RowT w 2 u (a.x.map (.int .i64))) :
    OwnA ((w.setCell ⟨g, i * 2, none⟩ (.int .i64 a.id)).setCell ⟨g, i * 2 + 1, none⟩ u) base (.slice (some ⟨g, 0, none⟩) l.length cap) (l.set i a) := by
  have h0 := h
  obtain ⟨vs, h1, h2, h3⟩ := h
  obtain ⟨q1, k1⟩ := World.ownsRow.stored h1 (i * 2) (.int .i64 a.id)
  obtain ⟨q2, k2⟩ := World.ownsRow.stored q1 (i * 2 + 1) u
  have hk : w.grownBy ((w.setCell ⟨g, i * 2, none⟩ (.int .i64 a.id)).setCell ⟨g, i * 2 + 1, none⟩ u) (some g) := ⟨k2.os.trans k1.os, k2.tape.trans k1.tape, k2.output.trans k1.output, Nat.le_trans k1.size k2.size, fun k h4 h5 => (k2.block k (Nat.lt_of_lt_of_le h4 k1.size) h5).trans (k1.block k h4 h5)⟩
  refine ⟨vs.set i ⟨a.id, u⟩, ?_, by rw [List.length_set, List.length_set]; exact h2, fun j y b hy hb => ?_⟩
  · rw [List.length_set, ← flatA_set vs i ⟨a.id, u⟩]
    exact q2
  · rw [List.getElem?_set] at hy hb
    split at hy
    · rename_i e
      rw [if_pos e] at hb
      split at hy
      · obtain rfl := Option.some.inj hy
        split at hb
        · obtain rfl := Option.some.inj hb
          exact ⟨rfl, h0.rowKept hk hu⟩
        · cases hb
      · cases hy
    · rename_i e
      rw [if_neg e] at hb
      exact ⟨(h3 j y b hy hb).1, h0.rowKept hk (h3 j y b hy hb).2⟩
theorem OwnA.setId (h : OwnA w base (.slice (some ⟨g, 0, none⟩) l.length cap) l) {i : Nat} {a : Ask} (ha : l[i]? = some a) (n : Int) :
    OwnA (w.setCell ⟨g, i * 2, none⟩ (.int .i64 n)) base (.slice (some ⟨g, 0, none⟩) l.length cap) (l.set i ⟨n, a.x⟩) := by
  have h0 := h
  obtain ⟨vs, h1, h2, h3⟩ := h
  obtain ⟨u, hu⟩ := get_of_lt (l := vs) (k := i) (by rw [h2]; exact (List.getElem?_eq_some_iff.1 ha).1)
  obtain ⟨q1, hk⟩ := World.ownsRow.stored h1 (i * 2) (.int .i64 n)
  have hfl : (vs.flatMap acl).set (i * 2) (.int .i64 n) = (vs.set i ⟨n, u.v⟩).flatMap acl := by
    rw [← flatA_set vs i ⟨n, u.v⟩]
    refine (setV_same ?_).symm
    show ((vs.flatMap acl).set (i * 2) (.int .i64 n))[i * 2 + 1]? = some u.v
    rw [List.getElem?_set_ne (by omega), (flatA_at vs i).2, hu]; rfl
  refine ⟨vs.set i ⟨n, u.v⟩, ?_, by rw [List.length_set, List.length_set]; exact h2, fun j y b hy hb => ?_⟩
  · rw [List.length_set, ← hfl]
    exact q1
  · rw [List.getElem?_set] at hy hb
    split at hy
    · rename_i e
      rw [if_pos e] at hb
      split at hy
      · obtain rfl := Option.some.inj hy
        split at hb
        · obtain rfl := Option.some.inj hb
          exact ⟨rfl, h0.rowKept hk (h3 i u a hu ha).2⟩
        · cases hb
      · cases hy
    · rename_i e
      rw [if_neg e] at hb
      exact ⟨(h3 j y b hy hb).1, h0.rowKept hk (h3 j y b hy hb).2⟩
end
/-- queries that are put behind others, all at once. -/
theorem wpList_moreA (w : World) {ops : Array Oper} {rest : List Oper} {o : Oper} {a : Act} {Q : Exit → Act → World → Prop} (hgd : o.guard = none) (s x : Operand)
    (hop : o.op = .call { callee := .builtin .append, args := #[s, x], argTypes := #[25, 25] })
    (base : Nat) {v : Value} {l : List Ask} (hs : a.eval s = v) (hown : OwnA w base v l) {ad : Addr} {c : Nat} {vs2 : List AskV} {l2 : List Ask} (hx : a.eval x = .slice (some ad) l2.length c) (hc : ∀ j u, (vs2.flatMap acl)[j]? = some u → w.cell? (ad.add j) = some u)
    (hn : vs2.length = l2.length) (hr : ∀ (i : Nat) (u : AskV) (b : Ask), vs2[i]? = some u → l2[i]? = some b → u.id = b.id ∧ RowT w 2 u.v (b.x.map (.int .i64))) (hl : l.length + l2.length ≤ 100000) (hbase : base ≤ w.heap.size)
    (h : ∀ v' w', OwnA w' base v' (l ++ l2) → w.grownBy w' v.ownBlock → wpList Tryd.prog ops Q rest (a.put o.dst v') w') : wpList Tryd.prog ops Q (o :: rest) a w := by
  obtain ⟨i0, hi, hz0, hz1, hz2⟩ := info_partsA info_Ask
  have hown0 := hown
  obtain ⟨vs, h1, h2, h3⟩ := hown
  refine wpList_append_own w hgd s x _ hop base 32 i0 (.agg #[.int .i64 0, .slice none 0 0]) 2 32 Tryd.underlying25 hi hz0 hz1 hz2 (by rfl) (by decide) v l.length (vs.flatMap acl) hs h1 ad l2.length c (vs2.flatMap acl) hx (by rw [flatA_len, hn]) hc (fun y hy => ?_) (by unfold maxLen; omega) (by omega) hbase ?_
  · obtain ⟨u, hu, hy⟩ := List.mem_flatMap.1 hy
    obtain ⟨i, hi⟩ := List.getElem?_of_mem hu
    obtain ⟨b, hb⟩ := get_of_lt (l := l2) (k := i) (by rw [← hn]; exact (List.getElem?_eq_some_iff.1 hi).1)
    obtain ⟨_, hr1⟩ := hr i u b hi hb
    obtain ⟨A, c, e, _⟩ := hr1.form
    have hy' : y = .int .i64 u.id ∨ y = u.v := by simpa [acl] using hy
    rcases hy' with rfl | rfl
    · rfl
    · rw [e]; rfl
  · intro v' w' o1 o2 _
    refine h v' w' ⟨vs ++ vs2, ?_, by simp [h2, hn], fun i y b hy hb => ?_⟩ o2
    · rw [List.flatMap_append, List.length_append]
      exact o1
    · rcases Nat.lt_or_ge i l.length with hi | hi
      · rw [List.getElem?_append_left (by omega)] at hy
        rw [List.getElem?_append_left hi] at hb
        obtain ⟨e1, e2⟩ := h3 i y b hy hb
        exact ⟨e1, hown0.rowKept o2 e2⟩
      · rw [List.getElem?_append_right (by omega)] at hy
        rw [List.getElem?_append_right hi] at hb
        rw [h2] at hy
        obtain ⟨e1, e2⟩ := hr _ y b hy hb
        exact ⟨e1, hown0.rowKept o2 e2⟩
/-- what is known while a row is put together anew of two parts. -/
structure ErA (w0 : World) (L1 L2 : List Ask) (g : Rgi.Ghost) (w : World) : Prop where
  b : Below w0.heap.size w0 w
  lit : ∀ v, g 0 = some v → g 4 = none → OwnA w w0.heap.size v []
  one : ∀ v, g 4 = some v → g 8 = none → OwnA w w0.heap.size v L1
  two : ∀ v, g 8 = some v → OwnA w w0.heap.size v (L1 ++ L2)
  ord : g 4 = none → g 8 = none
theorem OwnA.zero {w : World} {g base : Nat} (h : Row1 w g 32 []) (hb : base ≤ g) : OwnA w base (.slice (some ⟨g, 0, none⟩) 0 0) [] :=
  ⟨[], ⟨rfl, .inr ⟨g, 0, #[], rfl, hb, h, Nat.le_refl _, by unfold maxLen; omega, rfl, rfl⟩⟩, rfl, fun i u a h => by simp at h⟩
section
variable {w0 w w' : World} {L1 L2 : List Ask} {g : Rgi.Ghost}
theorem ErA.start (w0 : World) (L1 L2 : List Ask) : ErA w0 L1 L2 (fun _ => none) w0.drew :=
  ⟨⟨rfl, rfl, rfl, Nat.le_refl _, fun _ _ => rfl⟩, fun _ h => (by cases h), fun _ h => (by cases h), fun _ h => (by cases h), fun _ => rfl⟩
theorem ErA.new (h : ErA w0 L1 L2 g w) : ErA w0 L1 L2 (g.upd 0 (.slice (some ⟨w.heap.size, 0, none⟩) 0 0)) (w.alloc (.cells #[] 32)) := by
  have hb := below_alloc w (.cells #[] 32)
  refine ⟨below_next h.b h.b.size hb, fun v hv _ => ?_, fun v hv h9 => (h.one v hv h9).below hb, fun v hv => (h.two v hv).below hb, h.ord⟩
  obtain rfl : _ = v := Option.some.inj hv
  exact OwnA.zero (row1_new w [] 32) h.b.size
theorem OwnA.lo {v : Value} {base : Nat} {l : List Ask} (h : OwnA w base v l) : ∀ k, v.ownBlock = some k → base ≤ k := by
  obtain ⟨vs, h1, _⟩ := h
  exact fun k e => (World.ownsRow.lt h1 k e).1
theorem ErA.put1 (h : ErA w0 L1 L2 g w) (hg : g 4 = none) {v v' : Value} (ho : OwnA w w0.heap.size v []) (hw : w.grownBy w' v.ownBlock) (hn : OwnA w' w0.heap.size v' L1) : ErA w0 L1 L2 (g.upd 4 v') w' := by
  refine ⟨h.b.grown hw h.b.size fun k e => ho.lo k e, fun v _ h4 => (by cases h4), fun u hu _ => ?_, fun u hu => ?_, fun h4 => (by cases h4)⟩
  · obtain rfl : _ = u := Option.some.inj hu
    exact hn
  · have : g 8 = some u := hu
    rw [h.ord hg] at this
    cases this
theorem ErA.put2 (h : ErA w0 L1 L2 g w) {v4 v v' : Value} (hg4 : g 4 = some v4) (ho : OwnA w w0.heap.size v L1) (hw : w.grownBy w' v.ownBlock) (hn : OwnA w' w0.heap.size v' (L1 ++ L2)) : ErA w0 L1 L2 (g.upd 8 v') w' := by
  refine ⟨h.b.grown hw h.b.size fun k e => ho.lo k e, fun v _ h4 => ?_, fun u hu h9 => (by cases h9), fun u hu => ?_, fun h4 => ?_⟩
  · have : g 4 = none := h4
    rw [hg4] at this
    cases this
  · obtain rfl : _ = u := Option.some.inj hu
    exact hn
  · have : g 4 = none := h4
    rw [hg4] at this
    cases this
end
/-- what is known while two queries change places. -/
structure SwA (w0 w1 : World) (a b : Value) (g : Rgi.Ghost) (w : World) : Prop where
  old : g 21 = none → Dr w0 w
  new : ∀ v, g 21 = some v → Dr w1 w
  a : ∀ v, g 19 = some v → v = a
  b : ∀ v, g 15 = some v → v = b
  oa : g 19 = none → g 21 = none
  ob : g 15 = none → g 21 = none
section
variable {w0 w1 w w' : World} {a b : Value} {g : Rgi.Ghost}
theorem SwA.start (w0 w1 : World) (a b : Value) : SwA w0 w1 a b (fun _ => none) w0.drew :=
  ⟨fun _ => ⟨1, rfl⟩, fun _ h => (by cases h), fun _ h => (by cases h), fun _ h => (by cases h), fun _ => rfl, fun _ => rfl⟩
theorem SwA.at15 (h : SwA w0 w1 a b g w) : SwA w0 w1 a b (g.upd 15 b) w :=
  ⟨h.old, h.new, h.a, fun _ e => (Option.some.inj e).symm, h.oa, fun e => (by cases e)⟩
theorem SwA.at19 (h : SwA w0 w1 a b g w) : SwA w0 w1 a b (g.upd 19 a) w :=
  ⟨h.old, h.new, fun _ e => (Option.some.inj e).symm, h.b, fun e => (by cases e), h.ob⟩
theorem SwA.at21 (h : SwA w0 w1 a b g w) {va vb : Value} (h19 : g 19 = some va) (h15 : g 15 = some vb) (hw : Dr w1 w') : SwA w0 w1 a b (g.upd 21 undef) w' := by
  refine ⟨fun e => (by cases e), fun _ _ => hw, h.a, h.b, fun e => ?_, fun e => ?_⟩
  · have : g 19 = none := e
    rw [h19] at this; cases this
  · have : g 15 = none := e
    rw [h15] at this; cases this
end
/-- the first k have their numbers as IDs. -/
def IdK (l : List Ask) (k : Nat) (L : List Ask) : Prop := L.length = l.length ∧ ∀ (i : Nat) (a : Ask), l[i]? = some a → L[i]? = some (if i < k then ⟨(i : Int) + 1, a.x⟩ else a)
theorem IdK.start (l : List Ask) : IdK l 0 l := ⟨rfl, fun i a h => by rw [if_neg (by omega)]; exact h⟩
theorem IdK.at_ {l L : List Ask} {k : Nat} (h : IdK l k L) {a : Ask} (ha : l[k]? = some a) : L[k]? = some a := by
  rw [h.2 k a ha, if_neg (by omega)]
theorem IdK.step {l L : List Ask} {k : Nat} (h : IdK l k L) {a : Ask} (ha : l[k]? = some a) : IdK l (k + 1) (L.set k ⟨(k : Int) + 1, a.x⟩) := by
  refine ⟨by rw [List.length_set]; exact h.1, fun i b hb => ?_⟩
  by_cases e : k = i
  · subst e
    rw [ha] at hb
    obtain rfl := Option.some.inj hb
    rw [List.getElem?_set_self (by rw [h.1]; exact (List.getElem?_eq_some_iff.1 ha).1), if_pos (by omega)]
  · rw [List.getElem?_set_ne e, h.2 i b hb]
    by_cases e2 : i < k
    · rw [if_pos e2, if_pos (by omega)]
    · rw [if_neg e2, if_neg (by omega)]
/-- queries as AdmitRow asks them. -/
structure GoodL (p : Par) (n : Nat) (L : List Ask) : Prop where
  len : L.length = n
  q : ∀ a ∈ L, queryE p a.x = 0 ∧ 1 ≤ a.id ∧ a.id ≤ 1099511627776
  ids : L.Pairwise fun a b => a.id ≠ b.id
  ok : AskOk L
theorem GoodL.perm {p : Par} {n : Nat} {L M : List Ask} (h : GoodL p n L) (hp : M.Perm L) : GoodL p n M :=
  ⟨hp.length_eq.trans h.len, fun a ha => h.q a (hp.mem_iff.1 ha), (hp.pairwise_iff (fun h => Ne.symm h)).2 h.ids,
    ⟨by rw [hp.length_eq]; exact h.ok.few, fun a ha => h.ok.id a (hp.mem_iff.1 ha), fun a ha => h.ok.x a (hp.mem_iff.1 ha), fun a ha => h.ok.len a (hp.mem_iff.1 ha)⟩⟩
theorem IdK.good {p : Par} {l L : List Ask} {n : Nat} (h : IdK l n L) (hn : l.length = n) (h8 : n ≤ 8) (hl : AskOk l) (hq : ∀ a ∈ l, queryE p a.x = 0) : GoodL p n L := by
  have hat : ∀ (i : Nat) (b : Ask), L[i]? = some b → ∃ a, l[i]? = some a ∧ b = ⟨(i : Int) + 1, a.x⟩ ∧ i < n := fun i b hb => by
    have hi : i < l.length := by rw [← h.1]; exact (List.getElem?_eq_some_iff.1 hb).1
    obtain ⟨a, ha⟩ := get_of_lt hi
    have := h.2 i a ha
    rw [hb, if_pos (by omega)] at this
    exact ⟨a, ha, Option.some.inj this, by omega⟩
  have hm : ∀ b ∈ L, ∃ (i : Nat) (a : Ask), a ∈ l ∧ b = ⟨(i : Int) + 1, a.x⟩ ∧ i < n := fun b hb => by
    obtain ⟨i, hi⟩ := List.getElem?_of_mem hb
    obtain ⟨a, ha, e, hi'⟩ := hat i b hi
    exact ⟨i, a, List.mem_of_getElem? ha, e, hi'⟩
  refine ⟨h.1.trans hn, fun b hb => ?_, ?_, ⟨by rw [h.1]; exact hl.few, fun b hb => ?_, fun b hb => ?_, fun b hb => ?_⟩⟩
  · obtain ⟨i, a, ha, rfl, hi⟩ := hm b hb
    exact ⟨hq a ha, by show (1 : Int) ≤ (i : Int) + 1; omega, by show (i : Int) + 1 ≤ 1099511627776; omega⟩
  · rw [List.pairwise_iff_getElem]
    intro i j hi hj hij
    obtain ⟨a, _, e1, _⟩ := hat i L[i] (List.getElem?_eq_getElem hi)
    obtain ⟨b, _, e2, _⟩ := hat j L[j] (List.getElem?_eq_getElem hj)
    rw [e1, e2]
    show (i : Int) + 1 ≠ (j : Int) + 1
    omega
  · obtain ⟨i, a, ha, rfl, hi⟩ := hm b hb
    exact ⟨by show (-9223372036854775808 : Int) ≤ (i : Int) + 1; omega, by show (i : Int) + 1 < 9223372036854775808; omega⟩
  · obtain ⟨i, a, ha, rfl, hi⟩ := hm b hb
    exact hl.x a ha
  · obtain ⟨i, a, ha, rfl, hi⟩ := hm b hb
    exact hl.len a ha
theorem swap_perm {L : List Ask} {i j : Nat} {a b : Ask} (ha : L[i]? = some a) (hb : L[j]? = some b) : ((L.set i b).set j a).Perm L := by
  obtain ⟨hi, e1⟩ := List.getElem?_eq_some_iff.1 ha
  obtain ⟨hj, e2⟩ := List.getElem?_eq_some_iff.1 hb
  have := (Array.swap_perm (xs := L.toArray) (i := i) (j := j) (by simpa using hi) (by simpa using hj)).toList
  rw [Array.toList_swap] at this
  simpa [e1, e2] using this
theorem turn_perm (L : List Ask) (k : Nat) : (L.drop k ++ L.take k).Perm L := by
  refine List.perm_append_comm.trans ?_
  rw [List.take_append_drop]
/-- WHAT IS CLAIMED, plainly. -/
theorem row_law {p : Par} (hv : primeV p.Q = true) (hp : Pr p.Q.toNat) (hR : 0 ≤ p.R) {n : Nat} {L M : List Ask} (hL : GoodL p n L) (h8 : n ≤ 8) (hM : M.Perm L) : ((rankP p (playL p M) : Nat) : Int) = min p.R (rankP p L) := by
  have hg := hL.perm hM
  have := play_rank hv hp hR (l := M) (by rw [hg.len]; exact h8) hg.q hg.ids M.length (Nat.le_refl _)
  rw [List.take_length] at this
  rw [this, rankP_perm hv hp (fun a ha => hM.mem_iff.1 ha) (fun a ha => hM.mem_iff.2 ha)]
end Go.Proofs.YtpdgalclnlbeaaaDoor
