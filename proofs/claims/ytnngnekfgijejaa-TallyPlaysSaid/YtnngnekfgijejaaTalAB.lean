/-
  An append to a row of the call's own: in room, or to new memory; which of two votes stands ahead, as the document has it.
-/
import Derived.Test.YtnngnekfgijejaaTalAA
namespace Go.Proofs.Ytnngnekfgijejaa
open Go.RowKit Go.Maps Go.Shelf Go.Proofs

theorem run_append_own2 {P : Program} (w : World) (base : Nat) (t ty e : TypeId) (i : TypeInfo) (z : Value) (size bytes : Nat) (ht : P.underlying t = some (.slice e)) (hi : P.info? e = some i) (hz : i.zero = some z)
    (hsize : i.size = size) (hby : i.bytes = bytes) (hzs : z.cells.size = size) (hsz : 0 < size)
    (v : Value) (n : Nat) (xs : List Value) (hown : w.ownsRow base e size v n xs)
    (a : Addr) (m c : Nat) (news : List Value) (hl : news.length = m * size) (hnews : ∀ j u, news[j]? = some u → w.cell? (a.add j) = some u) (h1 : ∀ u ∈ news, u.oneCell' = true)
    (h63 : n + m ≤ maxLen) (hbytes : (n + m) * bytes ≤ 140737488355328) (hbase : base ≤ w.heap.size) :
    ∃ v' w', (Builtin.append_ #[t, t] ty #[v, .slice (some a) m c]).run P w = .ok v' w' ∧ w'.ownsRow base e size v' (n + m) (xs ++ news) ∧ w.grownBy w' v.ownBlock ∧
      (w.grownBy w' none ∨ ∃ g cap, v = .slice (some ⟨g, 0, none⟩) n cap ∧ v' = .slice (some ⟨g, 0, none⟩) (n + m) cap) := by
  obtain ⟨v', w', hr, h2, h3, -⟩ := run_append_own (P := P) w base t ty e i z size bytes ht hi hz hsize hby hzs hsz v n xs hown a m c news hl hnews h1 h63 hbytes hbase
  refine ⟨v', w', hr, h2, h3, ?_⟩
  have hsmall : n + m ≤ 9223372036854775807 := by simp only [maxLen] at h63; omega
  subst hsize
  subst hby
  rcases hown.2 with ⟨rfl, rfl⟩ | ⟨g, cap, cur, rfl, hbg, hg, hnc, hcm, hcs, htake⟩
  · exact .inl h3
  · by_cases hroom : n + m ≤ cap
    · right
      obtain ⟨w2, hr2, -, -⟩ := run_append_fits (P := P) w base t ty e i i.size ht hi rfl g n cap xs hown a m c news hl hnews h1 hroom
      rw [hr] at hr2
      injection hr2 with e1 e2
      exact ⟨g, cap, rfl, e1⟩
    · left
      have holds : ∀ j u, xs[j]? = some u → w.cell? ((⟨g, 0, none⟩ : Addr).add j) = some u := hown.cells (g := g) rfl
      have hr2 := run_append_grow (P := P) w t ty e i z ht hi hz ⟨g, 0, none⟩ n cap xs hown.1 holds a m c news hl hnews (by omega) (by omega) (growslice_fits (by omega) hbytes)
      rw [hr] at hr2
      injection hr2 with e1 e2
      subst e2
      exact ⟨rfl, rfl, rfl, by simp, fun k hk _ => heap_alloc_old w.drew _ hk⟩

/-- what the operations of Put's last region keep. -/
structure PutK (B0 : Nat) (ty : TypeId) (v : Vt) (X Y : List Vt) (w w' : World) : Prop where
  b : Below B0 w w'
  r : ∀ b, B0 ≤ b → Row1 w b ty (vcl v) → Row1 w' b ty (vcl v)
  o : ∀ u j, j ≤ X.length → OwnV w B0 ty u (X.take j) → OwnV w' B0 ty u (X.take j)
  z : ∀ u, OwnV w B0 ty u (X ++ Y) → OwnV w' B0 ty u (X ++ Y)
section
variable {B0 : Nat} {ty : TypeId} {v : Vt} {X Y : List Vt} {a b c : World}
theorem PutK.of_below (h : Below a.heap.size a b) (hB : B0 ≤ a.heap.size) : PutK B0 ty v X Y a b := ⟨h.mono hB, fun _ _ hr => hr.below h, fun _ _ _ ho => ho.below h, fun _ ho => ho.below h⟩
theorem PutK.refl (w : World) : PutK B0 ty v X Y w w := ⟨Below.refl _ _, fun _ _ h => h, fun _ _ _ h => h, fun _ h => h⟩
theorem PutK.draw (w : World) (n : Nat) : PutK B0 ty v X Y w (w.drewN n) := ⟨⟨rfl, rfl, rfl, Nat.le_refl _, fun _ _ => rfl⟩, fun _ _ h => h, fun _ _ _ h => h, fun _ h => h⟩
theorem PutK.grow {u u' : Value} (hX : 0 < X.length) (ho : OwnV a B0 ty u X) (ho' : OwnV b B0 ty u' (X ++ Y)) (hg : a.grownBy b u.ownBlock) (hB : B0 ≤ a.heap.size)
    (hor : a.grownBy b none ∨ ∃ g cap, u = .slice (some ⟨g, 0, none⟩) X.length cap ∧ u' = .slice (some ⟨g, 0, none⟩) (X.length + Y.length) cap) : PutK B0 ty v X Y a b := by
  rcases hor with h | ⟨g, cap, rfl, rfl⟩
  · exact PutK.of_below ((Below.refl _ _).grown h (Nat.le_refl _) fun k e => by cases e) hB
  · obtain ⟨-, hbg, cur, hc, h1, h2, h3, h4⟩ := ho.parts
    obtain ⟨-, -, cur', hc', h1', h2', h3', h4'⟩ := ho'.parts
    have hpre : ∀ j, j ≤ X.length → cur'.toList.take (j * 5) = cur.toList.take (j * 5) := by
      intro j hj
      have e1 : cur'.toList.take (j * 5) = ((X ++ Y).flatMap vcl).take (j * 5) := by
        rw [← h4', List.take_take, Nat.min_eq_left]
        rw [List.length_append]
        have := Nat.mul_le_mul_right 5 hj
        omega
      have e2 : cur.toList.take (j * 5) = (X.flatMap vcl).take (j * 5) := by
        rw [← h4, List.take_take, Nat.min_eq_left]
        exact Nat.mul_le_mul_right 5 hj
      rw [e1, e2, List.flatMap_append, List.take_append_of_le_length]
      rw [flatV_len]
      exact Nat.mul_le_mul_right 5 hj
    refine ⟨(Below.refl _ _).grown hg hB fun k e => by simp only [Value.ownBlock, Option.some.injEq] at e; omega, fun b0 hb0 hr => ?_, fun u0 j hj h0 => ?_, fun u0 h0 => ?_⟩
    · by_cases e : b0 = g
      · subst e
        unfold Row1 at hr ⊢
        rw [hc] at hr
        simp only [Option.some.injEq, Obj.cells.injEq, and_true] at hr
        have hs : cur.size = 5 := by rw [hr]; rfl
        have hcap : cap = 1 := by omega
        have hx1 : X.length = 1 := by omega
        have hp := hpre 1 (by omega)
        rw [hc']
        have hl' : cur'.toList.length = 5 := by rw [Array.length_toList, h3', hcap]
        have hl : cur.toList.length = 5 := by rw [Array.length_toList, hs]
        rw [List.take_of_length_le (by omega), List.take_of_length_le (by omega)] at hp
        have : cur' = cur := Array.ext' hp
        rw [this, hr]
      · exact hr.keep (hg.block b0 hr.lt fun h => e (Option.some.inj h))
    · by_cases e : u0.ownBlock = some g
      · rcases h0.2 with ⟨rfl, _⟩ | ⟨g', cap0, cur0, rfl, hb0, hgg, hn0, hm0, hs0, ht0⟩
        · cases e
        · simp only [Value.ownBlock, Option.some.injEq] at e
          subst e
          rw [hc] at hgg
          simp only [Option.some.injEq, Obj.cells.injEq, and_true] at hgg
          subst hgg
          refine ⟨h0.1, .inr ⟨g', cap0, cur', rfl, hb0, hc', hn0, hm0, by rw [h3', ← h3, hs0], ?_⟩⟩
          have hjl : (X.take j).length = j := by rw [List.length_take]; omega
          rw [hjl] at ht0 ⊢
          rw [hpre j hj]
          exact ht0
      · exact h0.keep fun g' hg' => hg.block g' (h0.block g' hg').2 fun h => e (hg'.trans h)
    · by_cases e : u0.ownBlock = some g
      · rcases h0.2 with ⟨rfl, _⟩ | ⟨g', cap0, cur0, rfl, hb0, hgg, hn0, hm0, hs0, ht0⟩
        · cases e
        · simp only [Value.ownBlock, Option.some.injEq] at e
          subst e
          rw [hc] at hgg
          simp only [Option.some.injEq, Obj.cells.injEq, and_true] at hgg
          subst hgg
          exact ⟨h0.1, .inr ⟨g', cap0, cur', rfl, hb0, hc', hn0, hm0, by rw [h3', ← h3, hs0], h4'⟩⟩
      · exact h0.keep fun g' hg' => hg.block g' (h0.block g' hg').2 fun h => e (hg'.trans h)
end

/-- Put's last region: the vote is appended to the row of those ahead (operation 4), what is left behind it. -/
def putWay (w0 : World) (B0 : Nat) (ty : TypeId) (v : Vt) (u : Value) (X Y : List Vt) : Rgb.Way := ⟨PutK B0 ty v (X ++ [v]) Y, fun w w' => Below B0 w w', fun w => Below B0 w0 w, fun w => OwnV w B0 ty u X, 4⟩
theorem putWay_fair (w0 : World) (B0 : Nat) (ty : TypeId) (v : Vt) (u : Value) (X Y : List Vt) : (putWay w0 B0 ty v u X Y).Fair :=
  ⟨fun _ _ h k => h.trans k.b, fun _ _ h k => h.trans k, fun _ _ h k => by
    have := k.o u X.length (by simp) (by rw [List.take_left]; exact h)
    rwa [List.take_left] at this⟩
theorem below_drew' (B : Nat) (w : World) : Below B w w.drew := ⟨rfl, rfl, rfl, Nat.le_refl _, fun _ _ => rfl⟩
theorem OwnV.drew {w : World} {B : Nat} {ty : TypeId} {u : Value} {X : List Vt} (h : OwnV w B ty u X) : OwnV w.drew B ty u X := h
theorem PutK.all {B0 : Nat} {ty : TypeId} {v : Vt} {X Y : List Vt} {w w' : World} (k : PutK B0 ty v X Y w w') {u : Value} (h : OwnV w B0 ty u X) : OwnV w' B0 ty u X := by
  have := k.o u X.length (Nat.le_refl _) (by rw [List.take_length]; exact h)
  rwa [List.take_length] at this
/-- what is left behind the place. -/
def Rest (B0 : Nat) (Y : List Vt) (w : World) (u : Value) : Prop := (u = .slice none 0 0 ∧ Y = []) ∨ ∃ ad c, u = .slice (some ad) Y.length c ∧ (ad.block < B0 ∨ Y = []) ∧ ∀ j x, (Y.flatMap vcl)[j]? = some x → w.cell? (ad.add j) = some x
theorem Rest.below {B0 : Nat} {Y : List Vt} {w w' : World} {u : Value} (h : Rest B0 Y w u) (hb : Below B0 w w') : Rest B0 Y w' u := by
  rcases h with h | ⟨ad, c, h1, h2, h3⟩
  · exact .inl h
  · refine .inr ⟨ad, c, h1, h2, fun j x hx => ?_⟩
    have := h3 j x hx
    rcases h2 with h2 | rfl
    case inr => simp at hx
    have hbl : (ad.add j).block = ad.block := by unfold Addr.add; split <;> rfl
    rw [← this]
    unfold World.cell?
    rw [hbl, hb.block ad.block h2]
theorem wpList_append_own2 {P : Program} {w : World} {ops : Array Oper} {rest : List Oper} {o : Oper} {a : Act} {Q : Exit → Act → World → Prop} (hgd : o.guard = none) (s x : Operand) (t : TypeId)
    (ho : o.op = .call { callee := .builtin .append, args := #[s, x], argTypes := #[t, t] })
    (base : Nat) (e : TypeId) (i : TypeInfo) (z : Value) (size bytes : Nat) (ht : P.underlying t = some (.slice e)) (hi : P.info? e = some i) (hz : i.zero = some z)
    (hsize : i.size = size) (hby : i.bytes = bytes) (hzs : z.cells.size = size) (hsz : 0 < size)
    (v : Value) (n : Nat) (xs : List Value) (hs : a.eval s = v) (hown : w.ownsRow base e size v n xs)
    (ad : Addr) (m c : Nat) (news : List Value) (hx : a.eval x = .slice (some ad) m c) (hl : news.length = m * size) (hnews : ∀ j u, news[j]? = some u → w.cell? (ad.add j) = some u) (h1 : ∀ u ∈ news, u.oneCell' = true)
    (h63 : n + m ≤ maxLen) (hbytes : (n + m) * bytes ≤ 140737488355328) (hbase : base ≤ w.heap.size)
    (h : ∀ v' w', w'.ownsRow base e size v' (n + m) (xs ++ news) → w.grownBy w' v.ownBlock → (w.grownBy w' none ∨ ∃ g cap, v = .slice (some ⟨g, 0, none⟩) n cap ∧ v' = .slice (some ⟨g, 0, none⟩) (n + m) cap) → wpList P ops Q rest (a.put o.dst v') w') : wpList P ops Q (o :: rest) a w := by
  refine wpList_plain hgd fun K hK => ?_
  obtain ⟨v', w', hr, h2, h3, h4⟩ := run_append_own2 (P := P) w base t o.type e i z size bytes ht hi hz hsize hby hzs hsz v n xs hown ad m c news hl hnews h1 h63 hbytes hbase
  unfold Oper.wp execOp
  simp only [ho, resolve, invoke, builtin, Sem.run_bind, Sem.run_pure, Result.andThen_ok, List.map_toArray, List.map_cons, List.map_nil, hs, hx, hr]
  exact hK _ _ (h v' w' h2 h3 h4)

theorem rahead_eq (a b : Vt) : ahead a b = if a.rd ≠ b.rd then decide (a.rd < b.rd) else if a.fr ≠ b.fr then decide (a.fr < b.fr) else decide (a.kd < b.kd) := by
  rw [Bool.eq_iff_iff, ahead_iff]
  by_cases h1 : a.rd = b.rd <;> by_cases h2 : a.fr = b.fr <;> simp [h1, h2] <;> omega
set_option maxRecDepth 100000 in
theorem rahead_c (a b : Vt) (w : World) :
    Calls Try.prog 44 #[vval a, vval b] w fun e w' => e = .returned (.bool (ahead a b)) ∧ Below w.heap.size w w' := by
  obtain ⟨r, hr⟩ : ∃ r, ahead a b = r := ⟨_, rfl⟩
  have hb := (below_alloc w (.cells (vcl a).toArray 56)).alloc (by simp) (.cells (vcl b).toArray 56)
  have HE := hid (rahead_eq a b)
  rw [hr] at HE
  rw [hr]
  clear hr
  simp only [List.toArray] at hb
  go_enter Try.func44, Try.ntmps44
  cases e1 : (a.rd != b.rd) with
  | true =>
    have HQ := hid (HE.out.trans (if_pos (by simpa [bne] using e1)))
    go_wp2
    go_ret
    exact ⟨ret_bool HQ.out.symm, hb⟩
  | false =>
    have h1 := hid (HE.out.trans (if_neg (by simpa [bne] using e1)))
    cases e2 : (a.fr != b.fr) with
    | true =>
      have HQ := hid (h1.out.trans (if_pos (by simpa [bne] using e2)))
      go_wp2
      go_ret
      exact ⟨ret_bool HQ.out.symm, hb⟩
    | false =>
      have HQ := hid (h1.out.trans (if_neg (by simpa [bne] using e2)))
      go_wp2
      go_ret
      exact ⟨ret_bool HQ.out.symm, hb⟩
end Go.Proofs.Ytnngnekfgijejaa
