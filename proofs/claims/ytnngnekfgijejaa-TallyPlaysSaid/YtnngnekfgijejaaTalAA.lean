/-
  The document's tally: a copy.
-/
import Derived.Test.YtnngnekfgijejaaTalZ
namespace Go.Proofs.Ytnngnekfgijejaa
open Go.RowKit Go.Maps Go.Shelf Go.Proofs

theorem news_at {w : World} {gl : Nat} {L : List Vt} (h : CellsV w (some ⟨gl, 0, none⟩) L) : ∀ j u, (L.flatMap vcl)[j]? = some u → w.cell? ((⟨gl, 0, none⟩ : Addr).add j) = some u := by
  intro j u hu
  have hadd : (⟨gl, 0, none⟩ : Addr).add j = ⟨gl, 0 + j, none⟩ := by unfold Addr.add; split <;> simp_all
  rw [hadd]
  rcases h with h | ⟨b, off, e, h⟩
  · rw [h] at hu; simp at hu
  · injection e with e
    injection e with e1 e2
    subst e1 e2
    exact h j u hu
theorem one_all (L : List Vt) : ∀ u ∈ L.flatMap vcl, u.oneCell' = true := by
  intro u hu
  obtain ⟨v, _, hv⟩ := List.mem_flatMap.1 hu
  exact one_five v u hv

theorem wpList_append_none {P : Program} {w : World} {ops : Array Oper} {rest : List Oper} {o : Oper} {a : Act} {Q : Exit → Act → World → Prop} (hgd : o.guard = none) (s x : Operand) (t : TypeId)
    (ho : o.op = .call { callee := .builtin .append, args := #[s, x], argTypes := #[t, t] })
    (base : Nat) (e : TypeId) (i : TypeInfo) (size : Nat) (ht : P.underlying t = some (.slice e)) (hi : P.info? e = some i)
    (v : Value) (n : Nat) (xs : List Value) (hs : a.eval s = v) (hown : w.ownsRow base e size v n xs) (hx : a.eval x = .slice none 0 0)
    (h : wpList P ops Q rest (a.put o.dst v) w) : wpList P ops Q (o :: rest) a w := by
  refine wpList_plain hgd fun K hK => ?_
  have hr := run_append_owned_none (P := P) w base t o.type e i size ht hi v n xs hown
  unfold Oper.wp execOp
  simp only [ho, resolve, invoke, builtin, Sem.run_bind, Sem.run_pure, Result.andThen_ok, List.map_toArray, List.map_cons, List.map_nil, hs, hx, hr]
  exact hK _ _ h

set_option maxRecDepth 100000 in
set_option maxHeartbeats 1000000 in
theorem rcopy_c (g gl : Nat) (n : Int) (L : List Vt) (w : World) (h : RTly w g gl n L) (hl : L.length ≤ 10000) :
    Calls Try.prog 25 #[.pointer (some ⟨g, 0, none⟩)] w fun e w' => ∃ g' gl', e = .returned (.pointer (some ⟨g', 0, none⟩)) ∧ RTly w' g' gl' n L ∧ w.heap.size ≤ g' ∧ w.heap.size ≤ gl' ∧ Below w.heap.size w w' := by
  obtain ⟨A, c, hr, hc, ha, -⟩ := h
  obtain ⟨i0, hi, hz0, hz1, hz2⟩ := info_parts info_rvote
  go_enter Try.func25, Try.ntmps25
  go_wp2
  refine Rgb.wp_region (l := [_, _, _, _, _, _, _, _, _, _]) (tail := [_, _, _]) (Rgb.freshWay w 9) [some 3, some 4, some 5, some 6, some 7, some 8, some 9, some 10, some 11, some 12, some 13, some 14, some 2] 15 (by kernel_rfl) (by kernel_rfl) (by kernel_rfl) rfl (Rgb.freshWay_fair _ _) (Rgb.keep_drew _) (trivial) ?_
  refine' Rgb.op_is _ [] rfl rfl (by kernel_rfl) ?_ ?_
  rotate_left
  · intro wx hb
    refine Rgb.from_nil fun T hT => ?_
    go_wp2
    refine hT _ _ rfl (by first | exact Rgb.Keep.refl _ | exact below_of_dr hw2 | exact hw2 | exact (Below.refl _ _).alloc (Nat.le_refl _) _) ?_
    simp only [Rgb.last, List.getElem?_toArray, List.getElem?_cons_succ, List.getElem?_cons_zero, Option.getD_some]
    rfl
  refine' Rgb.op_is _ [0] rfl rfl (by kernel_rfl) ?_ ?_
  rotate_left
  · intro wx hb
    refine Rgb.from_is (some 3) rfl rfl ?_
    refine Rgb.from_nil fun T hT => ?_
    go_wp2
    refine hT _ _ rfl (by first | exact Rgb.Keep.refl _ | exact below_of_dr hw2 | exact hw2 | exact (Below.refl _ _).alloc (Nat.le_refl _) _) ?_
    simp only [Rgb.last, List.getElem?_toArray, List.getElem?_cons_succ, List.getElem?_cons_zero, Option.getD_some]
    rfl
  refine' Rgb.op_is _ [1] rfl rfl (by kernel_rfl) ?_ ?_
  rotate_left
  · intro wx hb
    refine Rgb.from_is (some 4) rfl rfl ?_
    refine Rgb.from_nil fun T hT => ?_
    go_wp2
    refine hT _ _ rfl (by first | exact Rgb.Keep.refl _ | exact below_of_dr hw2 | exact hw2 | exact (Below.refl _ _).alloc (Nat.le_refl _) _) ?_
    simp only [Rgb.last, List.getElem?_toArray, List.getElem?_cons_succ, List.getElem?_cons_zero, Option.getD_some]
    rfl
  refine Rgb.op_is (.int .i64 n) [2] rfl rfl (by kernel_rfl) ?_ ?_
  · intro wx hb
    refine Rgb.from_is (some 5) rfl rfl ?_
    refine Rgb.from_nil fun T hT => ?_
    have c0 := (hr.below hb).cell (k := 0) rfl
    go_wp2
    exact hT _ _ rfl (by first | exact Rgb.Keep.refl _ | exact below_of_dr hw2 | exact hw2 | exact (Below.refl _ _).alloc (Nat.le_refl _) _) (by first | rfl | exact congrArg _ (by decide))
  refine Rgb.op_till (fun W v => OwnV W w.heap.size 56 v []) [] rfl ?_ rfl (by kernel_rfl) ?_ ?_
  · exact fun w1 w2 v hk h => h.below hk
  · intro wx hb
    refine Rgb.from_nil fun T hT => ?_
    go_wp2
    exact hT _ _ rfl ((Below.refl _ _).alloc (Nat.le_refl _) _) (World.ownsRow_lit wx #[] 0 hb.size (by decide) rfl)
  refine' Rgb.op_is _ [] rfl rfl (by kernel_rfl) ?_ ?_
  rotate_left
  · intro wx hb
    refine Rgb.from_nil fun T hT => ?_
    go_wp2
    refine hT _ _ rfl (by first | exact Rgb.Keep.refl _ | exact below_of_dr hw2 | exact hw2 | exact (Below.refl _ _).alloc (Nat.le_refl _) _) ?_
    simp only [Rgb.last, List.getElem?_toArray, List.getElem?_cons_succ, List.getElem?_cons_zero, Option.getD_some]
    rfl
  refine' Rgb.op_is _ [5] rfl rfl (by kernel_rfl) ?_ ?_
  rotate_left
  · intro wx hb
    refine Rgb.from_is (some 8) rfl rfl ?_
    refine Rgb.from_nil fun T hT => ?_
    go_wp2
    refine hT _ _ rfl (by first | exact Rgb.Keep.refl _ | exact below_of_dr hw2 | exact hw2 | exact (Below.refl _ _).alloc (Nat.le_refl _) _) ?_
    simp only [Rgb.last, List.getElem?_toArray, List.getElem?_cons_succ, List.getElem?_cons_zero, Option.getD_some]
    rfl
  refine' Rgb.op_is _ [6] rfl rfl (by kernel_rfl) ?_ ?_
  rotate_left
  · intro wx hb
    refine Rgb.from_is (some 9) rfl rfl ?_
    refine Rgb.from_nil fun T hT => ?_
    go_wp2
    refine hT _ _ rfl (by first | exact Rgb.Keep.refl _ | exact below_of_dr hw2 | exact hw2 | exact (Below.refl _ _).alloc (Nat.le_refl _) _) ?_
    simp only [Rgb.last, List.getElem?_toArray, List.getElem?_cons_succ, List.getElem?_cons_zero, Option.getD_some]
    rfl
  refine Rgb.op_is (.slice A L.length c) [7] rfl rfl (by kernel_rfl) ?_ ?_
  · intro wx hb
    refine Rgb.from_is (some 10) rfl rfl ?_
    refine Rgb.from_nil fun T hT => ?_
    have c1 := (hr.below hb).cell (k := 1) rfl
    go_wp2
    exact hT _ _ rfl (by first | exact Rgb.Keep.refl _ | exact below_of_dr hw2 | exact hw2 | exact (Below.refl _ _).alloc (Nat.le_refl _) _) (by first | rfl | exact congrArg _ (by decide))
  refine Rgb.op_turn (fun W v => OwnV W w.heap.size 56 v L) [4, 8] rfl ?_ rfl (by kernel_rfl) ?_ ?_
  · exact fun w1 w2 v hk h => h.below hk
  · intro wx hb hb1
    refine Rgb.from_till (some 7) rfl rfl fun v7 h7 => ?_
    refine Rgb.from_is (some 11) rfl rfl ?_
    refine Rgb.from_nil fun T hT => ?_
    have hbsz := hb.size
    rcases ha with ⟨rfl, rfl, rfl⟩ | rfl
    · go_wp2_with (at_builtin; refine wpList_append_none rfl _ _ 61 rfl w.heap.size 56 i0 5 Try.underlying61 hi _ 0 [] rfl h7 rfl ?_)
      exact hT _ _ rfl (Below.refl _ _) h7
    · go_wp2_with (at_builtin; refine wpList_append_own _ rfl _ _ 61 rfl w.heap.size 56 i0 (vval zeroVt) 5 48 Try.underlying61 hi hz0 hz1 hz2 rfl (by decide) _ 0 [] rfl h7 ⟨gl, 0, none⟩ L.length c (L.flatMap vcl) rfl (flatV_len L) (news_at (hc.below hb)) (one_all L) (by unfold maxLen; omega) (by omega) hbsz ?_; intro v' w3 hO2 hg2 _)
      refine hT _ _ rfl ((Below.refl _ _).grown hg2 hbsz fun k e => (h7.block k e).1) ?_
      rw [Nat.zero_add, List.nil_append] at hO2
      exact hO2
  refine Rgb.walk_nil [0, 1, 2, 3, 4, 5, 6, 7, 8, 9] (by kernel_rfl) ?_
  intro wx hb
  refine Rgb.from_is (some 3) rfl rfl ?_
  refine Rgb.from_is (some 4) rfl rfl ?_
  refine Rgb.from_is (some 5) rfl rfl ?_
  refine Rgb.from_is (some 6) rfl rfl ?_
  refine Rgb.from_gone (some 7) rfl rfl fun v7 => ?_
  refine Rgb.from_is (some 8) rfl rfl ?_
  refine Rgb.from_is (some 9) rfl rfl ?_
  refine Rgb.from_is (some 10) rfl rfl ?_
  refine Rgb.from_is (some 11) rfl rfl ?_
  refine Rgb.from_of (some 12) rfl rfl fun v12 h12 => ?_
  refine Rgb.from_nil ?_
  simp only [List.map, Act.put, List.setIfInBounds_toArray, List.set_cons_zero, List.set_cons_succ]
  obtain ⟨A2, c2, rfl, hc2⟩ := h12.form
  have hown := h12.block
  have hr2 := row1_new wx [.int .i64 n, .slice A2 L.length c2] 82
  have hA2 : ∃ gl', w.heap.size ≤ gl' ∧ ((L = [] ∧ A2 = none ∧ c2 = 0) ∨ A2 = some ⟨gl', 0, none⟩) ∧ L.length ≤ c2 := by
    rcases h12.2 with ⟨e, h0⟩ | ⟨g2, cap, cur, e, hb2, -, hcap, -⟩
    · simp only [Value.slice.injEq] at e
      obtain ⟨rfl, e2, rfl⟩ := e
      exact ⟨w.heap.size, Nat.le_refl _, .inl ⟨List.eq_nil_of_length_eq_zero h0, rfl, rfl⟩, by omega⟩
    · simp only [Value.slice.injEq] at e
      obtain ⟨rfl, -, rfl⟩ := e
      exact ⟨g2, hb2, .inr rfl, hcap⟩
  obtain ⟨gl', hgl', hA2⟩ := hA2
  simp only [List.toArray] at hr2
  have hba := below_alloc wx (.cells #[.int .i64 n, .slice A2 L.length c2] 82)
  go_wp2
  go_ret
  exact ⟨wx.heap.size, gl', rfl, ⟨A2, c2, hr2, hc2.below hba, hA2⟩, hb.size, hgl', below_next hb hb.size hba⟩
end Go.Proofs.Ytnngnekfgijejaa
