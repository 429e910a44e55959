/-
  The examples of the layer of ranks: they hold.
-/
import Derived.Test.YtgdfphcggjclkaaDoorRaF
import Derived.ArgAppend
namespace Go.Proofs.YtgdfphcggjclkaaDoor
open Go Go.RowKit Go.Maps Go.Shelf Go.Proofs

attribute [local go_sem] Oper.semAt_some

theorem grid_head {w : World} {g : Nat} {e : TypeId} {v : Value} {vs : List Value} {l : List Int} (hO : Row1 w g e (v :: vs)) (h : RowV w v l) : Grid w (some ⟨g, 0, none⟩) [l] :=
  ⟨[v], .inr ⟨g, 0, rfl, fun i u hu => by
    match i, hu with
    | 0, hu =>
      obtain rfl : v = u := by simpa using hu
      exact hO.cell (k := 0) rfl
    | i + 1, hu => simp at hu⟩, rfl, RowsV.at_ (vs := [v]) (f := [l]) ⟨h, trivial⟩⟩
theorem grid_own {w : World} {base : Nat} {e : TypeId} {v : Value} {vs : List Value} {f : List (List Int)} (hO : Own w base e v vs) (h : RowsV w vs f) : ∃ A c, v = .slice A f.length c ∧ Grid w A f := by
  obtain ⟨A, c, rfl, hc⟩ := hO.form
  exact ⟨A, c, by rw [h.len], vs, hc, h.len, h.at_⟩
theorem RowV.below {w w' : World} {v : Value} {l : List Int} (h : RowV w v l) (hb : Below w.heap.size w w') : RowV w' v l := h.keep fun _ hp => hb.cell hp
theorem NumsE.own {xs : List Int} {en : Int} {w w' : World} {e : Ending} (h : NumsE xs en w e w') : ∃ A c, e = .returned (.tuple #[.slice A xs.length c, .int .i64 en]) ∧ Cells w' A (u64v xs) ∧ Below w.heap.size w w' := by
  obtain ⟨v, rfl, ho, hb⟩ := h
  obtain ⟨A, c, rfl, hc⟩ := ho.form
  exact ⟨A, c, by rw [List.length_map], hc, hb⟩
/-- 'append(s, u)' behind a row that is full: a new block. (For an operation that is guarded, too.) -/
theorem wpList_push_full {P : Program} {t e : TypeId} {z : Value} {bytes : Nat} (E : Elt P t e z bytes) (w : World) {ops : Array Oper} {rest : List Oper} {o : Oper} {a : Act} {Q : Exit → Act → World → Prop}
    (hg : Region.wanted o (yielded ops a.tmps) = true) (s x : Operand) (hop : o.op = .call { callee := .builtin .append, args := #[s, x], argTypes := #[t, t] })
    {b c : Nat} {xs : List Value} {u : Value} (hR : Row1 w b e xs) (hs : a.eval s = .slice (some ⟨b, 0, none⟩) xs.length xs.length) (hU : Row1 w c e [u]) (hx : a.eval x = .slice (some ⟨c, 0, none⟩) 1 1) (h1 : u.oneCell' = true)
    (hb : (xs.length + 1) * bytes ≤ 140737488355328) (hm : xs.length + 1 ≤ maxLen)
    (hK : ∀ v' w', Own w' w.heap.size e v' (xs ++ [u]) → Below w.heap.size w w' → wpList P ops Q rest (a.put o.dst v') w') :
    wpList P ops Q (o :: rest) a w := by
  obtain ⟨i, hi, hz, hsz, hby⟩ := E.info
  obtain ⟨v', w', hrun, r1, r2⟩ := run_append_arg_grows (P := P) w t o.type e i z 1 bytes E.under hi hz hsz hby E.one (by decide) ⟨b, 0, none⟩ xs.length xs.length xs (by omega) (fun j u' hj => by rw [Addr.add_lit, Nat.zero_add]; exact hR.cell hj) ⟨c, 0, none⟩ 1 1 [u] rfl (fun j u' hj => by rw [Addr.add_lit, Nat.zero_add]; exact hU.cell hj) (by omega) hm hb
  refine wpList_step fun K hK' => ?_
  rw [if_pos hg]
  unfold Oper.wp
  simp [execOp, hop, resolve, invoke, builtin, hs, hx, hrun, Result.andThen]
  refine hK' _ _ (hK v' w' ?_ ((Below.refl _ _).grown r2 (Nat.le_refl _) fun j e => by cases e))
  unfold Own; rw [List.length_append]; exact r1
theorem nums_b (A B : Option Addr) (la lb : List Int) (ca cb : Nat) (w : World) (hA : Cells w A (u64v la)) (hB : Cells w B (u64v lb)) (hl : la.length ≤ 9223372036854775807) (hl' : lb.length ≤ 9223372036854775807) :
    Calls Tryd.prog 48 #[.slice A la.length ca, .slice B lb.length cb] w fun e w' => e = .returned (.bool (decide (la = lb))) ∧ Below w.heap.size w w' :=
  (nums_c A B la lb ca cb w hA hB hl hl').mono fun _ _ h => ⟨h.1, below_of_dr h.2⟩
set_option maxRecDepth 100000 in
set_option maxHeartbeats 4000000 in
theorem works_c (w : World) (hT : Tabs w) [DecidableEq Lit] : Calls Tryd.prog 51 #[] w fun e w' => e = .returned (.bool true) ∧ Below w.heap.size w w' := by
  go_enter Tryd.func51, Tryd.ntmps51
  have hbw := Below.refl w.heap.size w
  have hB := Bun.nil w
  go_wp2_with (refine wpList_named hB rfl ?_; clear hB; intro wn gn hB hbn hg; (try rw [hg]); clear hg)
  have hs := hB.b
  replace hbw := below_next hbw hbw.size hs
  have hO := hB.row (i := 1) rfl
  have hr1 := hB.row (i := 3) rfl
  have hr2 := hB.row (i := 2) rfl
  refine (solve_c _ [[1, 2], [2, 4]] 2 _ [3, 6] 2 7 _ (grid_of (f := [[1, 2], [2, 4]]) hO ⟨rowV_at [1, 2] hr1 (by decide), rowV_at [2, 4] hr2 (by decide), trivial⟩) (rowsOk_of (by decide)) ((hB.row (i := 0) rfl).cells) (by decide) (u64s_of (by decide)) (⟨by decide, by decide⟩) (hT.below hbw) (by decide) (by decide)).mono ?_
  rintro e x1 hn
  rw [sv1] at hn
  obtain ⟨A1, c1, rfl, hc1, hb⟩ := hn.own
  clear hn
  replace hO := hO.below hb
  replace hr1 := hr1.below hb
  replace hr2 := hr2.below hb
  replace hbw := below_next hbw hbw.size hb
  clear hb hs hB
  have k1 := hc1
  clear hc1
  have hB := Bun.nil x1
  go_wp2_with (refine wpList_named hB rfl ?_; clear hB; intro wn gn hB hbn hg; (try rw [hg]); clear hg)
  have hs := hB.b
  replace hO := hO.below hs
  replace hr1 := hr1.below hs
  replace hr2 := hr2.below hs
  replace k1 := k1.below hs
  replace hbw := below_next hbw hbw.size hs
  refine (solve_c _ [[1, 2], [2, 4]] 2 _ [3, 5] 2 7 _ (grid_of (f := [[1, 2], [2, 4]]) hO ⟨rowV_at [1, 2] hr1 (by decide), rowV_at [2, 4] hr2 (by decide), trivial⟩) (rowsOk_of (by decide)) ((hB.row (i := 0) rfl).cells) (by decide) (u64s_of (by decide)) (⟨by decide, by decide⟩) (hT.below hbw) (by decide) (by decide)).mono ?_
  rintro e x2 hn
  rw [sv2] at hn
  obtain ⟨A2, c2, rfl, hc2, hb⟩ := hn.own
  clear hn
  replace hO := hO.below hb
  replace hr1 := hr1.below hb
  replace hr2 := hr2.below hb
  replace k1 := k1.below hb
  replace hbw := below_next hbw hbw.size hb
  clear hb hs hB
  clear hc2
  have hB := Bun.nil x2
  go_wp2_with (refine wpList_named hB rfl ?_; clear hB; intro wn gn hB hbn hg; (try rw [hg]); clear hg)
  have hs := hB.b
  replace hO := hO.below hs
  replace hr1 := hr1.below hs
  replace hr2 := hr2.below hs
  replace k1 := k1.below hs
  replace hbw := below_next hbw hbw.size hs
  refine (solve_c _ [[0, 2]] 1 _ [3] 1 7 _ (grid_of (hB.row (i := 1) rfl) ⟨rowV_at [0, 2] (hB.row (i := 2) rfl) (by decide), trivial⟩) (rowsOk_of (by decide)) ((hB.row (i := 0) rfl).cells) (by decide) (u64s_of (by decide)) (⟨by decide, by decide⟩) (hT.below hbw) (by decide) (by decide)).mono ?_
  rintro e x3 hn
  rw [sv3] at hn
  obtain ⟨A3, c3, rfl, hc3, hb⟩ := hn.own
  clear hn
  replace hO := hO.below hb
  replace hr1 := hr1.below hb
  replace hr2 := hr2.below hb
  replace k1 := k1.below hb
  replace hbw := below_next hbw hbw.size hb
  clear hb hs hB
  have k3 := hc3
  clear hc3
  have hB := Bun.nil x3
  go_wp2_with (refine wpList_named hB rfl ?_; clear hB; intro wn gn hB hbn hg; (try rw [hg]); clear hg)
  have hs := hB.b
  replace hO := hO.below hs
  replace hr1 := hr1.below hs
  replace hr2 := hr2.below hs
  replace k1 := k1.below hs
  replace k3 := k3.below hs
  replace hbw := below_next hbw hbw.size hs
  refine (solve_c _ [[1, 2], [2, 4]] 2 _ [] 0 6 _ (grid_of (f := [[1, 2], [2, 4]]) hO ⟨rowV_at [1, 2] hr1 (by decide), rowV_at [2, 4] hr2 (by decide), trivial⟩) (rowsOk_of (by decide)) (.inl rfl) (by decide) (u64s_of (by decide)) (⟨by decide, by decide⟩) (hT.below hbw) (by decide) (by decide)).mono ?_
  rintro e x4 hn
  rw [sv4] at hn
  obtain ⟨A4, c4, rfl, hc4, hb⟩ := hn.own
  clear hn
  replace hO := hO.below hb
  replace hr1 := hr1.below hb
  replace hr2 := hr2.below hb
  replace k1 := k1.below hb
  replace k3 := k3.below hb
  replace hbw := below_next hbw hbw.size hb
  clear hb hs hB
  clear hc4
  have hB := Bun.nil x4
  go_wp2_with (refine wpList_named hB rfl ?_; clear hB; intro wn gn hB hbn hg; (try rw [hg]); clear hg)
  have hs := hB.b
  replace hO := hO.below hs
  replace hr1 := hr1.below hs
  replace hr2 := hr2.below hs
  replace k1 := k1.below hs
  replace k3 := k3.below hs
  replace hbw := below_next hbw hbw.size hs
  refine (rank_c _ [[1, 2], [2, 4]] 2 7 _ (grid_of (f := [[1, 2], [2, 4]]) hO ⟨rowV_at [1, 2] hr1 (by decide), rowV_at [2, 4] hr2 (by decide), trivial⟩) (rowsOk_of (by decide)) (⟨by decide, by decide⟩) (hT.below hbw)).mono ?_
  rintro e x5 ⟨rfl, hb⟩
  rw [rk1]
  replace hO := hO.below hb
  replace hr1 := hr1.below hb
  replace hr2 := hr2.below hb
  replace k1 := k1.below hb
  replace k3 := k3.below hb
  replace hbw := below_next hbw hbw.size hb
  clear hb hs hB
  have hB := Bun.nil x5
  go_wp2_with (first | (refine wpList_named hB rfl ?_; clear hB; intro wn gn hB hbn hg; (try rw [hg]); clear hg) | (at_builtin; go_loud (refine wpList_push_full elt_rows _ (by rfl) _ _ rfl (hO.below hB.b) rfl (hB.row (i := 0) rfl) rfl rfl (by show (2 + 1) * _ ≤ 140737488355328; decide) (by show 2 + 1 ≤ maxLen; decide) ?_); intro v6 w6 hown6 hb6; have hr3 := (hB.row (i := 1) rfl).below hb6; have hs6 := below_next hB.b hB.b.size hb6; clear hB hb6))
  have hs := hs6
  clear hs6
  replace hO := hO.below hs
  replace hr1 := hr1.below hs
  replace hr2 := hr2.below hs
  replace k1 := k1.below hs
  replace k3 := k3.below hs
  replace hbw := below_next hbw hbw.size hs
  obtain ⟨A6, c6, rfl, hg6⟩ := grid_own (f := [[1, 2], [2, 4], [0, 1]]) hown6 ⟨rowV_at [1, 2] hr1 (by decide), rowV_at [2, 4] hr2 (by decide), rowV_at [0, 1] hr3 (by decide), trivial⟩
  have hB := Bun.nil w6
  refine (rank_c A6 [[1, 2], [2, 4], [0, 1]] c6 7 w6 hg6 (rowsOk_of (by decide)) ⟨by decide, by decide⟩ (hT.below hbw)).mono ?_
  rintro e y6 ⟨rfl, hb⟩
  rw [rk2]
  clear hown6 hg6 hr3
  replace hO := hO.below hb
  replace hr1 := hr1.below hb
  replace hr2 := hr2.below hb
  replace k1 := k1.below hb
  replace k3 := k3.below hb
  replace hbw := below_next hbw hbw.size hb
  clear hb hs hB
  have hB := Bun.nil y6
  go_wp2_with (refine wpList_named hB rfl ?_; clear hB; intro wn gn hB hbn hg; (try rw [hg]); clear hg)
  have hs := hB.b
  replace hO := hO.below hs
  replace hr1 := hr1.below hs
  replace hr2 := hr2.below hs
  replace k1 := k1.below hs
  replace k3 := k3.below hs
  replace hbw := below_next hbw hbw.size hs
  refine (hangs_c _ [[1, 2]] 2 _ [3, 6] 2 7 _ (grid_head hO (rowV_at [1, 2] hr1 (by decide))) (rowsOk_of (by decide)) ((hB.row (i := 0) rfl).cells) (by decide) (u64s_of (by decide)) (⟨by decide, by decide⟩) (hT.below hbw)).mono ?_
  rintro e x6 ⟨rfl, hb⟩
  rw [hg1]
  replace hO := hO.below hb
  replace hr1 := hr1.below hb
  replace hr2 := hr2.below hb
  replace k1 := k1.below hb
  replace k3 := k3.below hb
  replace hbw := below_next hbw hbw.size hb
  clear hb hs hB
  have hB := Bun.nil x6
  go_wp2_with (refine wpList_named hB rfl ?_; clear hB; intro wn gn hB hbn hg; (try rw [hg]); clear hg)
  have hs := hB.b
  replace hO := hO.below hs
  replace hr1 := hr1.below hs
  replace hr2 := hr2.below hs
  replace k1 := k1.below hs
  replace k3 := k3.below hs
  replace hbw := below_next hbw hbw.size hs
  refine (hangs_c _ [] 0 _ [0, 0] 2 7 _ (grid_none _) (rowsOk_of (by decide)) ((hB.row (i := 0) rfl).cells) (by decide) (u64s_of (by decide)) (⟨by decide, by decide⟩) (hT.below hbw)).mono ?_
  rintro e x7 ⟨rfl, hb⟩
  rw [hg2]
  replace hO := hO.below hb
  replace hr1 := hr1.below hb
  replace hr2 := hr2.below hb
  replace k1 := k1.below hb
  replace k3 := k3.below hb
  replace hbw := below_next hbw hbw.size hb
  clear hb hs hB
  have hB := Bun.nil x7
  go_wp2_with (refine wpList_named hB rfl ?_; clear hB; intro wn gn hB hbn hg; (try rw [hg]); clear hg)
  have hs := hB.b
  replace hO := hO.below hs
  replace hr1 := hr1.below hs
  replace hr2 := hr2.below hs
  replace k1 := k1.below hs
  replace k3 := k3.below hs
  replace hbw := below_next hbw hbw.size hs
  refine (hangs_c _ [[1, 2]] 2 _ [1] 1 7 _ (grid_head hO (rowV_at [1, 2] hr1 (by decide))) (rowsOk_of (by decide)) ((hB.row (i := 0) rfl).cells) (by decide) (u64s_of (by decide)) (⟨by decide, by decide⟩) (hT.below hbw)).mono ?_
  rintro e x8 ⟨rfl, hb⟩
  rw [hg3]
  replace hO := hO.below hb
  replace hr1 := hr1.below hb
  replace hr2 := hr2.below hb
  replace k1 := k1.below hb
  replace k3 := k3.below hb
  replace hbw := below_next hbw hbw.size hb
  clear hb hs hB
  have hB := Bun.nil x8
  go_wp2_with (refine wpList_named hB rfl ?_; clear hB; intro wn gn hB hbn hg; (try rw [hg]); clear hg)
  have hs := hB.b
  replace hO := hO.below hs
  replace hr1 := hr1.below hs
  replace hr2 := hr2.below hs
  replace k1 := k1.below hs
  replace k3 := k3.below hs
  replace hbw := below_next hbw hbw.size hs
  refine (nums_b _ _ [3, 0] [3, 0] _ 2 _ k1 ((hB.row (i := 0) rfl).cells) (by decide) (by decide)).mono ?_
  rintro e x9 ⟨rfl, hb⟩
  rw [show decide (([3, 0] : List Int) = [3, 0]) = true from by decide]
  replace hO := hO.below hb
  replace hr1 := hr1.below hb
  replace hr2 := hr2.below hb
  replace k1 := k1.below hb
  replace k3 := k3.below hb
  replace hbw := below_next hbw hbw.size hb
  clear hb hs hB
  have hB := Bun.nil x9
  go_wp2_with (refine wpList_named hB rfl ?_; clear hB; intro wn gn hB hbn hg; (try rw [hg]); clear hg)
  have hs := hB.b
  replace hO := hO.below hs
  replace hr1 := hr1.below hs
  replace hr2 := hr2.below hs
  replace k1 := k1.below hs
  replace k3 := k3.below hs
  replace hbw := below_next hbw hbw.size hs
  refine (nums_b _ _ [0, 5] [0, 5] _ 2 _ k3 ((hB.row (i := 0) rfl).cells) (by decide) (by decide)).mono ?_
  rintro e x10 ⟨rfl, hb⟩
  rw [show decide (([0, 5] : List Int) = [0, 5]) = true from by decide]
  replace hO := hO.below hb
  replace hr1 := hr1.below hb
  replace hr2 := hr2.below hb
  replace k1 := k1.below hb
  replace k3 := k3.below hb
  replace hbw := below_next hbw hbw.size hb
  clear hb hs hB
  go_wp2
  go_ret
  exact ⟨rfl, hbw⟩
end Go.Proofs.YtgdfphcggjclkaaDoor
