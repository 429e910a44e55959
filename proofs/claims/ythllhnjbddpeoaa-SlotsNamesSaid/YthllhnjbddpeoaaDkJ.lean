/-
  The sectors of a disk that are not all 00, or are written to, rising.
-/
import Derived.Test.YthllhnjbddpeoaaDkI
import Derived.Sort.OwnSortedInts
namespace Go.Proofs.Ythllhnjbddpeoaa
open Go.RowKit Go.Maps Go.Shelf Go.Proofs Go.Sort

theorem Own.parts {w : World} {base : Nat} {t : TypeId} {v : Value} {xs : List Value} (h : Own w base t v xs) (hne : 0 < xs.length) :
    ∃ g cap cur, v = .slice (some ⟨g, 0, none⟩) xs.length cap ∧ base ≤ g ∧ w.heap[g]? = some (.cells cur t (0, 0)) ∧ xs.length ≤ cap ∧ cap ≤ maxLen ∧ cur.size = cap ∧ cur.toList.take xs.length = xs := by
  rcases h.2 with ⟨_, h0⟩ | ⟨g, cap, cur, h1, h2, h3, h4, h5, h6, h7⟩
  · omega
  · exact ⟨g, cap, cur, h1, h2, h3, h4, h5, by rw [h6, Nat.mul_one], by rw [Nat.mul_one] at h7; exact h7⟩
/-- slices.Compact, of a row of the call's own. -/
theorem compact_c (base : Nat) (v : Value) (zs : List Int) (w : World) (h : Own w base 3 v (zs.map (.int .i64))) (hl : zs.length ≤ 10000000) :
    Calls Try.prog 67 #[v] w fun e w' => ∃ v', e = .returned v' ∧ Own w' base 3 v' ((Lib.compact zs).map (.int .i64)) ∧ w.grownBy w' v.ownBlock := by
  by_cases h0 : zs = []
  · subst h0
    rcases h.2 with ⟨rfl, _⟩ | ⟨g, cap, cur, rfl, r⟩
    · have hC := Try.slices_Compact_int_empty none 0 w
      change Calls Try.prog 67 _ _ _ at hC
      refine hC.mono ?_
      rintro e w2 ⟨rfl, rfl⟩
      exact ⟨_, rfl, h, ⟨rfl, rfl, rfl, Nat.le_refl _, fun _ _ _ => rfl⟩⟩
    · have hC := Try.slices_Compact_int_empty (some ⟨g, 0, none⟩) cap w
      change Calls Try.prog 67 _ _ _ at hC
      refine hC.mono ?_
      rintro e w2 ⟨rfl, rfl⟩
      exact ⟨_, rfl, h, ⟨rfl, rfl, rfl, Nat.le_refl _, fun _ _ _ => rfl⟩⟩
  · have hpos : 0 < (zs.map (Value.int .i64)).length := by
      rw [List.length_map]
      exact Nat.pos_of_ne_zero fun e => h0 (List.eq_nil_of_length_eq_zero e)
    obtain ⟨g, cap, cur, rfl, hbg, hg, hc1, hc2, hc3, hc4⟩ := h.parts hpos
    rw [List.length_map] at hc1 hc4
    rw [List.length_map]
    have hH : Holds (Value.int .i64) w g 0 zs.toArray := holds_of_blockI hg hc4
    have hC := Try.slices_Compact_int_arr g 0 cap zs.toArray w hH (by simp; omega) (by simpa using hc1)
    change Calls Try.prog 67 _ _ _ at hC
    simp only [List.size_toArray] at hC
    refine hC.mono ?_
    rintro e w2 ⟨rfl, q, rfl⟩
    have hle : (Lib.compactUpTo zs.toArray zs.length).length ≤ zs.length := by
      unfold Lib.compactUpTo
      rw [List.length_map]
      refine Nat.le_trans (List.length_filter_le _ _) ?_
      simp
    have hg2 := heap_sortedI (n := q) (os := #[]) ((Lib.compactUpTo zs.toArray zs.length ++ List.replicate (zs.length - (Lib.compactUpTo zs.toArray zs.length).length) 0).toArray) hg
    have hgr := grownBy_sortedI (w := w) (g := g) (n := q) (os := #[]) ((Lib.compactUpTo zs.toArray zs.length ++ List.replicate (zs.length - (Lib.compactUpTo zs.toArray zs.length).length) 0).toArray)
    rw [grow_empty] at hg2 hgr
    refine ⟨_, rfl, ⟨by simp [Lib.compact], .inr ⟨g, cap, _, by simp [Lib.compact], hbg, hg2, ?_, hc2, by simp [putCells, hc3], ?_⟩⟩, hgr⟩
    · simp only [List.length_map, Lib.compact]; omega
    · have ht := take_putCellsI cur (Lib.compactUpTo zs.toArray zs.length ++ List.replicate (zs.length - (Lib.compactUpTo zs.toArray zs.length).length) 0) (by simp; omega)
      have ht2 := congrArg (List.take (Lib.compactUpTo zs.toArray zs.length).length) ht
      rw [List.take_take, List.map_append, List.take_append_of_le_length (by simp)] at ht2
      simp only [List.length_map, Lib.compact, Nat.mul_one]
      rw [Nat.min_eq_left (by simp)] at ht2
      rw [ht2, List.take_of_length_le (by simp)]


theorem OwnI.own {w : World} {base : Nat} {v : Value} {xs : List Int} (h : OwnI w base v xs) : Own w base 3 v (xs.map (Value.int .i64)) := by
  unfold Own
  rw [List.length_map]
  exact h
theorem OwnI.of {w : World} {base : Nat} {v : Value} {xs : List Int} (h : Own w base 3 v (xs.map (Value.int .i64))) : OwnI w base v xs := by
  unfold Own at h
  rw [List.length_map] at h
  exact h
def srt (zs : List Int) : List Int := zs.mergeSort fun x y => decide (x ≤ y)
theorem srt_len (zs : List Int) : (srt zs).length = zs.length := by simp [srt]
/-- slices.Sort, of a row of the call's own. -/
theorem sort_c (base : Nat) (v : Value) (zs : List Int) (w : World) (h : Own w base 3 v (zs.map (.int .i64))) (hl : zs.length ≤ 10000000) :
    Calls Try.prog 66 #[v] w fun e w' => e = .returned (.tuple #[]) ∧ Own w' base 3 v ((srt zs).map (.int .i64)) ∧ w.grownBy w' v.ownBlock := by
  by_cases h0 : zs = []
  · subst h0
    have hs : srt [] = [] := by simp [srt]
    rw [hs]
    rcases h.2 with ⟨rfl, _⟩ | ⟨g, cap, cur, rfl, r⟩
    · have hC := Try.slices_Sort_int_none none 0 w
      refine hC.mono ?_
      rintro e w2 ⟨rfl, rfl⟩
      exact ⟨rfl, h, ⟨rfl, rfl, rfl, Nat.le_refl _, fun _ _ _ => rfl⟩⟩
    · have hC := Try.slices_Sort_int_none (some ⟨g, 0, none⟩) cap w
      refine hC.mono ?_
      rintro e w2 ⟨rfl, rfl⟩
      exact ⟨rfl, h, ⟨rfl, rfl, rfl, Nat.le_refl _, fun _ _ _ => rfl⟩⟩
  · have hpos : 0 < (zs.map (Value.int .i64)).length := by
      rw [List.length_map]
      exact Nat.pos_of_ne_zero fun e => h0 (List.eq_nil_of_length_eq_zero e)
    obtain ⟨g, cap, cur, rfl, hbg, hg, hc1, hc2, hc3, hc4⟩ := h.parts hpos
    rw [List.length_map] at hc1 hc4
    rw [List.length_map]
    have hH : Holds (Value.int .i64) w g 0 zs.toArray := holds_of_blockI hg hc4
    refine (Try.slices_Sort_int g 0 cap zs w hH (Array.getElem?_eq_some_iff.1 hg).1 (by omega)).mono ?_
    rintro e w2 ⟨rfl, n, os, rfl⟩
    refine ⟨rfl, ?_, grownBy_sortedI _⟩
    have := ownsRow_sortedI (n := n) (os := os) (ss := zs) (ts := srt zs) (srt_len zs) hbg hg hc1 hc2 (by omega)
    unfold Own
    rw [List.length_map, srt_len]
    exact this

/-- strictly rising. -/
def Up (l : List Int) : Prop := l.Pairwise (· < ·)
theorem up_eq : ∀ {l l' : List Int}, Up l → Up l' → (∀ a, a ∈ l ↔ a ∈ l') → l = l'
  | [], [], _, _, _ => rfl
  | [], x :: l', _, _, h => by have := (h x).2 (List.mem_cons_self ..); cases this
  | x :: l, [], _, _, h => by have := (h x).1 (List.mem_cons_self ..); cases this
  | x :: l, y :: l', h1, h2, h => by
    obtain ⟨a1, a2⟩ := List.pairwise_cons.1 h1
    obtain ⟨b1, b2⟩ := List.pairwise_cons.1 h2
    have e : x = y := by
      have hx := (h x).1 (List.mem_cons_self ..)
      have hy := (h y).2 (List.mem_cons_self ..)
      rcases List.mem_cons.1 hx with e | hx
      · exact e
      · rcases List.mem_cons.1 hy with e | hy
        · exact e.symm
        · have := a1 y hy; have := b1 x hx; omega
    subst e
    rw [up_eq a2 b2 fun a => ?_]
    constructor
    · intro ha
      have := a1 a ha
      rcases List.mem_cons.1 ((h a).1 (List.mem_cons_of_mem _ ha)) with e | h3
      · omega
      · exact h3
    · intro ha
      have := b1 a ha
      rcases List.mem_cons.1 ((h a).2 (List.mem_cons_of_mem _ ha)) with e | h3
      · omega
      · exact h3
theorem compact_up (zs : List Int) (hs : zs.Pairwise (· ≤ ·)) : Up (Lib.compact zs) ∧ ∀ a, a ∈ Lib.compact zs ↔ a ∈ zs := by
  have hget : ∀ i, i < zs.length → zs.toArray[i]! = zs[i]! := fun i h => by simp
  have key : ∀ j, j ≤ zs.length → Up (Lib.compactUpTo zs.toArray j) ∧ (∀ a, a ∈ Lib.compactUpTo zs.toArray j ↔ a ∈ zs.take j) := by
    intro j
    induction j with
    | zero => intro _; exact ⟨by simp [Lib.compactUpTo, Up], by simp [Lib.compactUpTo]⟩
    | succ j ih =>
      intro hj
      obtain ⟨h1, h2⟩ := ih (by omega)
      have hjl : j < zs.length := by omega
      have hz : zs.toArray[j]! = zs[j] := by simp [hjl]
      rw [Lib.compactUpTo_succ, hz, List.take_succ_eq_append_getElem hjl]
      have hle : ∀ a ∈ zs.take j, a ≤ zs[j] := fun a ha => by
        obtain ⟨i, hi, rfl⟩ := List.mem_iff_getElem.1 ha
        rw [List.getElem_take]
        exact List.pairwise_iff_getElem.1 hs i j _ hjl (by simp at hi; omega)
      cases hk : Lib.keeps zs.toArray j with
      | true =>
        simp only [if_true]
        refine ⟨?_, fun a => by rw [List.mem_append, List.mem_append, h2]⟩
        unfold Up
        rw [List.pairwise_append]
        refine ⟨h1, List.pairwise_singleton _ _, fun a ha b hb => ?_⟩
        simp only [List.mem_singleton] at hb
        subst hb
        have ha2 := (h2 a).1 ha
        have h3 := hle a ha2
        rcases Nat.eq_zero_or_pos j with h0 | h0
        · subst h0; simp at ha2
        · have h4 : zs[j] ≠ zs[j - 1] := by
            simp only [Lib.keeps, Bool.or_eq_true, decide_eq_true_eq, bne_iff_ne, beq_iff_eq] at hk
            rcases hk with hk | hk
            · omega
            · rw [hz] at hk
              simpa [show j - 1 < zs.length by omega] using hk
          have h5 : a ≤ zs[j - 1] := by
            obtain ⟨i, hi, rfl⟩ := List.mem_iff_getElem.1 ha2
            rw [List.getElem_take]
            simp at hi
            rcases Nat.lt_or_ge i (j - 1) with h | h
            · exact List.pairwise_iff_getElem.1 hs i (j - 1) _ (by omega) h
            · have : i = j - 1 := by omega
              subst this; exact Int.le_refl _
          have h6 : zs[j - 1] ≤ zs[j] := List.pairwise_iff_getElem.1 hs (j - 1) j (by omega) hjl (by omega)
          omega
      | false =>
        simp only [Bool.false_eq_true, if_false, List.append_nil]
        refine ⟨h1, fun a => ?_⟩
        rw [h2, List.mem_append]
        constructor
        · exact .inl
        · rintro (h | h)
          · exact h
          · simp only [List.mem_singleton] at h
            subst h
            have h0 : 0 < j := by
              rcases Nat.eq_zero_or_pos j with h | h
              · subst h; simp [Lib.keeps] at hk
              · exact h
            have h4 : zs[j] = zs[j - 1] := by
              simp only [Lib.keeps, Bool.or_eq_false_iff, decide_eq_false_iff_not, bne_eq_false_iff_eq, beq_eq_false_iff_ne] at hk
              have := Classical.not_not.1 fun h => hk (.inr h)
              rw [hz] at this
              simpa [show j - 1 < zs.length by omega] using this
            rw [h4]
            exact List.mem_iff_getElem.2 ⟨j - 1, by simp; omega, by rw [List.getElem_take]⟩
  have := key zs.length (Nat.le_refl _)
  rwa [List.take_length] at this
theorem used_up (zs : List Int) : Up (Lib.compact (srt zs)) ∧ ∀ a, a ∈ Lib.compact (srt zs) ↔ a ∈ zs := by
  have hs : (srt zs).Pairwise (· ≤ ·) := by
    have := List.pairwise_mergeSort (le := fun x y : Int => decide (x ≤ y)) (fun a b c h1 h2 => by simp at *; omega) (fun a b => by simp; omega) zs
    exact this.imp fun h => by simpa using h
  have h := compact_up (srt zs) hs
  exact ⟨h.1, fun a => by rw [h.2]; exact (List.mergeSort_perm zs _).mem_iff⟩
end Go.Proofs.Ythllhnjbddpeoaa
