/-
  The examples of layer 5: they hold.
-/
import Derived.Test.YtmmmdidbnjcooaaDoorRobF
namespace Go.Proofs.YtmmmdidbnjcooaaDoor
open Go Go.RowKit Go.Maps Go.Shelf Go.Proofs

attribute [local go_sem] Oper.semAt_some

theorem u64s_of' {l : List Int} (h : (l.all fun n => decide (0 ≤ n) && decide (n < 18446744073709551616)) = true) : U64s l := by
  intro z hz
  have := List.all_eq_true.1 h z hz
  simp only [Bool.and_eq_true, decide_eq_true_eq] at this
  exact this
theorem is_1 : isB [1, 2, 3, 4] [5, 7, 9, 1] 1 11 [3, 2] [3] = true := isB_at ro_2
theorem is_2 : isB [1, 2, 3, 4] [4, 6, 6, 4] 0 11 [4] [1, 2] = true := isB_at ro_3
set_option maxRecDepth 100000 in
set_option maxHeartbeats 4000000 in
theorem awake05_c (w : World) (hTab : Tabs w) :
    Calls Tryd.prog 21 #[] w fun e w' => e = .returned (.bool true) ∧ Below w.heap.size w w' := by
  have hB := Bun.nil w
  go_enter Tryd.func21, Tryd.ntmps21
  go_wp2_with (first | (refine wpList_named hB rfl ?_; clear hB; intro wn gn hB hbn hg; (try rw [hg]); clear hg hbn) | fail)
  refine (dec_c _ _ [1, 2, 3, 4] [5, 7, 0, 1] 4 4 1 11 _ ((hB.row (i := 1) rfl).cells) ((hB.row (i := 0) rfl).cells) (by decide) (by decide) (u64s_of' (by decide)) (u64s_of' (by decide)) ⟨by decide, by decide⟩ ⟨by decide, by decide⟩ (hTab.below hB.b)).mono ?_
  rintro e w2 ⟨v1, v2, rfl, _, _, hb2⟩
  rw [ro_1]
  replace hB := (hB.more hb2)
  clear hb2
  go_wp2_with (first | (refine wpList_named hB rfl ?_; clear hB; intro wn gn hB hbn hg; (try rw [hg]); clear hg hbn) | fail)
  refine (is_c _ _ _ _ [1, 2, 3, 4] [5, 7, 9, 1] [3, 2] [3] 4 4 2 1 1 11 _ ((hB.row (i := 4) rfl).cells) ((hB.row (i := 2) rfl).cells) ((hB.row (i := 1) rfl).cells) ((hB.row (i := 0) rfl).cells) (by decide) (by decide) (by decide) (by decide) (u64s_of' (by decide)) (u64s_of' (by decide)) ⟨by decide, by decide⟩ ⟨by decide, by decide⟩ (hTab.below hB.b)).mono ?_
  rintro e w3 ⟨rfl, hb3⟩
  rw [is_1]
  replace hB := (hB.more hb3)
  clear hb3
  go_wp2_with (first | (refine wpList_named hB rfl ?_; clear hB; intro wn gn hB hbn hg; (try rw [hg]); clear hg hbn) | fail)
  refine (is_c _ _ _ _ [1, 2, 3, 4] [4, 6, 6, 4] [4] [1, 2] 4 4 1 2 0 11 _ ((hB.row (i := 7) rfl).cells) ((hB.row (i := 2) rfl).cells) ((hB.row (i := 1) rfl).cells) ((hB.row (i := 0) rfl).cells) (by decide) (by decide) (by decide) (by decide) (u64s_of' (by decide)) (u64s_of' (by decide)) ⟨by decide, by decide⟩ ⟨by decide, by decide⟩ (hTab.below hB.b)).mono ?_
  rintro e w4 ⟨rfl, hb4⟩
  rw [is_2]
  replace hB := (hB.more hb4)
  clear hb4
  go_wp2
  go_ret
  exact ⟨rfl, hB.b⟩
end Go.Proofs.YtmmmdidbnjcooaaDoor
