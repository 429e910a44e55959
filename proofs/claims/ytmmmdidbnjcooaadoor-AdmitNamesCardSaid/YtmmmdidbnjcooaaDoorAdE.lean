/-
  The examples of the layer of admission: they hold.
-/
import Derived.Test.YtmmmdidbnjcooaaDoorAdD
import Derived.Test.YtmmmdidbnjcooaaDoorRaF
namespace Go.Proofs.YtmmmdidbnjcooaaDoor
open Go Go.RowKit Go.Maps Go.Shelf Go.Proofs

attribute [local go_sem] Oper.semAt_some

/-! ### At given numbers -/
def rankC (f : List (List Int)) (q : Int) : Nat := if primeV q = true then rankL q (invS q) f else 0
theorem rankV_C (f : List (List Int)) (q : Int) : rankV f q = rankC f q := by
  unfold rankC
  by_cases h : primeV q = true
  · rw [if_pos h, rankV_at h]
  · rw [if_neg h, rankV_no (by simpa using h)]
def hangsC (f : List (List Int)) (row : List Int) (q : Int) : Bool := if primeV q = true then hangsL q (invS q) f row else false
theorem hangsV_C (f : List (List Int)) (row : List Int) (q : Int) : hangsV f row q = hangsC f row q := by
  unfold hangsC
  by_cases h : primeV q = true
  · rw [if_pos h, hangsV_at h]
  · rw [if_neg h, hangsV_no (by simpa using h)]
def queryC (p : Par) (l : List Ask) (id : Int) (x : List Int) : Int :=
  if (decide (queryE p x = 4) || (decide (id < 1) || decide (id > 1099511627776))) = true then 4 else if decide (queryE p x ≠ 0) = true then queryE p x else if hasId l id = true then 6 else if decide (8 ≤ l.length) = true then 41 else if decide ((rankC (rowsP p l [x]) p.Q : Int) > p.R) = true then 22 else 0
theorem queryP_C (p : Par) (l : List Ask) (id : Int) (x : List Int) : queryP p l id x = queryC p l id x := by
  unfold queryP queryC wrongB
  rw [rankV_C]; rfl
theorem rankP_C (p : Par) (l : List Ask) : rankP p l = rankC (rowsP p l []) p.Q := rankV_C _ _
theorem followsP_C (p : Par) (l : List Ask) (x : List Int) : followsP p l x = hangsC (rowsP p l []) (rowS p x) p.Q := hangsV_C _ _ _
def pEx : Par := ⟨0, 11, 0, 0, 0, 0, 0, 1, 2, 1, 1, 3⟩
theorem pEx_ok : pEx.ok := by constructor <;> exact ⟨by decide, by decide⟩
abbrev twoL : List Ask := [⟨1, [1, 0]⟩, ⟨2, [0, 1]⟩]
theorem ex_q1 : queryP pEx [] 1 [1, 0] = 0 := by rw [queryP_C]; decide +kernel
theorem ex_q2 : queryP pEx [⟨1, [1, 0]⟩] 2 [1, 0] = 0 := by rw [queryP_C]; decide +kernel
theorem ex_q3 : queryP pEx [⟨1, [1, 0]⟩] 2 [0, 1] = 22 := by rw [queryP_C]; decide +kernel
theorem ex_q4 : queryP pEx [⟨1, [1, 0]⟩] 1 [0, 1] = 6 := by rw [queryP_C]; decide +kernel
theorem ex_r : rankP pEx twoL = 2 := by rw [rankP_C]; decide +kernel
theorem ex_f1 : followsP pEx twoL [-1, 2] = true := by rw [followsP_C]; decide +kernel
theorem ex_f2 : followsP pEx twoL [1, 1] = false := by rw [followsP_C]; decide +kernel

theorem i64s_of {l : List Int} (h : (l.all fun n => decide (-9223372036854775808 ≤ n) && decide (n < 9223372036854775808)) = true) : I64s l := by
  intro z hz
  have := List.all_eq_true.1 h z hz
  simp only [Bool.and_eq_true, decide_eq_true_eq] at this
  exact this
theorem askOk_of {l : List Ask} (h : (decide (l.length ≤ 1000) && l.all fun a => decide (-9223372036854775808 ≤ a.id) && (decide (a.id < 9223372036854775808) && (decide (a.x.length ≤ 1000000) && a.x.all fun n => decide (-9223372036854775808 ≤ n) && decide (n < 9223372036854775808)))) = true) : AskOk l := by
  simp only [Bool.and_eq_true, decide_eq_true_eq] at h
  have key := fun a ha => List.all_eq_true.1 h.2 a ha
  simp only [Bool.and_eq_true, decide_eq_true_eq] at key
  exact ⟨h.1, fun a ha => ⟨(key a ha).1, (key a ha).2.1⟩, fun a ha => i64s_of (key a ha).2.2.2, fun a ha => (key a ha).2.2.1⟩
theorem rowI_at {w : World} {g : Nat} {e : TypeId} (l : List Int) (h : Row1 w g e (l.map (.int .i64))) (hl : l.length ≤ 1000) : RowI w (.slice (some ⟨g, 0, none⟩) l.length l.length) l := ⟨_, _, rfl, h.cells, by omega⟩
theorem psome_c (w : World) : Calls Tryd.prog 32 #[] w fun e w' => e = .returned (pval pEx) ∧ Below w.heap.size w w' := by
  go_enter Tryd.func32, Tryd.ntmps32
  go_wp2
  refine bodyPost_ret (v := pval pEx) (by simp [results, Tryd.f32, go_sem, pEx]) rfl ⟨rfl, ?_⟩
  exact (Below.refl _ _).alloc (Nat.le_refl _) _
/-- the queries 1 0 and 0 1. -/
def TwoAt (w : World) (g g1 g2 : Nat) : Prop := Row1 w g 38 [.int .i64 1, .slice (some ⟨g1, 0, none⟩) 2 2, .int .i64 2, .slice (some ⟨g2, 0, none⟩) 2 2] ∧ Row1 w g1 2 [.int .i64 1, .int .i64 0] ∧ Row1 w g2 2 [.int .i64 0, .int .i64 1]
theorem TwoAt.below {w w' : World} {g g1 g2 : Nat} (h : TwoAt w g g1 g2) (hb : Below w.heap.size w w') : TwoAt w' g g1 g2 := ⟨h.1.below hb, h.2.1.below hb, h.2.2.below hb⟩
theorem TwoAt.asks {w : World} {g g1 g2 : Nat} (h : TwoAt w g g1 g2) : Asks w (some ⟨g, 0, none⟩) twoL := by
  refine ⟨[⟨1, .slice (some ⟨g1, 0, none⟩) 2 2⟩, ⟨2, .slice (some ⟨g2, 0, none⟩) 2 2⟩], h.1.cells, rfl, fun i a ha => ?_⟩
  match i, ha with
  | 0, ha =>
    obtain rfl := Option.some.inj ha
    exact ⟨_, rfl, rfl, rowI_at [1, 0] h.2.1 (by decide)⟩
  | 1, ha =>
    obtain rfl := Option.some.inj ha
    exact ⟨_, rfl, rfl, rowI_at [0, 1] h.2.2 (by decide)⟩
  | i + 2, ha => simp at ha
set_option maxRecDepth 100000 in
theorem ptwo_c (w : World) : Calls Tryd.prog 33 #[] w fun e w' => ∃ g g1 g2, e = .returned (.slice (some ⟨g, 0, none⟩) 2 2) ∧ TwoAt w' g g1 g2 ∧ Below w.heap.size w w' := by
  have hB := Bun.nil w
  go_enter Tryd.func33, Tryd.ntmps33
  go_wp2_with (refine wpList_named hB rfl ?_; clear hB; intro wn gn hB hbn hg; (try rw [hg]); clear hg)
  go_ret
  exact ⟨_, _, _, rfl, ⟨row1_new wn [.int .i64 1, .slice (some ⟨_, 0, none⟩) 2 2, .int .i64 2, .slice (some ⟨_, 0, none⟩) 2 2] _, (hB.row (i := 1) rfl).alloc _, (hB.row (i := 0) rfl).alloc _⟩, below_next hB.b hB.b.size (below_alloc wn _)⟩
set_option maxRecDepth 100000 in
set_option maxHeartbeats 8000000 in
theorem awake21_c (w : World) (hTab : Tabs w) [DecidableEq Lit] :
    Calls Tryd.prog 17 #[] w fun e w' => e = .returned (.bool true) ∧ Below w.heap.size w w' := by
  go_enter Tryd.func17, Tryd.ntmps17
  go_wp2_with (fail)
  refine (psome_c w).mono ?_
  rintro e w1 ⟨rfl, hb1⟩
  go_wp2_with (fail)
  refine (ptwo_c w1).mono ?_
  rintro e w2 ⟨g, g1, g2, rfl, htwo, hb2⟩
  have hb3 := below_alloc w2 (.cells (pcells pEx).toArray 34)
  have hP := row1_new w2 (pcells pEx) 34
  have hG := htwo.below hb3
  have hbw := (hb1.trans (hb2.mono hb1.size)).trans (hb3.mono (Nat.le_trans hb1.size hb2.size))
  have hTab2 := hTab.below hbw
  clear hTab htwo hb1 hb2 hb3
  go_upto_region 2 with (fail)
  simp only [List.toArray] at hP hG hbw hTab2
  generalize w2.alloc (.cells #[.int .u64 pEx.P, .int .u64 pEx.Q, .int .u64 pEx.G, .int .u64 pEx.H, .int .i64 pEx.Nodes, .int .i64 pEx.N, .int .i64 pEx.T, .int .i64 pEx.K, .int .i64 pEx.D, .int .i64 pEx.R, .int .i64 pEx.M, .int .i64 pEx.X] 34) = w3 at *
  obtain ⟨bp, hgp⟩ : ∃ n, w2.heap.size = n := ⟨_, rfl⟩
  rw [hgp] at hP ⊢
  clear hgp
  have one := askOk_of (l := [⟨1, [1, 0]⟩]) (by decide)
  have hx1 := i64s_of (l := [1, 0]) (by decide)
  have hx2 := i64s_of (l := [0, 1]) (by decide)
  refine Rg.wp_region (l := [_, _, _, _, _, _, _, _, _, _, _, _, _, _, _, _, _, _, _, _, _, _, _, _, _, _, _, _, _, _, _, _, _, _, _, _, _, _, _, _, _, _, _, _, _, _, _, _, _, _, _, _, _, _, _, _, _, _, _]) (tail := [_]) (Rg.grows _ 60) [some 5, some 6, some 7, some 8, some 9, some 10, some 11, some 12, some 13, some 14, some 15, some 16, some 17, some 18, some 19, some 20, some 21, some 22, some 23, some 24, some 25, some 26, some 27, some 28, some 29, some 30, some 31, some 32, some 33, some 34, some 35, some 36, some 37, some 38, some 39, some 40, some 41, some 42, some 43, some 44, some 45, some 46, some 47, some 48, some 49, some 50, some 51, some 52, some 53, some 54, some 55, some 56, some 57, some 58, some 59, some 60, some 61, some 62, some 63, some 0] 64 (by kernel_rfl) (by kernel_rfl) (by kernel_rfl) rfl (Rg.grows_fair _ _) (Rg.keep_drew _) (trivial) ?_
  refine Rg.op_is (pval pEx) [] rfl rfl (by kernel_rfl) ?_ ?_
  · intro wx hb
    refine Rg.from_nil fun T hT => ?_
    obtain ⟨p0, p1, p2, p3, p4, p5, p6, p7, p8, p9, p10, p11⟩ := par_cells (hP.below hb)
    go_wp2
    exact hT _ _ rfl (by first | exact Rg.Keep.refl _ | exact below_of_dr hw2 | exact hw2 | exact (Below.refl _ _).alloc (Nat.le_refl _) _) (by first | rfl | exact congrArg _ (by decide))
  refine' Rg.op_is _ [] rfl rfl (by kernel_rfl) ?_ ?_
  rotate_left
  · intro wx hb
    refine Rg.from_nil fun T hT => ?_
    go_wp2
    refine hT _ _ rfl (by first | exact Rg.Keep.refl _ | exact below_of_dr hw2 | exact hw2 | exact (Below.refl _ _).alloc (Nat.le_refl _) _) ?_
    simp only [Rg.last, List.getElem?_toArray, List.getElem?_cons_succ, List.getElem?_cons_zero, Option.getD_some]
    rfl
  refine' Rg.op_is _ [1] rfl rfl (by kernel_rfl) ?_ ?_
  rotate_left
  · intro wx hb
    refine Rg.from_is (some 6) rfl rfl ?_
    refine Rg.from_nil fun T hT => ?_
    go_wp2
    refine hT _ _ rfl (by first | exact Rg.Keep.refl _ | exact below_of_dr hw2 | exact hw2 | exact (Below.refl _ _).alloc (Nat.le_refl _) _) ?_
    simp only [Rg.last, List.getElem?_toArray, List.getElem?_cons_succ, List.getElem?_cons_zero, Option.getD_some]
    rfl
  refine' Rg.op_is _ [2] rfl rfl (by kernel_rfl) ?_ ?_
  rotate_left
  · intro wx hb
    refine Rg.from_is (some 7) rfl rfl ?_
    refine Rg.from_nil fun T hT => ?_
    go_wp2
    refine hT _ _ rfl (by first | exact Rg.Keep.refl _ | exact below_of_dr hw2 | exact hw2 | exact (Below.refl _ _).alloc (Nat.le_refl _) _) ?_
    simp only [Rg.last, List.getElem?_toArray, List.getElem?_cons_succ, List.getElem?_cons_zero, Option.getD_some]
    rfl
  refine Rg.op_is (.slice (some ⟨g1, 0, none⟩) 2 2) [3] rfl rfl (by kernel_rfl) ?_ ?_
  · intro wx hb
    refine Rg.from_is (some 8) rfl rfl ?_
    refine Rg.from_nil fun T hT => ?_
    have cc := (hG.below hb).1.cell (k := 1) rfl
    go_wp2
    exact hT _ _ rfl (by first | exact Rg.Keep.refl _ | exact below_of_dr hw2 | exact hw2 | exact (Below.refl _ _).alloc (Nat.le_refl _) _) (by first | rfl | exact congrArg _ (by decide))
  refine Rg.op_is (.int .i64 0) [0, 4] rfl rfl (by kernel_rfl) ?_ ?_
  · intro wx hb
    refine Rg.from_is (some 5) rfl rfl ?_
    refine Rg.from_is (some 9) rfl rfl ?_
    refine Rg.from_nil fun T hT => ?_
    go_wp2_with (fail)
    refine (aquery_c pEx pEx_ok (none) [] 0 1 (some ⟨g1, 0, none⟩) [1, 0] 2 _ (asks_none _) (askOk_of (by decide)) ((hG.below hb).2.1.cells) (by decide) hx1 (hTab2.below hb)).mono ?_
    rintro e w4 ⟨rfl, hw2⟩
    rw [ex_q1]
    go_wp2
    exact hT _ _ rfl hw2 rfl
  refine Rg.op_is (.bool true) [5] rfl rfl (by kernel_rfl) ?_ ?_
  · intro wx hb
    refine Rg.from_is (some 10) rfl rfl ?_
    refine Rg.from_nil fun T hT => ?_
    go_wp2
    exact hT _ _ rfl (by first | exact Rg.Keep.refl _ | exact below_of_dr hw2 | exact hw2 | exact (Below.refl _ _).alloc (Nat.le_refl _) _) (by first | rfl | exact congrArg _ (by decide))
  refine Rg.op_is (.bool true) [6] rfl rfl (by kernel_rfl) ?_ ?_
  · intro wx hb
    refine Rg.from_is (some 11) rfl rfl ?_
    refine Rg.from_nil fun T hT => ?_
    go_wp2
    exact hT _ _ rfl (by first | exact Rg.Keep.refl _ | exact below_of_dr hw2 | exact hw2 | exact (Below.refl _ _).alloc (Nat.le_refl _) _) (by first | rfl | exact congrArg _ (by decide))
  refine Rg.op_is (pval pEx) [] rfl rfl (by kernel_rfl) ?_ ?_
  · intro wx hb
    refine Rg.from_nil fun T hT => ?_
    obtain ⟨p0, p1, p2, p3, p4, p5, p6, p7, p8, p9, p10, p11⟩ := par_cells (hP.below hb)
    go_wp2
    exact hT _ _ rfl (by first | exact Rg.Keep.refl _ | exact below_of_dr hw2 | exact hw2 | exact (Below.refl _ _).alloc (Nat.le_refl _) _) (by first | rfl | exact congrArg _ (by decide))
  refine' Rg.op_is _ [] rfl rfl (by kernel_rfl) ?_ ?_
  rotate_left
  · intro wx hb
    refine Rg.from_nil fun T hT => ?_
    go_wp2
    refine hT _ _ rfl (by first | exact Rg.Keep.refl _ | exact below_of_dr hw2 | exact hw2 | exact (Below.refl _ _).alloc (Nat.le_refl _) _) ?_
    simp only [Rg.last, List.getElem?_toArray, List.getElem?_cons_succ, List.getElem?_cons_zero, Option.getD_some]
    rfl
  refine Rg.op_is (.slice (some ⟨g, 0, none⟩) 1 2) [9] rfl rfl (by kernel_rfl) ?_ ?_
  · intro wx hb
    refine Rg.from_is (some 14) rfl rfl ?_
    refine Rg.from_nil fun T hT => ?_
    go_wp2
    exact hT _ _ rfl (by first | exact Rg.Keep.refl _ | exact below_of_dr hw2 | exact hw2 | exact (Below.refl _ _).alloc (Nat.le_refl _) _) (by first | rfl | exact congrArg _ (by decide))
  refine' Rg.op_is _ [] rfl rfl (by kernel_rfl) ?_ ?_
  rotate_left
  · intro wx hb
    refine Rg.from_nil fun T hT => ?_
    go_wp2
    refine hT _ _ rfl (by first | exact Rg.Keep.refl _ | exact below_of_dr hw2 | exact hw2 | exact (Below.refl _ _).alloc (Nat.le_refl _) _) ?_
    simp only [Rg.last, List.getElem?_toArray, List.getElem?_cons_succ, List.getElem?_cons_zero, Option.getD_some]
    rfl
  refine' Rg.op_is _ [11] rfl rfl (by kernel_rfl) ?_ ?_
  rotate_left
  · intro wx hb
    refine Rg.from_is (some 16) rfl rfl ?_
    refine Rg.from_nil fun T hT => ?_
    go_wp2
    refine hT _ _ rfl (by first | exact Rg.Keep.refl _ | exact below_of_dr hw2 | exact hw2 | exact (Below.refl _ _).alloc (Nat.le_refl _) _) ?_
    simp only [Rg.last, List.getElem?_toArray, List.getElem?_cons_succ, List.getElem?_cons_zero, Option.getD_some]
    rfl
  refine' Rg.op_is _ [12] rfl rfl (by kernel_rfl) ?_ ?_
  rotate_left
  · intro wx hb
    refine Rg.from_is (some 17) rfl rfl ?_
    refine Rg.from_nil fun T hT => ?_
    go_wp2
    refine hT _ _ rfl (by first | exact Rg.Keep.refl _ | exact below_of_dr hw2 | exact hw2 | exact (Below.refl _ _).alloc (Nat.le_refl _) _) ?_
    simp only [Rg.last, List.getElem?_toArray, List.getElem?_cons_succ, List.getElem?_cons_zero, Option.getD_some]
    rfl
  refine Rg.op_is (.slice (some ⟨g1, 0, none⟩) 2 2) [13] rfl rfl (by kernel_rfl) ?_ ?_
  · intro wx hb
    refine Rg.from_is (some 18) rfl rfl ?_
    refine Rg.from_nil fun T hT => ?_
    have cc := (hG.below hb).1.cell (k := 1) rfl
    go_wp2
    exact hT _ _ rfl (by first | exact Rg.Keep.refl _ | exact below_of_dr hw2 | exact hw2 | exact (Below.refl _ _).alloc (Nat.le_refl _) _) (by first | rfl | exact congrArg _ (by decide))
  refine Rg.op_is (.int .i64 0) [8, 10, 14] rfl rfl (by kernel_rfl) ?_ ?_
  · intro wx hb
    refine Rg.from_is (some 13) rfl rfl ?_
    refine Rg.from_is (some 15) rfl rfl ?_
    refine Rg.from_is (some 19) rfl rfl ?_
    refine Rg.from_nil fun T hT => ?_
    go_wp2_with (fail)
    refine (aquery_c pEx pEx_ok (some ⟨g, 0, none⟩) [⟨1, [1, 0]⟩] 2 2 (some ⟨g1, 0, none⟩) [1, 0] 2 _ (((hG.below hb).asks).take 1) one ((hG.below hb).2.1.cells) (by decide) hx1 (hTab2.below hb)).mono ?_
    rintro e w4 ⟨rfl, hw2⟩
    rw [ex_q2]
    go_wp2
    exact hT _ _ rfl hw2 rfl
  refine Rg.op_is (.bool true) [15] rfl rfl (by kernel_rfl) ?_ ?_
  · intro wx hb
    refine Rg.from_is (some 20) rfl rfl ?_
    refine Rg.from_nil fun T hT => ?_
    go_wp2
    exact hT _ _ rfl (by first | exact Rg.Keep.refl _ | exact below_of_dr hw2 | exact hw2 | exact (Below.refl _ _).alloc (Nat.le_refl _) _) (by first | rfl | exact congrArg _ (by decide))
  refine Rg.op_is (.bool true) [7, 16] rfl rfl (by kernel_rfl) ?_ ?_
  · intro wx hb
    refine Rg.from_is (some 12) rfl rfl ?_
    refine Rg.from_is (some 21) rfl rfl ?_
    refine Rg.from_nil fun T hT => ?_
    go_wp2
    exact hT _ _ rfl (by first | exact Rg.Keep.refl _ | exact below_of_dr hw2 | exact hw2 | exact (Below.refl _ _).alloc (Nat.le_refl _) _) (by first | rfl | exact congrArg _ (by decide))
  refine Rg.op_is (.bool true) [17] rfl rfl (by kernel_rfl) ?_ ?_
  · intro wx hb
    refine Rg.from_is (some 22) rfl rfl ?_
    refine Rg.from_nil fun T hT => ?_
    go_wp2
    exact hT _ _ rfl (by first | exact Rg.Keep.refl _ | exact below_of_dr hw2 | exact hw2 | exact (Below.refl _ _).alloc (Nat.le_refl _) _) (by first | rfl | exact congrArg _ (by decide))
  refine Rg.op_is (pval pEx) [] rfl rfl (by kernel_rfl) ?_ ?_
  · intro wx hb
    refine Rg.from_nil fun T hT => ?_
    obtain ⟨p0, p1, p2, p3, p4, p5, p6, p7, p8, p9, p10, p11⟩ := par_cells (hP.below hb)
    go_wp2
    exact hT _ _ rfl (by first | exact Rg.Keep.refl _ | exact below_of_dr hw2 | exact hw2 | exact (Below.refl _ _).alloc (Nat.le_refl _) _) (by first | rfl | exact congrArg _ (by decide))
  refine' Rg.op_is _ [] rfl rfl (by kernel_rfl) ?_ ?_
  rotate_left
  · intro wx hb
    refine Rg.from_nil fun T hT => ?_
    go_wp2
    refine hT _ _ rfl (by first | exact Rg.Keep.refl _ | exact below_of_dr hw2 | exact hw2 | exact (Below.refl _ _).alloc (Nat.le_refl _) _) ?_
    simp only [Rg.last, List.getElem?_toArray, List.getElem?_cons_succ, List.getElem?_cons_zero, Option.getD_some]
    rfl
  refine Rg.op_is (.slice (some ⟨g, 0, none⟩) 1 2) [20] rfl rfl (by kernel_rfl) ?_ ?_
  · intro wx hb
    refine Rg.from_is (some 25) rfl rfl ?_
    refine Rg.from_nil fun T hT => ?_
    go_wp2
    exact hT _ _ rfl (by first | exact Rg.Keep.refl _ | exact below_of_dr hw2 | exact hw2 | exact (Below.refl _ _).alloc (Nat.le_refl _) _) (by first | rfl | exact congrArg _ (by decide))
  refine' Rg.op_is _ [] rfl rfl (by kernel_rfl) ?_ ?_
  rotate_left
  · intro wx hb
    refine Rg.from_nil fun T hT => ?_
    go_wp2
    refine hT _ _ rfl (by first | exact Rg.Keep.refl _ | exact below_of_dr hw2 | exact hw2 | exact (Below.refl _ _).alloc (Nat.le_refl _) _) ?_
    simp only [Rg.last, List.getElem?_toArray, List.getElem?_cons_succ, List.getElem?_cons_zero, Option.getD_some]
    rfl
  refine' Rg.op_is _ [22] rfl rfl (by kernel_rfl) ?_ ?_
  rotate_left
  · intro wx hb
    refine Rg.from_is (some 27) rfl rfl ?_
    refine Rg.from_nil fun T hT => ?_
    go_wp2
    refine hT _ _ rfl (by first | exact Rg.Keep.refl _ | exact below_of_dr hw2 | exact hw2 | exact (Below.refl _ _).alloc (Nat.le_refl _) _) ?_
    simp only [Rg.last, List.getElem?_toArray, List.getElem?_cons_succ, List.getElem?_cons_zero, Option.getD_some]
    rfl
  refine' Rg.op_is _ [23] rfl rfl (by kernel_rfl) ?_ ?_
  rotate_left
  · intro wx hb
    refine Rg.from_is (some 28) rfl rfl ?_
    refine Rg.from_nil fun T hT => ?_
    go_wp2
    refine hT _ _ rfl (by first | exact Rg.Keep.refl _ | exact below_of_dr hw2 | exact hw2 | exact (Below.refl _ _).alloc (Nat.le_refl _) _) ?_
    simp only [Rg.last, List.getElem?_toArray, List.getElem?_cons_succ, List.getElem?_cons_zero, Option.getD_some]
    rfl
  refine Rg.op_is (.slice (some ⟨g2, 0, none⟩) 2 2) [24] rfl rfl (by kernel_rfl) ?_ ?_
  · intro wx hb
    refine Rg.from_is (some 29) rfl rfl ?_
    refine Rg.from_nil fun T hT => ?_
    have cc := (hG.below hb).1.cell (k := 3) rfl
    go_wp2
    exact hT _ _ rfl (by first | exact Rg.Keep.refl _ | exact below_of_dr hw2 | exact hw2 | exact (Below.refl _ _).alloc (Nat.le_refl _) _) (by first | rfl | exact congrArg _ (by decide))
  refine Rg.op_is (.int .i64 22) [19, 21, 25] rfl rfl (by kernel_rfl) ?_ ?_
  · intro wx hb
    refine Rg.from_is (some 24) rfl rfl ?_
    refine Rg.from_is (some 26) rfl rfl ?_
    refine Rg.from_is (some 30) rfl rfl ?_
    refine Rg.from_nil fun T hT => ?_
    go_wp2_with (fail)
    refine (aquery_c pEx pEx_ok (some ⟨g, 0, none⟩) [⟨1, [1, 0]⟩] 2 2 (some ⟨g2, 0, none⟩) [0, 1] 2 _ (((hG.below hb).asks).take 1) one ((hG.below hb).2.2.cells) (by decide) hx2 (hTab2.below hb)).mono ?_
    rintro e w4 ⟨rfl, hw2⟩
    rw [ex_q3]
    go_wp2
    exact hT _ _ rfl hw2 rfl
  refine Rg.op_is (.bool true) [26] rfl rfl (by kernel_rfl) ?_ ?_
  · intro wx hb
    refine Rg.from_is (some 31) rfl rfl ?_
    refine Rg.from_nil fun T hT => ?_
    go_wp2
    exact hT _ _ rfl (by first | exact Rg.Keep.refl _ | exact below_of_dr hw2 | exact hw2 | exact (Below.refl _ _).alloc (Nat.le_refl _) _) (by first | rfl | exact congrArg _ (by decide))
  refine Rg.op_is (.bool true) [18, 27] rfl rfl (by kernel_rfl) ?_ ?_
  · intro wx hb
    refine Rg.from_is (some 23) rfl rfl ?_
    refine Rg.from_is (some 32) rfl rfl ?_
    refine Rg.from_nil fun T hT => ?_
    go_wp2
    exact hT _ _ rfl (by first | exact Rg.Keep.refl _ | exact below_of_dr hw2 | exact hw2 | exact (Below.refl _ _).alloc (Nat.le_refl _) _) (by first | rfl | exact congrArg _ (by decide))
  refine Rg.op_is (.bool true) [28] rfl rfl (by kernel_rfl) ?_ ?_
  · intro wx hb
    refine Rg.from_is (some 33) rfl rfl ?_
    refine Rg.from_nil fun T hT => ?_
    go_wp2
    exact hT _ _ rfl (by first | exact Rg.Keep.refl _ | exact below_of_dr hw2 | exact hw2 | exact (Below.refl _ _).alloc (Nat.le_refl _) _) (by first | rfl | exact congrArg _ (by decide))
  refine Rg.op_is (pval pEx) [] rfl rfl (by kernel_rfl) ?_ ?_
  · intro wx hb
    refine Rg.from_nil fun T hT => ?_
    obtain ⟨p0, p1, p2, p3, p4, p5, p6, p7, p8, p9, p10, p11⟩ := par_cells (hP.below hb)
    go_wp2
    exact hT _ _ rfl (by first | exact Rg.Keep.refl _ | exact below_of_dr hw2 | exact hw2 | exact (Below.refl _ _).alloc (Nat.le_refl _) _) (by first | rfl | exact congrArg _ (by decide))
  refine' Rg.op_is _ [] rfl rfl (by kernel_rfl) ?_ ?_
  rotate_left
  · intro wx hb
    refine Rg.from_nil fun T hT => ?_
    go_wp2
    refine hT _ _ rfl (by first | exact Rg.Keep.refl _ | exact below_of_dr hw2 | exact hw2 | exact (Below.refl _ _).alloc (Nat.le_refl _) _) ?_
    simp only [Rg.last, List.getElem?_toArray, List.getElem?_cons_succ, List.getElem?_cons_zero, Option.getD_some]
    rfl
  refine Rg.op_is (.slice (some ⟨g, 0, none⟩) 1 2) [31] rfl rfl (by kernel_rfl) ?_ ?_
  · intro wx hb
    refine Rg.from_is (some 36) rfl rfl ?_
    refine Rg.from_nil fun T hT => ?_
    go_wp2
    exact hT _ _ rfl (by first | exact Rg.Keep.refl _ | exact below_of_dr hw2 | exact hw2 | exact (Below.refl _ _).alloc (Nat.le_refl _) _) (by first | rfl | exact congrArg _ (by decide))
  refine' Rg.op_is _ [] rfl rfl (by kernel_rfl) ?_ ?_
  rotate_left
  · intro wx hb
    refine Rg.from_nil fun T hT => ?_
    go_wp2
    refine hT _ _ rfl (by first | exact Rg.Keep.refl _ | exact below_of_dr hw2 | exact hw2 | exact (Below.refl _ _).alloc (Nat.le_refl _) _) ?_
    simp only [Rg.last, List.getElem?_toArray, List.getElem?_cons_succ, List.getElem?_cons_zero, Option.getD_some]
    rfl
  refine' Rg.op_is _ [33] rfl rfl (by kernel_rfl) ?_ ?_
  rotate_left
  · intro wx hb
    refine Rg.from_is (some 38) rfl rfl ?_
    refine Rg.from_nil fun T hT => ?_
    go_wp2
    refine hT _ _ rfl (by first | exact Rg.Keep.refl _ | exact below_of_dr hw2 | exact hw2 | exact (Below.refl _ _).alloc (Nat.le_refl _) _) ?_
    simp only [Rg.last, List.getElem?_toArray, List.getElem?_cons_succ, List.getElem?_cons_zero, Option.getD_some]
    rfl
  refine' Rg.op_is _ [34] rfl rfl (by kernel_rfl) ?_ ?_
  rotate_left
  · intro wx hb
    refine Rg.from_is (some 39) rfl rfl ?_
    refine Rg.from_nil fun T hT => ?_
    go_wp2
    refine hT _ _ rfl (by first | exact Rg.Keep.refl _ | exact below_of_dr hw2 | exact hw2 | exact (Below.refl _ _).alloc (Nat.le_refl _) _) ?_
    simp only [Rg.last, List.getElem?_toArray, List.getElem?_cons_succ, List.getElem?_cons_zero, Option.getD_some]
    rfl
  refine Rg.op_is (.slice (some ⟨g2, 0, none⟩) 2 2) [35] rfl rfl (by kernel_rfl) ?_ ?_
  · intro wx hb
    refine Rg.from_is (some 40) rfl rfl ?_
    refine Rg.from_nil fun T hT => ?_
    have cc := (hG.below hb).1.cell (k := 3) rfl
    go_wp2
    exact hT _ _ rfl (by first | exact Rg.Keep.refl _ | exact below_of_dr hw2 | exact hw2 | exact (Below.refl _ _).alloc (Nat.le_refl _) _) (by first | rfl | exact congrArg _ (by decide))
  refine Rg.op_is (.int .i64 6) [30, 32, 36] rfl rfl (by kernel_rfl) ?_ ?_
  · intro wx hb
    refine Rg.from_is (some 35) rfl rfl ?_
    refine Rg.from_is (some 37) rfl rfl ?_
    refine Rg.from_is (some 41) rfl rfl ?_
    refine Rg.from_nil fun T hT => ?_
    go_wp2_with (fail)
    refine (aquery_c pEx pEx_ok (some ⟨g, 0, none⟩) [⟨1, [1, 0]⟩] 2 1 (some ⟨g2, 0, none⟩) [0, 1] 2 _ (((hG.below hb).asks).take 1) one ((hG.below hb).2.2.cells) (by decide) hx2 (hTab2.below hb)).mono ?_
    rintro e w4 ⟨rfl, hw2⟩
    rw [ex_q4]
    go_wp2
    exact hT _ _ rfl hw2 rfl
  refine Rg.op_is (.bool true) [37] rfl rfl (by kernel_rfl) ?_ ?_
  · intro wx hb
    refine Rg.from_is (some 42) rfl rfl ?_
    refine Rg.from_nil fun T hT => ?_
    go_wp2
    exact hT _ _ rfl (by first | exact Rg.Keep.refl _ | exact below_of_dr hw2 | exact hw2 | exact (Below.refl _ _).alloc (Nat.le_refl _) _) (by first | rfl | exact congrArg _ (by decide))
  refine Rg.op_is (.bool true) [29, 38] rfl rfl (by kernel_rfl) ?_ ?_
  · intro wx hb
    refine Rg.from_is (some 34) rfl rfl ?_
    refine Rg.from_is (some 43) rfl rfl ?_
    refine Rg.from_nil fun T hT => ?_
    go_wp2
    exact hT _ _ rfl (by first | exact Rg.Keep.refl _ | exact below_of_dr hw2 | exact hw2 | exact (Below.refl _ _).alloc (Nat.le_refl _) _) (by first | rfl | exact congrArg _ (by decide))
  refine Rg.op_is (.bool true) [39] rfl rfl (by kernel_rfl) ?_ ?_
  · intro wx hb
    refine Rg.from_is (some 44) rfl rfl ?_
    refine Rg.from_nil fun T hT => ?_
    go_wp2
    exact hT _ _ rfl (by first | exact Rg.Keep.refl _ | exact below_of_dr hw2 | exact hw2 | exact (Below.refl _ _).alloc (Nat.le_refl _) _) (by first | rfl | exact congrArg _ (by decide))
  refine Rg.op_is (pval pEx) [] rfl rfl (by kernel_rfl) ?_ ?_
  · intro wx hb
    refine Rg.from_nil fun T hT => ?_
    obtain ⟨p0, p1, p2, p3, p4, p5, p6, p7, p8, p9, p10, p11⟩ := par_cells (hP.below hb)
    go_wp2
    exact hT _ _ rfl (by first | exact Rg.Keep.refl _ | exact below_of_dr hw2 | exact hw2 | exact (Below.refl _ _).alloc (Nat.le_refl _) _) (by first | rfl | exact congrArg _ (by decide))
  refine' Rg.op_is _ [] rfl rfl (by kernel_rfl) ?_ ?_
  rotate_left
  · intro wx hb
    refine Rg.from_nil fun T hT => ?_
    go_wp2
    refine hT _ _ rfl (by first | exact Rg.Keep.refl _ | exact below_of_dr hw2 | exact hw2 | exact (Below.refl _ _).alloc (Nat.le_refl _) _) ?_
    simp only [Rg.last, List.getElem?_toArray, List.getElem?_cons_succ, List.getElem?_cons_zero, Option.getD_some]
    rfl
  refine Rg.op_is (.int .i64 2) [41, 42] rfl rfl (by kernel_rfl) ?_ ?_
  · intro wx hb
    refine Rg.from_is (some 46) rfl rfl ?_
    refine Rg.from_is (some 47) rfl rfl ?_
    refine Rg.from_nil fun T hT => ?_
    go_wp2_with (fail)
    refine (arank_c pEx pEx_ok (some ⟨g, 0, none⟩) twoL 2 _ ((hG.below hb).asks) (askOk_of (by decide)) (hTab2.below hb)).mono ?_
    rintro e w4 ⟨rfl, hw2⟩
    rw [ex_r]
    go_wp2
    exact hT _ _ rfl hw2 rfl
  refine Rg.op_is (.bool true) [43] rfl rfl (by kernel_rfl) ?_ ?_
  · intro wx hb
    refine Rg.from_is (some 48) rfl rfl ?_
    refine Rg.from_nil fun T hT => ?_
    go_wp2
    exact hT _ _ rfl (by first | exact Rg.Keep.refl _ | exact below_of_dr hw2 | exact hw2 | exact (Below.refl _ _).alloc (Nat.le_refl _) _) (by first | rfl | exact congrArg _ (by decide))
  refine Rg.op_is (.bool true) [40, 44] rfl rfl (by kernel_rfl) ?_ ?_
  · intro wx hb
    refine Rg.from_is (some 45) rfl rfl ?_
    refine Rg.from_is (some 49) rfl rfl ?_
    refine Rg.from_nil fun T hT => ?_
    go_wp2
    exact hT _ _ rfl (by first | exact Rg.Keep.refl _ | exact below_of_dr hw2 | exact hw2 | exact (Below.refl _ _).alloc (Nat.le_refl _) _) (by first | rfl | exact congrArg _ (by decide))
  refine Rg.op_is (.bool true) [45] rfl rfl (by kernel_rfl) ?_ ?_
  · intro wx hb
    refine Rg.from_is (some 50) rfl rfl ?_
    refine Rg.from_nil fun T hT => ?_
    go_wp2
    exact hT _ _ rfl (by first | exact Rg.Keep.refl _ | exact below_of_dr hw2 | exact hw2 | exact (Below.refl _ _).alloc (Nat.le_refl _) _) (by first | rfl | exact congrArg _ (by decide))
  refine Rg.op_is (pval pEx) [] rfl rfl (by kernel_rfl) ?_ ?_
  · intro wx hb
    refine Rg.from_nil fun T hT => ?_
    obtain ⟨p0, p1, p2, p3, p4, p5, p6, p7, p8, p9, p10, p11⟩ := par_cells (hP.below hb)
    go_wp2
    exact hT _ _ rfl (by first | exact Rg.Keep.refl _ | exact below_of_dr hw2 | exact hw2 | exact (Below.refl _ _).alloc (Nat.le_refl _) _) (by first | rfl | exact congrArg _ (by decide))
  refine' Rg.op_is _ [] rfl rfl (by kernel_rfl) ?_ ?_
  rotate_left
  · intro wx hb
    refine Rg.from_nil fun T hT => ?_
    go_wp2
    refine hT _ _ rfl (by first | exact Rg.Keep.refl _ | exact below_of_dr hw2 | exact hw2 | exact (Below.refl _ _).alloc (Nat.le_refl _) _) ?_
    simp only [Rg.last, List.getElem?_toArray, List.getElem?_cons_succ, List.getElem?_cons_zero, Option.getD_some]
    rfl
  refine Rg.op_of (fun w' v => BoxAt w' v 2 [.int .i64 (-1), .int .i64 (2)]) [] rfl ?_ ?_ rfl (by kernel_rfl) ?_ ?_
  · exact fun w1 w2 v hk h => h.below hk
  · exact fun w1 w2 v hk h => h.below hk
  · intro wx hb
    refine Rg.from_nil fun T hT => ?_
    go_wp2
    exact hT _ _ rfl (below_alloc _ _) ⟨_, rfl, row1_new wx [.int .i64 (-1), .int .i64 (2)] _⟩
  refine Rg.op_is (.bool true) [47, 48, 49] rfl rfl (by kernel_rfl) ?_ ?_
  · intro wx hb
    refine Rg.from_is (some 52) rfl rfl ?_
    refine Rg.from_is (some 53) rfl rfl ?_
    refine Rg.from_of (some 54) rfl rfl fun v54 h54 => ?_
    refine Rg.from_nil fun T hT => ?_
    obtain ⟨gb, rfl, hr⟩ := h54
    go_wp2_with (fail)
    refine (afollows_c pEx pEx_ok (some ⟨g, 0, none⟩) twoL 2 (some ⟨gb, 0, none⟩) [-1, 2] 2 _ ((hG.below hb).asks) (askOk_of (by decide)) hr.cells (by decide) (i64s_of (by decide)) (hTab2.below hb)).mono ?_
    rintro e w4 ⟨rfl, hw2⟩
    rw [ex_f1]
    go_wp2
    exact hT _ _ rfl hw2 rfl
  refine Rg.op_is (.bool true) [46, 50] rfl rfl (by kernel_rfl) ?_ ?_
  · intro wx hb
    refine Rg.from_is (some 51) rfl rfl ?_
    refine Rg.from_is (some 55) rfl rfl ?_
    refine Rg.from_nil fun T hT => ?_
    go_wp2
    exact hT _ _ rfl (by first | exact Rg.Keep.refl _ | exact below_of_dr hw2 | exact hw2 | exact (Below.refl _ _).alloc (Nat.le_refl _) _) (by first | rfl | exact congrArg _ (by decide))
  refine Rg.op_is (.bool true) [51] rfl rfl (by kernel_rfl) ?_ ?_
  · intro wx hb
    refine Rg.from_is (some 56) rfl rfl ?_
    refine Rg.from_nil fun T hT => ?_
    go_wp2
    exact hT _ _ rfl (by first | exact Rg.Keep.refl _ | exact below_of_dr hw2 | exact hw2 | exact (Below.refl _ _).alloc (Nat.le_refl _) _) (by first | rfl | exact congrArg _ (by decide))
  refine Rg.op_is (pval pEx) [] rfl rfl (by kernel_rfl) ?_ ?_
  · intro wx hb
    refine Rg.from_nil fun T hT => ?_
    obtain ⟨p0, p1, p2, p3, p4, p5, p6, p7, p8, p9, p10, p11⟩ := par_cells (hP.below hb)
    go_wp2
    exact hT _ _ rfl (by first | exact Rg.Keep.refl _ | exact below_of_dr hw2 | exact hw2 | exact (Below.refl _ _).alloc (Nat.le_refl _) _) (by first | rfl | exact congrArg _ (by decide))
  refine' Rg.op_is _ [] rfl rfl (by kernel_rfl) ?_ ?_
  rotate_left
  · intro wx hb
    refine Rg.from_nil fun T hT => ?_
    go_wp2
    refine hT _ _ rfl (by first | exact Rg.Keep.refl _ | exact below_of_dr hw2 | exact hw2 | exact (Below.refl _ _).alloc (Nat.le_refl _) _) ?_
    simp only [Rg.last, List.getElem?_toArray, List.getElem?_cons_succ, List.getElem?_cons_zero, Option.getD_some]
    rfl
  refine Rg.op_of (fun w' v => BoxAt w' v 2 [.int .i64 (1), .int .i64 (1)]) [] rfl ?_ ?_ rfl (by kernel_rfl) ?_ ?_
  · exact fun w1 w2 v hk h => h.below hk
  · exact fun w1 w2 v hk h => h.below hk
  · intro wx hb
    refine Rg.from_nil fun T hT => ?_
    go_wp2
    exact hT _ _ rfl (below_alloc _ _) ⟨_, rfl, row1_new wx [.int .i64 (1), .int .i64 (1)] _⟩
  refine Rg.op_is (.bool false) [53, 54, 55] rfl rfl (by kernel_rfl) ?_ ?_
  · intro wx hb
    refine Rg.from_is (some 58) rfl rfl ?_
    refine Rg.from_is (some 59) rfl rfl ?_
    refine Rg.from_of (some 60) rfl rfl fun v60 h60 => ?_
    refine Rg.from_nil fun T hT => ?_
    obtain ⟨gb, rfl, hr⟩ := h60
    go_wp2_with (fail)
    refine (afollows_c pEx pEx_ok (some ⟨g, 0, none⟩) twoL 2 (some ⟨gb, 0, none⟩) [1, 1] 2 _ ((hG.below hb).asks) (askOk_of (by decide)) hr.cells (by decide) (i64s_of (by decide)) (hTab2.below hb)).mono ?_
    rintro e w4 ⟨rfl, hw2⟩
    rw [ex_f2]
    go_wp2
    exact hT _ _ rfl hw2 rfl
  refine Rg.op_is (.bool true) [56] rfl rfl (by kernel_rfl) ?_ ?_
  · intro wx hb
    refine Rg.from_is (some 61) rfl rfl ?_
    refine Rg.from_nil fun T hT => ?_
    go_wp2
    exact hT _ _ rfl (by first | exact Rg.Keep.refl _ | exact below_of_dr hw2 | exact hw2 | exact (Below.refl _ _).alloc (Nat.le_refl _) _) (by first | rfl | exact congrArg _ (by decide))
  refine Rg.op_is (.bool true) [52, 57] rfl rfl (by kernel_rfl) ?_ ?_
  · intro wx hb
    refine Rg.from_is (some 57) rfl rfl ?_
    refine Rg.from_is (some 62) rfl rfl ?_
    refine Rg.from_nil fun T hT => ?_
    go_wp2
    exact hT _ _ rfl (by first | exact Rg.Keep.refl _ | exact below_of_dr hw2 | exact hw2 | exact (Below.refl _ _).alloc (Nat.le_refl _) _) (by first | rfl | exact congrArg _ (by decide))
  refine Rg.walk_nil [0, 1, 2, 3, 4, 5, 6, 7, 8, 9, 10, 11, 12, 13, 14, 15, 16, 17, 18, 19, 20, 21, 22, 23, 24, 25, 26, 27, 28, 29, 30, 31, 32, 33, 34, 35, 36, 37, 38, 39, 40, 41, 42, 43, 44, 45, 46, 47, 48, 49, 50, 51, 52, 53, 54, 55, 56, 57, 58] (by kernel_rfl) ?_
  intro wx hb
  refine Rg.from_is (some 5) rfl rfl ?_
  refine Rg.from_is (some 6) rfl rfl ?_
  refine Rg.from_is (some 7) rfl rfl ?_
  refine Rg.from_is (some 8) rfl rfl ?_
  refine Rg.from_is (some 9) rfl rfl ?_
  refine Rg.from_is (some 10) rfl rfl ?_
  refine Rg.from_is (some 11) rfl rfl ?_
  refine Rg.from_is (some 12) rfl rfl ?_
  refine Rg.from_is (some 13) rfl rfl ?_
  refine Rg.from_is (some 14) rfl rfl ?_
  refine Rg.from_is (some 15) rfl rfl ?_
  refine Rg.from_is (some 16) rfl rfl ?_
  refine Rg.from_is (some 17) rfl rfl ?_
  refine Rg.from_is (some 18) rfl rfl ?_
  refine Rg.from_is (some 19) rfl rfl ?_
  refine Rg.from_is (some 20) rfl rfl ?_
  refine Rg.from_is (some 21) rfl rfl ?_
  refine Rg.from_is (some 22) rfl rfl ?_
  refine Rg.from_is (some 23) rfl rfl ?_
  refine Rg.from_is (some 24) rfl rfl ?_
  refine Rg.from_is (some 25) rfl rfl ?_
  refine Rg.from_is (some 26) rfl rfl ?_
  refine Rg.from_is (some 27) rfl rfl ?_
  refine Rg.from_is (some 28) rfl rfl ?_
  refine Rg.from_is (some 29) rfl rfl ?_
  refine Rg.from_is (some 30) rfl rfl ?_
  refine Rg.from_is (some 31) rfl rfl ?_
  refine Rg.from_is (some 32) rfl rfl ?_
  refine Rg.from_is (some 33) rfl rfl ?_
  refine Rg.from_is (some 34) rfl rfl ?_
  refine Rg.from_is (some 35) rfl rfl ?_
  refine Rg.from_is (some 36) rfl rfl ?_
  refine Rg.from_is (some 37) rfl rfl ?_
  refine Rg.from_is (some 38) rfl rfl ?_
  refine Rg.from_is (some 39) rfl rfl ?_
  refine Rg.from_is (some 40) rfl rfl ?_
  refine Rg.from_is (some 41) rfl rfl ?_
  refine Rg.from_is (some 42) rfl rfl ?_
  refine Rg.from_is (some 43) rfl rfl ?_
  refine Rg.from_is (some 44) rfl rfl ?_
  refine Rg.from_is (some 45) rfl rfl ?_
  refine Rg.from_is (some 46) rfl rfl ?_
  refine Rg.from_is (some 47) rfl rfl ?_
  refine Rg.from_is (some 48) rfl rfl ?_
  refine Rg.from_is (some 49) rfl rfl ?_
  refine Rg.from_is (some 50) rfl rfl ?_
  refine Rg.from_is (some 51) rfl rfl ?_
  refine Rg.from_is (some 52) rfl rfl ?_
  refine Rg.from_is (some 53) rfl rfl ?_
  refine Rg.from_of (some 54) rfl rfl fun v54 h54 => ?_
  refine Rg.from_is (some 55) rfl rfl ?_
  refine Rg.from_is (some 56) rfl rfl ?_
  refine Rg.from_is (some 57) rfl rfl ?_
  refine Rg.from_is (some 58) rfl rfl ?_
  refine Rg.from_is (some 59) rfl rfl ?_
  refine Rg.from_of (some 60) rfl rfl fun v60 h60 => ?_
  refine Rg.from_is (some 61) rfl rfl ?_
  refine Rg.from_is (some 62) rfl rfl ?_
  refine Rg.from_is (some 63) rfl rfl ?_
  refine Rg.from_nil ?_
  simp only [List.map, Act.put, List.setIfInBounds_toArray, List.set_cons_zero, List.set_cons_succ]
  have hbz := below_next hbw hbw.size hb
  go_wp2
  go_ret
  exact ⟨rfl, hbz⟩
end Go.Proofs.YtmmmdidbnjcooaaDoor
