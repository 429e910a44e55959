/-
  Parts of these texts that the statement needs: RaF, AdE, AdF, RaG, More, RaT, Lin.
-/
import Derived.Test.YtpdgalclnlbeaaaDoorAdmQ5
import Derived.Test.YtpdgalclnlbeaaaDoorAdmQ6
import Derived.ArgAppend
import Derived.Test.YtpdgalclnlbeaaaDoorAdmQ1

section
namespace Go.Proofs.YtpdgalclnlbeaaaDoor
open Go Go.RowKit Go.Maps Go.Shelf Go.Proofs
def SameUpto {α : Type} (la lb : List α) (k : Nat) : Prop := ∀ i, i < k → la[i]? = lb[i]?
theorem SameUpto.step {α : Type} {la lb : List α} {k : Nat} {x : α} (h : SameUpto la lb k) (h1 : la[k]? = some x) (h2 : lb[k]? = some x) : SameUpto la lb (k + 1) := by
  intro i hi
  rcases Nat.lt_or_ge i k with h3 | h3
  · exact h i h3
  · obtain rfl : i = k := by omega
    rw [h1, h2]
theorem SameUpto.all {α : Type} {la lb : List α} (h : SameUpto la lb la.length) (hl : la.length = lb.length) : la = lb := by
  apply List.ext_getElem?
  intro i
  rcases Nat.lt_or_ge i la.length with h1 | h1
  · exact h i h1
  · rw [List.getElem?_eq_none h1, List.getElem?_eq_none (by omega)]
/-- the inverse, by trying all. -/
def invS (q x : Int) : Int := match (List.range q.toNat).find? (fun (y : Nat) => decide ((y : Int) * x % q = 1)) with
  | some y => (y : Int)
  | none => 0
theorem iVal_invS {q : Int} (h : okm q = true) (h2 : 2 ≤ q) (x : Int) : iVal x q = invS q x := by
  unfold invS
  cases hf : (List.range q.toNat).find? (fun (y : Nat) => decide ((y : Int) * x % q = 1)) with
  | some y =>
    have h1 := List.find?_some hf
    have h3 := List.mem_range.1 (List.mem_of_find?_eq_some hf)
    have h1 : (y : Int) * x % q = 1 := by simpa using h1
    show iVal x q = (y : Int)
    refine iVal_is h ⟨by omega, by omega, (y : Int) * x / q, ?_⟩
    have := Int.mul_ediv_add_emod ((y : Int) * x) q
    omega
  | none =>
    refine iVal_none ?_
    rintro ⟨z, z0, z1, k, hk⟩
    rw [List.find?_eq_none] at hf
    refine hf z.toNat (List.mem_range.2 (by omega)) ?_
    have e : ((z.toNat : Nat) : Int) = z := by omega
    simp only [decide_eq_true_eq]
    rw [e, hk, Int.add_mul_emod_self_left]
    exact Int.emod_eq_of_lt (by omega) (by omega)
theorem iv_invS {q : Int} (h : primeV q = true) : iv q = invS q := funext fun x => iVal_invS (okm_prime h).1 (okm_prime h).2 x
theorem rankV_at {f : List (List Int)} {q : Int} (h : primeV q = true) : rankV f q = rankL q (invS q) f := by
  unfold rankV
  rw [if_pos h, iv_invS h]
theorem rankV_no {f : List (List Int)} {q : Int} (h : primeV q = false) : rankV f q = 0 := by
  unfold rankV
  rw [if_neg (by rw [h]; decide)]
theorem hangsV_at {f : List (List Int)} {row : List Int} {q : Int} (h : primeV q = true) : hangsV f row q = hangsL q (invS q) f row := by
  unfold hangsV
  rw [h, iv_invS h]; rfl
theorem hangsV_no {f : List (List Int)} {row : List Int} {q : Int} (h : primeV q = false) : hangsV f row q = false := by
  unfold hangsV
  rw [h]; rfl
/-- rows, one by one. -/
def RowsV (w : World) : List Value → List (List Int) → Prop
  | [], [] => True
  | v :: vs, l :: f => RowV w v l ∧ RowsV w vs f
  | _, _ => False
theorem RowsV.len {w : World} : ∀ {vs : List Value} {f : List (List Int)}, RowsV w vs f → vs.length = f.length
  | [], [], _ => rfl
  | _ :: _, _ :: _, h => by rw [List.length_cons, List.length_cons, RowsV.len h.2]
theorem RowsV.at_ {w : World} : ∀ {vs : List Value} {f : List (List Int)} (_ : RowsV w vs f) (i : Nat) (l : List Int), f[i]? = some l → ∃ v, vs[i]? = some v ∧ RowV w v l
  | v :: _, l' :: _, h, 0, l, hl => ⟨v, rfl, by obtain rfl : l' = l := by simpa using hl
                                                exact h.1⟩
  | _ :: _, _ :: _, h, i + 1, l, hl => by
    obtain ⟨v, h1, h2⟩ := RowsV.at_ h.2 i l (by simpa using hl)
    exact ⟨v, by simpa using h1, h2⟩
  | [], [], _, i, l, hl => by simp at hl
theorem p2 : primeV 2 = true := by decide +kernel
theorem p3 : primeV 3 = true := by decide +kernel
theorem p5 : primeV 5 = true := by decide +kernel
theorem hg1 : hangsV [[1, 2]] [3, 6] 7 = true := by rw [hangsV_at prime_7]; decide +kernel
theorem hg2 : hangsV [] [0, 0] 7 = true := by rw [hangsV_at prime_7]; decide +kernel
theorem hg3 : hangsV [[1, 2]] [1] 7 = false := by rw [hangsV_at prime_7]; decide +kernel
end Go.Proofs.YtpdgalclnlbeaaaDoor
end

section
namespace Go.Proofs.YtpdgalclnlbeaaaDoor
open Go Go.RowKit Go.Maps Go.Shelf Go.Proofs
attribute [local go_sem] Oper.semAt_some
def rankC (f : List (List Int)) (q : Int) : Nat := if primeV q = true then rankL q (invS q) f else 0
theorem rankV_C (f : List (List Int)) (q : Int) : rankV f q = rankC f q := by
  unfold rankC
  by_cases h : primeV q = true
  · rw [if_pos h, rankV_at h]
  · rw [if_neg h, rankV_no (by simpa using h)]
def hangsC (f : List (List Int)) (row : List Int) (q : Int) : Bool := if primeV q = true then hangsL q (invS q) f row else false
theorem hangsV_C (f : List (List Int)) (row : List Int) (q : Int) : hangsV f row q = hangsC f row q := by
  unfold hangsC
  by_cases h : primeV q = true
  · rw [if_pos h, hangsV_at h]
  · rw [if_neg h, hangsV_no (by simpa using h)]
def queryC (p : Par) (l : List Ask) (id : Int) (x : List Int) : Int :=
  if (decide (queryE p x = 4) || (decide (id < 1) || decide (id > 1099511627776))) = true then 4 else if decide (queryE p x ≠ 0) = true then queryE p x else if hasId l id = true then 6 else if decide (8 ≤ l.length) = true then 41 else if decide ((rankC (rowsP p l [x]) p.Q : Int) > p.R) = true then 22 else 0
theorem queryP_C (p : Par) (l : List Ask) (id : Int) (x : List Int) : queryP p l id x = queryC p l id x := by
  unfold queryP queryC wrongB
  rw [rankV_C]; rfl
theorem rankP_C (p : Par) (l : List Ask) : rankP p l = rankC (rowsP p l []) p.Q := rankV_C _ _
theorem followsP_C (p : Par) (l : List Ask) (x : List Int) : followsP p l x = hangsC (rowsP p l []) (rowS p x) p.Q := hangsV_C _ _ _
def pEx : Par := ⟨0, 11, 0, 0, 0, 0, 0, 1, 2, 1, 1, 3⟩
theorem pEx_ok : pEx.ok := by constructor <;> exact ⟨by decide, by decide⟩
abbrev twoL : List Ask := [⟨1, [1, 0]⟩, ⟨2, [0, 1]⟩]
theorem ex_q1 : queryP pEx [] 1 [1, 0] = 0 := by rw [queryP_C]; decide +kernel
theorem ex_q2 : queryP pEx [⟨1, [1, 0]⟩] 2 [1, 0] = 0 := by rw [queryP_C]; decide +kernel
theorem ex_q3 : queryP pEx [⟨1, [1, 0]⟩] 2 [0, 1] = 22 := by rw [queryP_C]; decide +kernel
theorem ex_q4 : queryP pEx [⟨1, [1, 0]⟩] 1 [0, 1] = 6 := by rw [queryP_C]; decide +kernel
theorem ex_r : rankP pEx twoL = 2 := by rw [rankP_C]; decide +kernel
theorem ex_f1 : followsP pEx twoL [-1, 2] = true := by rw [followsP_C]; decide +kernel
theorem ex_f2 : followsP pEx twoL [1, 1] = false := by rw [followsP_C]; decide +kernel
theorem i64s_of {l : List Int} (h : (l.all fun n => decide (-9223372036854775808 ≤ n) && decide (n < 9223372036854775808)) = true) : I64s l := by
  intro z hz
  have := List.all_eq_true.1 h z hz
  simp only [Bool.and_eq_true, decide_eq_true_eq] at this
  exact this
theorem askOk_of {l : List Ask} (h : (decide (l.length ≤ 1000) && l.all fun a => decide (-9223372036854775808 ≤ a.id) && (decide (a.id < 9223372036854775808) && (decide (a.x.length ≤ 1000000) && a.x.all fun n => decide (-9223372036854775808 ≤ n) && decide (n < 9223372036854775808)))) = true) : AskOk l := by
  simp only [Bool.and_eq_true, decide_eq_true_eq] at h
  have key := fun a ha => List.all_eq_true.1 h.2 a ha
  simp only [Bool.and_eq_true, decide_eq_true_eq] at key
  exact ⟨h.1, fun a ha => ⟨(key a ha).1, (key a ha).2.1⟩, fun a ha => i64s_of (key a ha).2.2.2, fun a ha => (key a ha).2.2.1⟩
theorem rowI_at {w : World} {g : Nat} {e : TypeId} (l : List Int) (h : Row1 w g e (l.map (.int .i64))) (hl : l.length ≤ 1000) : RowI w (.slice (some ⟨g, 0, none⟩) l.length l.length) l := ⟨_, _, rfl, h.cells, by omega⟩
theorem psome_c (w : World) : Calls Tryd.prog 11 #[] w fun e w' => e = .returned (pval pEx) ∧ Below w.heap.size w w' := by
  go_enter Tryd.func11, Tryd.ntmps11
  go_wp2
  refine bodyPost_ret (v := pval pEx) (by simp [results, Tryd.f11, go_sem, pEx]) rfl ⟨rfl, ?_⟩
  exact (Below.refl _ _).alloc (Nat.le_refl _) _
/-- the queries 1 0 and 0 1. -/
def TwoAt (w : World) (g g1 g2 : Nat) : Prop := Row1 w g 32 [.int .i64 1, .slice (some ⟨g1, 0, none⟩) 2 2, .int .i64 2, .slice (some ⟨g2, 0, none⟩) 2 2] ∧ Row1 w g1 2 [.int .i64 1, .int .i64 0] ∧ Row1 w g2 2 [.int .i64 0, .int .i64 1]
theorem TwoAt.below {w w' : World} {g g1 g2 : Nat} (h : TwoAt w g g1 g2) (hb : Below w.heap.size w w') : TwoAt w' g g1 g2 := ⟨h.1.below hb, h.2.1.below hb, h.2.2.below hb⟩
theorem TwoAt.asks {w : World} {g g1 g2 : Nat} (h : TwoAt w g g1 g2) : Asks w (some ⟨g, 0, none⟩) twoL := by
  refine ⟨[⟨1, .slice (some ⟨g1, 0, none⟩) 2 2⟩, ⟨2, .slice (some ⟨g2, 0, none⟩) 2 2⟩], h.1.cells, rfl, fun i a ha => ?_⟩
  match i, ha with
  | 0, ha =>
    obtain rfl := Option.some.inj ha
    exact ⟨_, rfl, rfl, rowI_at [1, 0] h.2.1 (by decide)⟩
  | 1, ha =>
    obtain rfl := Option.some.inj ha
    exact ⟨_, rfl, rfl, rowI_at [0, 1] h.2.2 (by decide)⟩
  | i + 2, ha => simp at ha
set_option maxRecDepth 100000 in
theorem ptwo_c (w : World) : Calls Tryd.prog 12 #[] w fun e w' => ∃ g g1 g2, e = .returned (.slice (some ⟨g, 0, none⟩) 2 2) ∧ TwoAt w' g g1 g2 ∧ Below w.heap.size w w' := by
  have hB := Bun.nil w
  go_enter Tryd.func12, Tryd.ntmps12
  go_wp2_with (refine wpList_named hB rfl ?_; clear hB; intro wn gn hB hbn hg; (try rw [hg]); clear hg)
  go_ret
  exact ⟨_, _, _, rfl, ⟨row1_new wn [.int .i64 1, .slice (some ⟨_, 0, none⟩) 2 2, .int .i64 2, .slice (some ⟨_, 0, none⟩) 2 2] _, (hB.row (i := 1) rfl).alloc _, (hB.row (i := 0) rfl).alloc _⟩, below_next hB.b hB.b.size (below_alloc wn _)⟩
set_option maxRecDepth 100000 in
set_option maxHeartbeats 8000000 in
theorem awake21_c (w : World) (hTab : Tabs w) [DecidableEq Lit] :
    Calls Tryd.prog 5 #[] w fun e w' => e = .returned (.bool true) ∧ Below w.heap.size w w' := by
  go_enter Tryd.func5, Tryd.ntmps5
  go_wp2_with (fail)
  refine (psome_c w).mono ?_
  rintro e w1 ⟨rfl, hb1⟩
  go_wp2_with (fail)
  refine (ptwo_c w1).mono ?_
  rintro e w2 ⟨g, g1, g2, rfl, htwo, hb2⟩
  have hb3 := below_alloc w2 (.cells (pcells pEx).toArray 24)
  have hP := row1_new w2 (pcells pEx) 24
  have hG := htwo.below hb3
  have hbw := (hb1.trans (hb2.mono hb1.size)).trans (hb3.mono (Nat.le_trans hb1.size hb2.size))
  have hTab2 := hTab.below hbw
  clear hTab htwo hb1 hb2 hb3
  go_upto_region 2 with (fail)
  simp only [List.toArray] at hP hG hbw hTab2
  generalize w2.alloc (.cells #[.int .u64 pEx.P, .int .u64 pEx.Q, .int .u64 pEx.G, .int .u64 pEx.H, .int .i64 pEx.Nodes, .int .i64 pEx.N, .int .i64 pEx.T, .int .i64 pEx.K, .int .i64 pEx.D, .int .i64 pEx.R, .int .i64 pEx.M, .int .i64 pEx.X] 24) = w3 at *
  obtain ⟨bp, hgp⟩ : ∃ n, w2.heap.size = n := ⟨_, rfl⟩
  rw [hgp] at hP ⊢
  clear hgp
  have one := askOk_of (l := [⟨1, [1, 0]⟩]) (by decide)
  have hx1 := i64s_of (l := [1, 0]) (by decide)
  have hx2 := i64s_of (l := [0, 1]) (by decide)
  refine Rg.wp_region (l := [_, _, _, _, _, _, _, _, _, _, _, _, _, _, _, _, _, _, _, _, _, _, _, _, _, _, _, _, _, _, _, _, _, _, _, _, _, _, _, _, _, _, _, _, _, _, _, _, _, _, _, _, _, _, _, _, _, _, _]) (tail := [_]) (Rg.grows _ 60) [some 5, some 6, some 7, some 8, some 9, some 10, some 11, some 12, some 13, some 14, some 15, some 16, some 17, some 18, some 19, some 20, some 21, some 22, some 23, some 24, some 25, some 26, some 27, some 28, some 29, some 30, some 31, some 32, some 33, some 34, some 35, some 36, some 37, some 38, some 39, some 40, some 41, some 42, some 43, some 44, some 45, some 46, some 47, some 48, some 49, some 50, some 51, some 52, some 53, some 54, some 55, some 56, some 57, some 58, some 59, some 60, some 61, some 62, some 63, some 0] 64 (by kernel_rfl) (by kernel_rfl) (by kernel_rfl) rfl (Rg.grows_fair _ _) (Rg.keep_drew _) (trivial) ?_
  refine Rg.op_is (pval pEx) [] rfl rfl (by kernel_rfl) ?_ ?_
  · intro wx hb
    refine Rg.from_nil fun T hT => ?_
    obtain ⟨p0, p1, p2, p3, p4, p5, p6, p7, p8, p9, p10, p11⟩ := par_cells (hP.below hb)
    go_wp2
    exact hT _ _ rfl (by first | exact Rg.Keep.refl _ | exact below_of_dr hw2 | exact hw2 | exact (Below.refl _ _).alloc (Nat.le_refl _) _) (by first | rfl | exact congrArg _ (by decide))
  refine' Rg.op_is _ [] rfl rfl (by kernel_rfl) ?_ ?_
  rotate_left
  · intro wx hb
    refine Rg.from_nil fun T hT => ?_
    go_wp2
    refine hT _ _ rfl (by first | exact Rg.Keep.refl _ | exact below_of_dr hw2 | exact hw2 | exact (Below.refl _ _).alloc (Nat.le_refl _) _) ?_
    simp only [Rg.last, List.getElem?_toArray, List.getElem?_cons_succ, List.getElem?_cons_zero, Option.getD_some]
    rfl
  refine' Rg.op_is _ [1] rfl rfl (by kernel_rfl) ?_ ?_
  rotate_left
  · intro wx hb
    refine Rg.from_is (some 6) rfl rfl ?_
    refine Rg.from_nil fun T hT => ?_
    go_wp2
    refine hT _ _ rfl (by first | exact Rg.Keep.refl _ | exact below_of_dr hw2 | exact hw2 | exact (Below.refl _ _).alloc (Nat.le_refl _) _) ?_
    simp only [Rg.last, List.getElem?_toArray, List.getElem?_cons_succ, List.getElem?_cons_zero, Option.getD_some]
    rfl
  refine' Rg.op_is _ [2] rfl rfl (by kernel_rfl) ?_ ?_
  rotate_left
  · intro wx hb
    refine Rg.from_is (some 7) rfl rfl ?_
    refine Rg.from_nil fun T hT => ?_
    go_wp2
    refine hT _ _ rfl (by first | exact Rg.Keep.refl _ | exact below_of_dr hw2 | exact hw2 | exact (Below.refl _ _).alloc (Nat.le_refl _) _) ?_
    simp only [Rg.last, List.getElem?_toArray, List.getElem?_cons_succ, List.getElem?_cons_zero, Option.getD_some]
    rfl
  refine Rg.op_is (.slice (some ⟨g1, 0, none⟩) 2 2) [3] rfl rfl (by kernel_rfl) ?_ ?_
  · intro wx hb
    refine Rg.from_is (some 8) rfl rfl ?_
    refine Rg.from_nil fun T hT => ?_
    have cc := (hG.below hb).1.cell (k := 1) rfl
    go_wp2
    exact hT _ _ rfl (by first | exact Rg.Keep.refl _ | exact below_of_dr hw2 | exact hw2 | exact (Below.refl _ _).alloc (Nat.le_refl _) _) (by first | rfl | exact congrArg _ (by decide))
  refine Rg.op_is (.int .i64 0) [0, 4] rfl rfl (by kernel_rfl) ?_ ?_
  · intro wx hb
    refine Rg.from_is (some 5) rfl rfl ?_
    refine Rg.from_is (some 9) rfl rfl ?_
    refine Rg.from_nil fun T hT => ?_
    go_wp2_with (fail)
    refine (aquery_c pEx pEx_ok (none) [] 0 1 (some ⟨g1, 0, none⟩) [1, 0] 2 _ (asks_none _) (askOk_of (by decide)) ((hG.below hb).2.1.cells) (by decide) hx1 (hTab2.below hb)).mono ?_
    rintro e w4 ⟨rfl, hw2⟩
    rw [ex_q1]
    go_wp2
    exact hT _ _ rfl hw2 rfl
  refine Rg.op_is (.bool true) [5] rfl rfl (by kernel_rfl) ?_ ?_
  · intro wx hb
    refine Rg.from_is (some 10) rfl rfl ?_
    refine Rg.from_nil fun T hT => ?_
    go_wp2
    exact hT _ _ rfl (by first | exact Rg.Keep.refl _ | exact below_of_dr hw2 | exact hw2 | exact (Below.refl _ _).alloc (Nat.le_refl _) _) (by first | rfl | exact congrArg _ (by decide))
  refine Rg.op_is (.bool true) [6] rfl rfl (by kernel_rfl) ?_ ?_
  · intro wx hb
    refine Rg.from_is (some 11) rfl rfl ?_
    refine Rg.from_nil fun T hT => ?_
    go_wp2
    exact hT _ _ rfl (by first | exact Rg.Keep.refl _ | exact below_of_dr hw2 | exact hw2 | exact (Below.refl _ _).alloc (Nat.le_refl _) _) (by first | rfl | exact congrArg _ (by decide))
  refine Rg.op_is (pval pEx) [] rfl rfl (by kernel_rfl) ?_ ?_
  · intro wx hb
    refine Rg.from_nil fun T hT => ?_
    obtain ⟨p0, p1, p2, p3, p4, p5, p6, p7, p8, p9, p10, p11⟩ := par_cells (hP.below hb)
    go_wp2
    exact hT _ _ rfl (by first | exact Rg.Keep.refl _ | exact below_of_dr hw2 | exact hw2 | exact (Below.refl _ _).alloc (Nat.le_refl _) _) (by first | rfl | exact congrArg _ (by decide))
  refine' Rg.op_is _ [] rfl rfl (by kernel_rfl) ?_ ?_
  rotate_left
  · intro wx hb
    refine Rg.from_nil fun T hT => ?_
    go_wp2
    refine hT _ _ rfl (by first | exact Rg.Keep.refl _ | exact below_of_dr hw2 | exact hw2 | exact (Below.refl _ _).alloc (Nat.le_refl _) _) ?_
    simp only [Rg.last, List.getElem?_toArray, List.getElem?_cons_succ, List.getElem?_cons_zero, Option.getD_some]
    rfl
  refine Rg.op_is (.slice (some ⟨g, 0, none⟩) 1 2) [9] rfl rfl (by kernel_rfl) ?_ ?_
  · intro wx hb
    refine Rg.from_is (some 14) rfl rfl ?_
    refine Rg.from_nil fun T hT => ?_
    go_wp2
    exact hT _ _ rfl (by first | exact Rg.Keep.refl _ | exact below_of_dr hw2 | exact hw2 | exact (Below.refl _ _).alloc (Nat.le_refl _) _) (by first | rfl | exact congrArg _ (by decide))
  refine' Rg.op_is _ [] rfl rfl (by kernel_rfl) ?_ ?_
  rotate_left
  · intro wx hb
    refine Rg.from_nil fun T hT => ?_
    go_wp2
    refine hT _ _ rfl (by first | exact Rg.Keep.refl _ | exact below_of_dr hw2 | exact hw2 | exact (Below.refl _ _).alloc (Nat.le_refl _) _) ?_
    simp only [Rg.last, List.getElem?_toArray, List.getElem?_cons_succ, List.getElem?_cons_zero, Option.getD_some]
    rfl
  refine' Rg.op_is _ [11] rfl rfl (by kernel_rfl) ?_ ?_
  rotate_left
  · intro wx hb
    refine Rg.from_is (some 16) rfl rfl ?_
    refine Rg.from_nil fun T hT => ?_
    go_wp2
    refine hT _ _ rfl (by first | exact Rg.Keep.refl _ | exact below_of_dr hw2 | exact hw2 | exact (Below.refl _ _).alloc (Nat.le_refl _) _) ?_
    simp only [Rg.last, List.getElem?_toArray, List.getElem?_cons_succ, List.getElem?_cons_zero, Option.getD_some]
    rfl
  refine' Rg.op_is _ [12] rfl rfl (by kernel_rfl) ?_ ?_
  rotate_left
  · intro wx hb
    refine Rg.from_is (some 17) rfl rfl ?_
    refine Rg.from_nil fun T hT => ?_
    go_wp2
    refine hT _ _ rfl (by first | exact Rg.Keep.refl _ | exact below_of_dr hw2 | exact hw2 | exact (Below.refl _ _).alloc (Nat.le_refl _) _) ?_
    simp only [Rg.last, List.getElem?_toArray, List.getElem?_cons_succ, List.getElem?_cons_zero, Option.getD_some]
    rfl
  refine Rg.op_is (.slice (some ⟨g1, 0, none⟩) 2 2) [13] rfl rfl (by kernel_rfl) ?_ ?_
  · intro wx hb
    refine Rg.from_is (some 18) rfl rfl ?_
    refine Rg.from_nil fun T hT => ?_
    have cc := (hG.below hb).1.cell (k := 1) rfl
    go_wp2
    exact hT _ _ rfl (by first | exact Rg.Keep.refl _ | exact below_of_dr hw2 | exact hw2 | exact (Below.refl _ _).alloc (Nat.le_refl _) _) (by first | rfl | exact congrArg _ (by decide))
  refine Rg.op_is (.int .i64 0) [8, 10, 14] rfl rfl (by kernel_rfl) ?_ ?_
  · intro wx hb
    refine Rg.from_is (some 13) rfl rfl ?_
    refine Rg.from_is (some 15) rfl rfl ?_
    refine Rg.from_is (some 19) rfl rfl ?_
    refine Rg.from_nil fun T hT => ?_
    go_wp2_with (fail)
    refine (aquery_c pEx pEx_ok (some ⟨g, 0, none⟩) [⟨1, [1, 0]⟩] 2 2 (some ⟨g1, 0, none⟩) [1, 0] 2 _ (((hG.below hb).asks).take 1) one ((hG.below hb).2.1.cells) (by decide) hx1 (hTab2.below hb)).mono ?_
    rintro e w4 ⟨rfl, hw2⟩
    rw [ex_q2]
    go_wp2
    exact hT _ _ rfl hw2 rfl
  refine Rg.op_is (.bool true) [15] rfl rfl (by kernel_rfl) ?_ ?_
  · intro wx hb
    refine Rg.from_is (some 20) rfl rfl ?_
    refine Rg.from_nil fun T hT => ?_
    go_wp2
    exact hT _ _ rfl (by first | exact Rg.Keep.refl _ | exact below_of_dr hw2 | exact hw2 | exact (Below.refl _ _).alloc (Nat.le_refl _) _) (by first | rfl | exact congrArg _ (by decide))
  refine Rg.op_is (.bool true) [7, 16] rfl rfl (by kernel_rfl) ?_ ?_
  · intro wx hb
    refine Rg.from_is (some 12) rfl rfl ?_
    refine Rg.from_is (some 21) rfl rfl ?_
    refine Rg.from_nil fun T hT => ?_
    go_wp2
    exact hT _ _ rfl (by first | exact Rg.Keep.refl _ | exact below_of_dr hw2 | exact hw2 | exact (Below.refl _ _).alloc (Nat.le_refl _) _) (by first | rfl | exact congrArg _ (by decide))
  refine Rg.op_is (.bool true) [17] rfl rfl (by kernel_rfl) ?_ ?_
  · intro wx hb
    refine Rg.from_is (some 22) rfl rfl ?_
    refine Rg.from_nil fun T hT => ?_
    go_wp2
    exact hT _ _ rfl (by first | exact Rg.Keep.refl _ | exact below_of_dr hw2 | exact hw2 | exact (Below.refl _ _).alloc (Nat.le_refl _) _) (by first | rfl | exact congrArg _ (by decide))
  refine Rg.op_is (pval pEx) [] rfl rfl (by kernel_rfl) ?_ ?_
  · intro wx hb
    refine Rg.from_nil fun T hT => ?_
    obtain ⟨p0, p1, p2, p3, p4, p5, p6, p7, p8, p9, p10, p11⟩ := par_cells (hP.below hb)
    go_wp2
    exact hT _ _ rfl (by first | exact Rg.Keep.refl _ | exact below_of_dr hw2 | exact hw2 | exact (Below.refl _ _).alloc (Nat.le_refl _) _) (by first | rfl | exact congrArg _ (by decide))
  refine' Rg.op_is _ [] rfl rfl (by kernel_rfl) ?_ ?_
  rotate_left
  · intro wx hb
    refine Rg.from_nil fun T hT => ?_
    go_wp2
    refine hT _ _ rfl (by first | exact Rg.Keep.refl _ | exact below_of_dr hw2 | exact hw2 | exact (Below.refl _ _).alloc (Nat.le_refl _) _) ?_
    simp only [Rg.last, List.getElem?_toArray, List.getElem?_cons_succ, List.getElem?_cons_zero, Option.getD_some]
    rfl
  refine Rg.op_is (.slice (some ⟨g, 0, none⟩) 1 2) [20] rfl rfl (by kernel_rfl) ?_ ?_
  · intro wx hb
    refine Rg.from_is (some 25) rfl rfl ?_
    refine Rg.from_nil fun T hT => ?_
    go_wp2
    exact hT _ _ rfl (by first | exact Rg.Keep.refl _ | exact below_of_dr hw2 | exact hw2 | exact (Below.refl _ _).alloc (Nat.le_refl _) _) (by first | rfl | exact congrArg _ (by decide))
  refine' Rg.op_is _ [] rfl rfl (by kernel_rfl) ?_ ?_
  rotate_left
  · intro wx hb
    refine Rg.from_nil fun T hT => ?_
    go_wp2
    refine hT _ _ rfl (by first | exact Rg.Keep.refl _ | exact below_of_dr hw2 | exact hw2 | exact (Below.refl _ _).alloc (Nat.le_refl _) _) ?_
    simp only [Rg.last, List.getElem?_toArray, List.getElem?_cons_succ, List.getElem?_cons_zero, Option.getD_some]
    rfl
  refine' Rg.op_is _ [22] rfl rfl (by kernel_rfl) ?_ ?_
  rotate_left
  · intro wx hb
    refine Rg.from_is (some 27) rfl rfl ?_
    refine Rg.from_nil fun T hT => ?_
    go_wp2
    refine hT _ _ rfl (by first | exact Rg.Keep.refl _ | exact below_of_dr hw2 | exact hw2 | exact (Below.refl _ _).alloc (Nat.le_refl _) _) ?_
    simp only [Rg.last, List.getElem?_toArray, List.getElem?_cons_succ, List.getElem?_cons_zero, Option.getD_some]
    rfl
  refine' Rg.op_is _ [23] rfl rfl (by kernel_rfl) ?_ ?_
  rotate_left
  · intro wx hb
    refine Rg.from_is (some 28) rfl rfl ?_
    refine Rg.from_nil fun T hT => ?_
    go_wp2
    refine hT _ _ rfl (by first | exact Rg.Keep.refl _ | exact below_of_dr hw2 | exact hw2 | exact (Below.refl _ _).alloc (Nat.le_refl _) _) ?_
    simp only [Rg.last, List.getElem?_toArray, List.getElem?_cons_succ, List.getElem?_cons_zero, Option.getD_some]
    rfl
  refine Rg.op_is (.slice (some ⟨g2, 0, none⟩) 2 2) [24] rfl rfl (by kernel_rfl) ?_ ?_
  · intro wx hb
    refine Rg.from_is (some 29) rfl rfl ?_
    refine Rg.from_nil fun T hT => ?_
    have cc := (hG.below hb).1.cell (k := 3) rfl
    go_wp2
    exact hT _ _ rfl (by first | exact Rg.Keep.refl _ | exact below_of_dr hw2 | exact hw2 | exact (Below.refl _ _).alloc (Nat.le_refl _) _) (by first | rfl | exact congrArg _ (by decide))
  refine Rg.op_is (.int .i64 22) [19, 21, 25] rfl rfl (by kernel_rfl) ?_ ?_
  · intro wx hb
    refine Rg.from_is (some 24) rfl rfl ?_
    refine Rg.from_is (some 26) rfl rfl ?_
    refine Rg.from_is (some 30) rfl rfl ?_
    refine Rg.from_nil fun T hT => ?_
    go_wp2_with (fail)
    refine (aquery_c pEx pEx_ok (some ⟨g, 0, none⟩) [⟨1, [1, 0]⟩] 2 2 (some ⟨g2, 0, none⟩) [0, 1] 2 _ (((hG.below hb).asks).take 1) one ((hG.below hb).2.2.cells) (by decide) hx2 (hTab2.below hb)).mono ?_
    rintro e w4 ⟨rfl, hw2⟩
    rw [ex_q3]
    go_wp2
    exact hT _ _ rfl hw2 rfl
  refine Rg.op_is (.bool true) [26] rfl rfl (by kernel_rfl) ?_ ?_
  · intro wx hb
    refine Rg.from_is (some 31) rfl rfl ?_
    refine Rg.from_nil fun T hT => ?_
    go_wp2
    exact hT _ _ rfl (by first | exact Rg.Keep.refl _ | exact below_of_dr hw2 | exact hw2 | exact (Below.refl _ _).alloc (Nat.le_refl _) _) (by first | rfl | exact congrArg _ (by decide))
  refine Rg.op_is (.bool true) [18, 27] rfl rfl (by kernel_rfl) ?_ ?_
  · intro wx hb
    refine Rg.from_is (some 23) rfl rfl ?_
    refine Rg.from_is (some 32) rfl rfl ?_
    refine Rg.from_nil fun T hT => ?_
    go_wp2
    exact hT _ _ rfl (by first | exact Rg.Keep.refl _ | exact below_of_dr hw2 | exact hw2 | exact (Below.refl _ _).alloc (Nat.le_refl _) _) (by first | rfl | exact congrArg _ (by decide))
  refine Rg.op_is (.bool true) [28] rfl rfl (by kernel_rfl) ?_ ?_
  · intro wx hb
    refine Rg.from_is (some 33) rfl rfl ?_
    refine Rg.from_nil fun T hT => ?_
    go_wp2
    exact hT _ _ rfl (by first | exact Rg.Keep.refl _ | exact below_of_dr hw2 | exact hw2 | exact (Below.refl _ _).alloc (Nat.le_refl _) _) (by first | rfl | exact congrArg _ (by decide))
  refine Rg.op_is (pval pEx) [] rfl rfl (by kernel_rfl) ?_ ?_
  · intro wx hb
    refine Rg.from_nil fun T hT => ?_
    obtain ⟨p0, p1, p2, p3, p4, p5, p6, p7, p8, p9, p10, p11⟩ := par_cells (hP.below hb)
    go_wp2
    exact hT _ _ rfl (by first | exact Rg.Keep.refl _ | exact below_of_dr hw2 | exact hw2 | exact (Below.refl _ _).alloc (Nat.le_refl _) _) (by first | rfl | exact congrArg _ (by decide))
  refine' Rg.op_is _ [] rfl rfl (by kernel_rfl) ?_ ?_
  rotate_left
  · intro wx hb
    refine Rg.from_nil fun T hT => ?_
    go_wp2
    refine hT _ _ rfl (by first | exact Rg.Keep.refl _ | exact below_of_dr hw2 | exact hw2 | exact (Below.refl _ _).alloc (Nat.le_refl _) _) ?_
    simp only [Rg.last, List.getElem?_toArray, List.getElem?_cons_succ, List.getElem?_cons_zero, Option.getD_some]
    rfl
  refine Rg.op_is (.slice (some ⟨g, 0, none⟩) 1 2) [31] rfl rfl (by kernel_rfl) ?_ ?_
  · intro wx hb
    refine Rg.from_is (some 36) rfl rfl ?_
    refine Rg.from_nil fun T hT => ?_
    go_wp2
    exact hT _ _ rfl (by first | exact Rg.Keep.refl _ | exact below_of_dr hw2 | exact hw2 | exact (Below.refl _ _).alloc (Nat.le_refl _) _) (by first | rfl | exact congrArg _ (by decide))
  refine' Rg.op_is _ [] rfl rfl (by kernel_rfl) ?_ ?_
  rotate_left
  · intro wx hb
    refine Rg.from_nil fun T hT => ?_
    go_wp2
    refine hT _ _ rfl (by first | exact Rg.Keep.refl _ | exact below_of_dr hw2 | exact hw2 | exact (Below.refl _ _).alloc (Nat.le_refl _) _) ?_
    simp only [Rg.last, List.getElem?_toArray, List.getElem?_cons_succ, List.getElem?_cons_zero, Option.getD_some]
    rfl
  refine' Rg.op_is _ [33] rfl rfl (by kernel_rfl) ?_ ?_
  rotate_left
  · intro wx hb
    refine Rg.from_is (some 38) rfl rfl ?_
    refine Rg.from_nil fun T hT => ?_
    go_wp2
    refine hT _ _ rfl (by first | exact Rg.Keep.refl _ | exact below_of_dr hw2 | exact hw2 | exact (Below.refl _ _).alloc (Nat.le_refl _) _) ?_
    simp only [Rg.last, List.getElem?_toArray, List.getElem?_cons_succ, List.getElem?_cons_zero, Option.getD_some]
    rfl
  refine' Rg.op_is _ [34] rfl rfl (by kernel_rfl) ?_ ?_
  rotate_left
  · intro wx hb
    refine Rg.from_is (some 39) rfl rfl ?_
    refine Rg.from_nil fun T hT => ?_
    go_wp2
    refine hT _ _ rfl (by first | exact Rg.Keep.refl _ | exact below_of_dr hw2 | exact hw2 | exact (Below.refl _ _).alloc (Nat.le_refl _) _) ?_
    simp only [Rg.last, List.getElem?_toArray, List.getElem?_cons_succ, List.getElem?_cons_zero, Option.getD_some]
    rfl
  refine Rg.op_is (.slice (some ⟨g2, 0, none⟩) 2 2) [35] rfl rfl (by kernel_rfl) ?_ ?_
  · intro wx hb
    refine Rg.from_is (some 40) rfl rfl ?_
    refine Rg.from_nil fun T hT => ?_
    have cc := (hG.below hb).1.cell (k := 3) rfl
    go_wp2
    exact hT _ _ rfl (by first | exact Rg.Keep.refl _ | exact below_of_dr hw2 | exact hw2 | exact (Below.refl _ _).alloc (Nat.le_refl _) _) (by first | rfl | exact congrArg _ (by decide))
  refine Rg.op_is (.int .i64 6) [30, 32, 36] rfl rfl (by kernel_rfl) ?_ ?_
  · intro wx hb
    refine Rg.from_is (some 35) rfl rfl ?_
    refine Rg.from_is (some 37) rfl rfl ?_
    refine Rg.from_is (some 41) rfl rfl ?_
    refine Rg.from_nil fun T hT => ?_
    go_wp2_with (fail)
    refine (aquery_c pEx pEx_ok (some ⟨g, 0, none⟩) [⟨1, [1, 0]⟩] 2 1 (some ⟨g2, 0, none⟩) [0, 1] 2 _ (((hG.below hb).asks).take 1) one ((hG.below hb).2.2.cells) (by decide) hx2 (hTab2.below hb)).mono ?_
    rintro e w4 ⟨rfl, hw2⟩
    rw [ex_q4]
    go_wp2
    exact hT _ _ rfl hw2 rfl
  refine Rg.op_is (.bool true) [37] rfl rfl (by kernel_rfl) ?_ ?_
  · intro wx hb
    refine Rg.from_is (some 42) rfl rfl ?_
    refine Rg.from_nil fun T hT => ?_
    go_wp2
    exact hT _ _ rfl (by first | exact Rg.Keep.refl _ | exact below_of_dr hw2 | exact hw2 | exact (Below.refl _ _).alloc (Nat.le_refl _) _) (by first | rfl | exact congrArg _ (by decide))
  refine Rg.op_is (.bool true) [29, 38] rfl rfl (by kernel_rfl) ?_ ?_
  · intro wx hb
    refine Rg.from_is (some 34) rfl rfl ?_
    refine Rg.from_is (some 43) rfl rfl ?_
    refine Rg.from_nil fun T hT => ?_
    go_wp2
    exact hT _ _ rfl (by first | exact Rg.Keep.refl _ | exact below_of_dr hw2 | exact hw2 | exact (Below.refl _ _).alloc (Nat.le_refl _) _) (by first | rfl | exact congrArg _ (by decide))
  refine Rg.op_is (.bool true) [39] rfl rfl (by kernel_rfl) ?_ ?_
  · intro wx hb
    refine Rg.from_is (some 44) rfl rfl ?_
    refine Rg.from_nil fun T hT => ?_
    go_wp2
    exact hT _ _ rfl (by first | exact Rg.Keep.refl _ | exact below_of_dr hw2 | exact hw2 | exact (Below.refl _ _).alloc (Nat.le_refl _) _) (by first | rfl | exact congrArg _ (by decide))
  refine Rg.op_is (pval pEx) [] rfl rfl (by kernel_rfl) ?_ ?_
  · intro wx hb
    refine Rg.from_nil fun T hT => ?_
    obtain ⟨p0, p1, p2, p3, p4, p5, p6, p7, p8, p9, p10, p11⟩ := par_cells (hP.below hb)
    go_wp2
    exact hT _ _ rfl (by first | exact Rg.Keep.refl _ | exact below_of_dr hw2 | exact hw2 | exact (Below.refl _ _).alloc (Nat.le_refl _) _) (by first | rfl | exact congrArg _ (by decide))
  refine' Rg.op_is _ [] rfl rfl (by kernel_rfl) ?_ ?_
  rotate_left
  · intro wx hb
    refine Rg.from_nil fun T hT => ?_
    go_wp2
    refine hT _ _ rfl (by first | exact Rg.Keep.refl _ | exact below_of_dr hw2 | exact hw2 | exact (Below.refl _ _).alloc (Nat.le_refl _) _) ?_
    simp only [Rg.last, List.getElem?_toArray, List.getElem?_cons_succ, List.getElem?_cons_zero, Option.getD_some]
    rfl
  refine Rg.op_is (.int .i64 2) [41, 42] rfl rfl (by kernel_rfl) ?_ ?_
  · intro wx hb
    refine Rg.from_is (some 46) rfl rfl ?_
    refine Rg.from_is (some 47) rfl rfl ?_
    refine Rg.from_nil fun T hT => ?_
    go_wp2_with (fail)
    refine (arank_c pEx pEx_ok (some ⟨g, 0, none⟩) twoL 2 _ ((hG.below hb).asks) (askOk_of (by decide)) (hTab2.below hb)).mono ?_
    rintro e w4 ⟨rfl, hw2⟩
    rw [ex_r]
    go_wp2
    exact hT _ _ rfl hw2 rfl
  refine Rg.op_is (.bool true) [43] rfl rfl (by kernel_rfl) ?_ ?_
  · intro wx hb
    refine Rg.from_is (some 48) rfl rfl ?_
    refine Rg.from_nil fun T hT => ?_
    go_wp2
    exact hT _ _ rfl (by first | exact Rg.Keep.refl _ | exact below_of_dr hw2 | exact hw2 | exact (Below.refl _ _).alloc (Nat.le_refl _) _) (by first | rfl | exact congrArg _ (by decide))
  refine Rg.op_is (.bool true) [40, 44] rfl rfl (by kernel_rfl) ?_ ?_
  · intro wx hb
    refine Rg.from_is (some 45) rfl rfl ?_
    refine Rg.from_is (some 49) rfl rfl ?_
    refine Rg.from_nil fun T hT => ?_
    go_wp2
    exact hT _ _ rfl (by first | exact Rg.Keep.refl _ | exact below_of_dr hw2 | exact hw2 | exact (Below.refl _ _).alloc (Nat.le_refl _) _) (by first | rfl | exact congrArg _ (by decide))
  refine Rg.op_is (.bool true) [45] rfl rfl (by kernel_rfl) ?_ ?_
  · intro wx hb
    refine Rg.from_is (some 50) rfl rfl ?_
    refine Rg.from_nil fun T hT => ?_
    go_wp2
    exact hT _ _ rfl (by first | exact Rg.Keep.refl _ | exact below_of_dr hw2 | exact hw2 | exact (Below.refl _ _).alloc (Nat.le_refl _) _) (by first | rfl | exact congrArg _ (by decide))
  refine Rg.op_is (pval pEx) [] rfl rfl (by kernel_rfl) ?_ ?_
  · intro wx hb
    refine Rg.from_nil fun T hT => ?_
    obtain ⟨p0, p1, p2, p3, p4, p5, p6, p7, p8, p9, p10, p11⟩ := par_cells (hP.below hb)
    go_wp2
    exact hT _ _ rfl (by first | exact Rg.Keep.refl _ | exact below_of_dr hw2 | exact hw2 | exact (Below.refl _ _).alloc (Nat.le_refl _) _) (by first | rfl | exact congrArg _ (by decide))
  refine' Rg.op_is _ [] rfl rfl (by kernel_rfl) ?_ ?_
  rotate_left
  · intro wx hb
    refine Rg.from_nil fun T hT => ?_
    go_wp2
    refine hT _ _ rfl (by first | exact Rg.Keep.refl _ | exact below_of_dr hw2 | exact hw2 | exact (Below.refl _ _).alloc (Nat.le_refl _) _) ?_
    simp only [Rg.last, List.getElem?_toArray, List.getElem?_cons_succ, List.getElem?_cons_zero, Option.getD_some]
    rfl
  refine Rg.op_of (fun w' v => BoxAt w' v 2 [.int .i64 (-1), .int .i64 (2)]) [] rfl ?_ ?_ rfl (by kernel_rfl) ?_ ?_
  · exact fun w1 w2 v hk h => h.below hk
  · exact fun w1 w2 v hk h => h.below hk
  · intro wx hb
    refine Rg.from_nil fun T hT => ?_
    go_wp2
    exact hT _ _ rfl (below_alloc _ _) ⟨_, rfl, row1_new wx [.int .i64 (-1), .int .i64 (2)] _⟩
  refine Rg.op_is (.bool true) [47, 48, 49] rfl rfl (by kernel_rfl) ?_ ?_
  · intro wx hb
    refine Rg.from_is (some 52) rfl rfl ?_
    refine Rg.from_is (some 53) rfl rfl ?_
    refine Rg.from_of (some 54) rfl rfl fun v54 h54 => ?_
    refine Rg.from_nil fun T hT => ?_
    obtain ⟨gb, rfl, hr⟩ := h54
    go_wp2_with (fail)
    refine (afollows_c pEx pEx_ok (some ⟨g, 0, none⟩) twoL 2 (some ⟨gb, 0, none⟩) [-1, 2] 2 _ ((hG.below hb).asks) (askOk_of (by decide)) hr.cells (by decide) (i64s_of (by decide)) (hTab2.below hb)).mono ?_
    rintro e w4 ⟨rfl, hw2⟩
    rw [ex_f1]
    go_wp2
    exact hT _ _ rfl hw2 rfl
  refine Rg.op_is (.bool true) [46, 50] rfl rfl (by kernel_rfl) ?_ ?_
  · intro wx hb
    refine Rg.from_is (some 51) rfl rfl ?_
    refine Rg.from_is (some 55) rfl rfl ?_
    refine Rg.from_nil fun T hT => ?_
    go_wp2
    exact hT _ _ rfl (by first | exact Rg.Keep.refl _ | exact below_of_dr hw2 | exact hw2 | exact (Below.refl _ _).alloc (Nat.le_refl _) _) (by first | rfl | exact congrArg _ (by decide))
  refine Rg.op_is (.bool true) [51] rfl rfl (by kernel_rfl) ?_ ?_
  · intro wx hb
    refine Rg.from_is (some 56) rfl rfl ?_
    refine Rg.from_nil fun T hT => ?_
    go_wp2
    exact hT _ _ rfl (by first | exact Rg.Keep.refl _ | exact below_of_dr hw2 | exact hw2 | exact (Below.refl _ _).alloc (Nat.le_refl _) _) (by first | rfl | exact congrArg _ (by decide))
  refine Rg.op_is (pval pEx) [] rfl rfl (by kernel_rfl) ?_ ?_
  · intro wx hb
    refine Rg.from_nil fun T hT => ?_
    obtain ⟨p0, p1, p2, p3, p4, p5, p6, p7, p8, p9, p10, p11⟩ := par_cells (hP.below hb)
    go_wp2
    exact hT _ _ rfl (by first | exact Rg.Keep.refl _ | exact below_of_dr hw2 | exact hw2 | exact (Below.refl _ _).alloc (Nat.le_refl _) _) (by first | rfl | exact congrArg _ (by decide))
  refine' Rg.op_is _ [] rfl rfl (by kernel_rfl) ?_ ?_
  rotate_left
  · intro wx hb
    refine Rg.from_nil fun T hT => ?_
    go_wp2
    refine hT _ _ rfl (by first | exact Rg.Keep.refl _ | exact below_of_dr hw2 | exact hw2 | exact (Below.refl _ _).alloc (Nat.le_refl _) _) ?_
    simp only [Rg.last, List.getElem?_toArray, List.getElem?_cons_succ, List.getElem?_cons_zero, Option.getD_some]
    rfl
  refine Rg.op_of (fun w' v => BoxAt w' v 2 [.int .i64 (1), .int .i64 (1)]) [] rfl ?_ ?_ rfl (by kernel_rfl) ?_ ?_
  · exact fun w1 w2 v hk h => h.below hk
  · exact fun w1 w2 v hk h => h.below hk
  · intro wx hb
    refine Rg.from_nil fun T hT => ?_
    go_wp2
    exact hT _ _ rfl (below_alloc _ _) ⟨_, rfl, row1_new wx [.int .i64 (1), .int .i64 (1)] _⟩
  refine Rg.op_is (.bool false) [53, 54, 55] rfl rfl (by kernel_rfl) ?_ ?_
  · intro wx hb
    refine Rg.from_is (some 58) rfl rfl ?_
    refine Rg.from_is (some 59) rfl rfl ?_
    refine Rg.from_of (some 60) rfl rfl fun v60 h60 => ?_
    refine Rg.from_nil fun T hT => ?_
    obtain ⟨gb, rfl, hr⟩ := h60
    go_wp2_with (fail)
    refine (afollows_c pEx pEx_ok (some ⟨g, 0, none⟩) twoL 2 (some ⟨gb, 0, none⟩) [1, 1] 2 _ ((hG.below hb).asks) (askOk_of (by decide)) hr.cells (by decide) (i64s_of (by decide)) (hTab2.below hb)).mono ?_
    rintro e w4 ⟨rfl, hw2⟩
    rw [ex_f2]
    go_wp2
    exact hT _ _ rfl hw2 rfl
  refine Rg.op_is (.bool true) [56] rfl rfl (by kernel_rfl) ?_ ?_
  · intro wx hb
    refine Rg.from_is (some 61) rfl rfl ?_
    refine Rg.from_nil fun T hT => ?_
    go_wp2
    exact hT _ _ rfl (by first | exact Rg.Keep.refl _ | exact below_of_dr hw2 | exact hw2 | exact (Below.refl _ _).alloc (Nat.le_refl _) _) (by first | rfl | exact congrArg _ (by decide))
  refine Rg.op_is (.bool true) [52, 57] rfl rfl (by kernel_rfl) ?_ ?_
  · intro wx hb
    refine Rg.from_is (some 57) rfl rfl ?_
    refine Rg.from_is (some 62) rfl rfl ?_
    refine Rg.from_nil fun T hT => ?_
    go_wp2
    exact hT _ _ rfl (by first | exact Rg.Keep.refl _ | exact below_of_dr hw2 | exact hw2 | exact (Below.refl _ _).alloc (Nat.le_refl _) _) (by first | rfl | exact congrArg _ (by decide))
  refine Rg.walk_nil [0, 1, 2, 3, 4, 5, 6, 7, 8, 9, 10, 11, 12, 13, 14, 15, 16, 17, 18, 19, 20, 21, 22, 23, 24, 25, 26, 27, 28, 29, 30, 31, 32, 33, 34, 35, 36, 37, 38, 39, 40, 41, 42, 43, 44, 45, 46, 47, 48, 49, 50, 51, 52, 53, 54, 55, 56, 57, 58] (by kernel_rfl) ?_
  intro wx hb
  refine Rg.from_is (some 5) rfl rfl ?_
  refine Rg.from_is (some 6) rfl rfl ?_
  refine Rg.from_is (some 7) rfl rfl ?_
  refine Rg.from_is (some 8) rfl rfl ?_
  refine Rg.from_is (some 9) rfl rfl ?_
  refine Rg.from_is (some 10) rfl rfl ?_
  refine Rg.from_is (some 11) rfl rfl ?_
  refine Rg.from_is (some 12) rfl rfl ?_
  refine Rg.from_is (some 13) rfl rfl ?_
  refine Rg.from_is (some 14) rfl rfl ?_
  refine Rg.from_is (some 15) rfl rfl ?_
  refine Rg.from_is (some 16) rfl rfl ?_
  refine Rg.from_is (some 17) rfl rfl ?_
  refine Rg.from_is (some 18) rfl rfl ?_
  refine Rg.from_is (some 19) rfl rfl ?_
  refine Rg.from_is (some 20) rfl rfl ?_
  refine Rg.from_is (some 21) rfl rfl ?_
  refine Rg.from_is (some 22) rfl rfl ?_
  refine Rg.from_is (some 23) rfl rfl ?_
  refine Rg.from_is (some 24) rfl rfl ?_
  refine Rg.from_is (some 25) rfl rfl ?_
  refine Rg.from_is (some 26) rfl rfl ?_
  refine Rg.from_is (some 27) rfl rfl ?_
  refine Rg.from_is (some 28) rfl rfl ?_
  refine Rg.from_is (some 29) rfl rfl ?_
  refine Rg.from_is (some 30) rfl rfl ?_
  refine Rg.from_is (some 31) rfl rfl ?_
  refine Rg.from_is (some 32) rfl rfl ?_
  refine Rg.from_is (some 33) rfl rfl ?_
  refine Rg.from_is (some 34) rfl rfl ?_
  refine Rg.from_is (some 35) rfl rfl ?_
  refine Rg.from_is (some 36) rfl rfl ?_
  refine Rg.from_is (some 37) rfl rfl ?_
  refine Rg.from_is (some 38) rfl rfl ?_
  refine Rg.from_is (some 39) rfl rfl ?_
  refine Rg.from_is (some 40) rfl rfl ?_
  refine Rg.from_is (some 41) rfl rfl ?_
  refine Rg.from_is (some 42) rfl rfl ?_
  refine Rg.from_is (some 43) rfl rfl ?_
  refine Rg.from_is (some 44) rfl rfl ?_
  refine Rg.from_is (some 45) rfl rfl ?_
  refine Rg.from_is (some 46) rfl rfl ?_
  refine Rg.from_is (some 47) rfl rfl ?_
  refine Rg.from_is (some 48) rfl rfl ?_
  refine Rg.from_is (some 49) rfl rfl ?_
  refine Rg.from_is (some 50) rfl rfl ?_
  refine Rg.from_is (some 51) rfl rfl ?_
  refine Rg.from_is (some 52) rfl rfl ?_
  refine Rg.from_is (some 53) rfl rfl ?_
  refine Rg.from_of (some 54) rfl rfl fun v54 h54 => ?_
  refine Rg.from_is (some 55) rfl rfl ?_
  refine Rg.from_is (some 56) rfl rfl ?_
  refine Rg.from_is (some 57) rfl rfl ?_
  refine Rg.from_is (some 58) rfl rfl ?_
  refine Rg.from_is (some 59) rfl rfl ?_
  refine Rg.from_of (some 60) rfl rfl fun v60 h60 => ?_
  refine Rg.from_is (some 61) rfl rfl ?_
  refine Rg.from_is (some 62) rfl rfl ?_
  refine Rg.from_is (some 63) rfl rfl ?_
  refine Rg.from_nil ?_
  simp only [List.map, Act.put, List.setIfInBounds_toArray, List.set_cons_zero, List.set_cons_succ]
  have hbz := below_next hbw hbw.size hb
  go_wp2
  go_ret
  exact ⟨rfl, hbz⟩
end Go.Proofs.YtpdgalclnlbeaaaDoor
end

section
namespace Go.Proofs.YtpdgalclnlbeaaaDoor
open Go Go.RowKit Go.Maps Go.Shelf Go.Proofs
attribute [local go_sem] Oper.semAt_some
noncomputable def stepP (p : Par) (s : List Ask) (a : Ask) : List Ask := if queryP p s a.id a.x = 0 then s ++ [a] else s
noncomputable def playL (p : Par) (l : List Ask) : List Ask := l.foldl (stepP p) []
theorem playL_snoc {p : Par} {l : List Ask} {k : Nat} {a : Ask} (h : l[k]? = some a) : playL p (l.take (k + 1)) = stepP p (playL p (l.take k)) a := by
  unfold playL
  rw [take_snocR h, List.foldl_append]; rfl
theorem queryP_zero {p : Par} {s : List Ask} {id : Int} {x : List Int} (h : queryP p s id x = 0) : queryE p x = 0 ∧ 1 ≤ id ∧ hasId s id = false ∧ s.length < 8 ∧ (rankV (rowsP p s [x]) p.Q : Int) ≤ p.R := by
  unfold queryP at h
  split at h
  · exact absurd h (by decide)
  rename_i h0
  split at h
  · rename_i h1
    simp only [wrongB, decide_eq_true_eq] at h1
    exact absurd h h1
  rename_i h1
  split at h
  · exact absurd h (by decide)
  rename_i h2
  split at h
  · exact absurd h (by decide)
  rename_i h3
  split at h
  · exact absurd h (by decide)
  rename_i h4
  simp only [wrongB, decide_eq_true_eq, Bool.or_eq_true, not_or, Bool.not_eq_true] at h0 h1 h2 h3 h4
  exact ⟨by omega, by omega, h2, by omega, by omega⟩
/-- what was admitted. -/
structure GoodQ (p : Par) (l s : List Ask) : Prop where
  q : ∀ a ∈ s, queryE p a.x = 0 ∧ 1 ≤ a.id
  ids : s.Pairwise fun a b => a.id ≠ b.id
  rank : ∀ i, i < s.length → (rankP p (s.take (i + 1)) : Int) ≤ p.R
  few : s.length ≤ 8
  mem : ∀ a ∈ s, a ∈ l
theorem GoodQ.step {p : Par} {l s : List Ask} {a : Ask} (h : GoodQ p l s) (ha : a ∈ l) : GoodQ p l (stepP p s a) := by
  unfold stepP
  split
  · rename_i h0
    obtain ⟨e1, e2, e3, e4, e5⟩ := queryP_zero h0
    refine ⟨fun b hb => ?_, ?_, fun i hi => ?_, by rw [List.length_append]; simp; omega, fun b hb => ?_⟩
    · rcases List.mem_append.1 hb with hb | hb
      · exact h.q b hb
      · obtain rfl := List.mem_singleton.1 hb
        exact ⟨e1, e2⟩
    · rw [List.pairwise_append]
      refine ⟨h.ids, List.pairwise_singleton _ _, fun b hb c hc => ?_⟩
      obtain rfl := List.mem_singleton.1 hc
      intro e
      unfold hasId at e3
      rw [List.any_eq_false] at e3
      exact e3 b hb (by simpa using e)
    · rcases Nat.lt_or_ge i s.length with h1 | h1
      · rw [List.take_append_of_le_length (by omega)]
        exact h.rank i h1
      · rw [List.length_append] at hi
        have hi : i = s.length := by simp at hi; omega
        rw [List.take_of_length_le (by rw [List.length_append]; simp; omega)]
        have e : rowsP p (s ++ [a]) [] = rowsP p s [a.x] := by unfold rowsP; simp
        unfold rankP
        rw [e]; exact e5
    · rcases List.mem_append.1 hb with hb | hb
      · exact h.mem b hb
      · obtain rfl := List.mem_singleton.1 hb
        exact ha
  · exact h
theorem GoodQ.play (p : Par) (l : List Ask) : ∀ k, k ≤ l.length → GoodQ p l (playL p (l.take k)) := by
  intro k
  induction k with
  | zero => intro _; exact ⟨fun a h => (by simp [playL] at h), (by simp [playL]), fun i h => (by simp [playL] at h), (by simp [playL]), fun a h => (by simp [playL] at h)⟩
  | succ k ih =>
    intro hk
    obtain ⟨a, ha⟩ := get_of_lt (show k < l.length by omega)
    rw [playL_snoc ha]
    exact (ih (by omega)).step (List.mem_of_getElem? ha)
theorem GoodQ.ok {p : Par} {l s : List Ask} (h : GoodQ p l s) (hl : AskOk l) : AskOk s := ⟨by have := h.few; omega, fun a ha => hl.id a (h.mem a ha), fun a ha => hl.x a (h.mem a ha), fun a ha => hl.len a (h.mem a ha)⟩
/-- what is told of a query that was put. -/
def NextV (p : Par) (s : List Ask) (a : Ask) (base : Nat) (w : World) (v : Value) : Prop := (queryP p s a.id a.x = 0 → OwnA w base v (s ++ [a])) ∧ (queryP p s a.id a.x ≠ 0 → v = .slice none 0 0)
theorem NextV.below {p : Par} {s : List Ask} {a : Ask} {base : Nat} {w w' : World} {v : Value} (h : NextV p s a base w v) (hb : Below w.heap.size w w') : NextV p s a base w' v := ⟨fun h0 => (h.1 h0).below hb, h.2⟩
def PutV (p : Par) (s : List Ask) (a : Ask) (base : Nat) (w : World) (v : Value) : Prop := ∃ v', v = .tuple #[v', .int .i64 (queryP p s a.id a.x)] ∧ NextV p s a base w v'
theorem PutV.below {p : Par} {s : List Ask} {a : Ask} {base : Nat} {w w' : World} {v : Value} (h : PutV p s a base w v) (hb : Below w.heap.size w w') : PutV p s a base w' v := by
  obtain ⟨v', rfl, h1⟩ := h
  exact ⟨v', rfl, h1.below hb⟩
set_option maxRecDepth 100000 in
set_option maxHeartbeats 4000000 in
theorem play_c (p : Par) (hp : p.ok) (A : Option Addr) (l : List Ask) (c : Nat) (w : World) (hA : Asks w A l) (hl : AskOk l) (hTab : Tabs w) [DecidableEq Lit] :
    Calls Tryd.prog 10 #[pval p, .slice A l.length c] w fun e w' => ∃ v, e = .returned v ∧ OwnA w' w.heap.size v (playL p l) ∧ Below w.heap.size w w' := by
  have hlf := hl.few
  have hb0 := below_alloc w (.cells (pcells p).toArray 24)
  have hP := row1_new w (pcells p) 24
  have HA := hid hA
  have HL := hid hl
  have HG := hid (GoodQ.play p l)
  have HT := hid hTab
  clear hA hl hTab
  go_enter Tryd.func10, Tryd.ntmps10
  go_wp2
  simp only [List.toArray] at hb0 hP
  generalize w.alloc (.cells #[.int .u64 p.P, .int .u64 p.Q, .int .u64 p.G, .int .u64 p.H, .int .i64 p.Nodes, .int .i64 p.N, .int .i64 p.T, .int .i64 p.K, .int .i64 p.D, .int .i64 p.R, .int .i64 p.M, .int .i64 p.X] 24) = w1 at *
  have HP := hid hP
  have HB := hid hb0
  clear hP hb0
  go_loopw [5, 6] (fun o i wr => ∃ k : Nat, i = .int .i64 (k : Int) ∧ k ≤ l.length ∧ Hid (OwnA wr w.heap.size o (playL p (l.take k)) ∧ Row1 wr w.heap.size 24 (pcells p) ∧ Below w.heap.size w wr)) (fun _ i _ => l.length - (intOf i).toNat)
  case atStart => exact ⟨0, rfl, by omega, hid ⟨OwnA.nil _ _, HP.out, HB.out⟩⟩
  case round =>
    obtain ⟨k, rfl, hk, HI⟩ := hrel
    rename_i o wr
    by_cases hlt : k < l.length
    · obtain ⟨a, ha⟩ := get_of_lt hlt
      obtain ⟨b, off, A', c', rfl, ca, cx, hcs, hxl⟩ := (HA.out.below HI.out.2.2).at_ ha
      obtain ⟨A2, c2, rfl, hA2⟩ := HI.out.1.asks
      have hok := (HG.out k hk).ok HL.out
      have hO := HI.out.1
      have hP := HI.out.2.1
      have hbw := HI.out.2.2
      have hT := HT.out.below hbw
      have HS := hid (playL_snoc (p := p) ha)
      have hal := HL.out.len a (List.mem_of_getElem? ha)
      have hax := HL.out.x a (List.mem_of_getElem? ha)
      clear ha HI
      generalize playL p (l.take k) = s at *
      have HSt := hid (show stepP p s a = if queryP p s a.id a.x = 0 then s ++ [a] else s from rfl)
      obtain ⟨E, hE⟩ : ∃ E, queryP p s a.id a.x = E := ⟨_, rfl⟩
      have HE := hid hE
      have hTab := hT
      clear hT hE
      go_upto_region 5 with (fail)
      refine Rg.wp_region (l := [_, _, _, _, _, _, _, _, _, _, _, _, _, _, _, _, _]) (tail := [_]) (Rg.grows _ 18) [some 16, some 17, some 18, some 19, some 20, some 21, some 22, some 23, some 24, some 25, some 26, some 27, some 28, some 15, some 29, some 30, some 7, some 8] 35 (by kernel_rfl) (by kernel_rfl) (by kernel_rfl) rfl (Rg.grows_fair _ _) (Rg.keep_drew _) (trivial) ?_
      refine Rg.op_is (pval p) [] rfl rfl (by kernel_rfl) ?_ ?_
      · intro wx hb
        refine Rg.from_nil fun T hT => ?_
        obtain ⟨p0, p1, p2, p3, p4, p5, p6, p7, p8, p9, p10, p11⟩ := par_cells (hP.below hb)
        go_wp2
        exact hT _ _ rfl (by first | exact Rg.Keep.refl _ | exact below_of_dr hw2 | exact hw2 | exact (Below.refl _ _).alloc (Nat.le_refl _) _) (by first | rfl | exact congrArg _ (by decide))
      refine' Rg.op_is _ [] rfl rfl (by kernel_rfl) ?_ ?_
      rotate_left
      · intro wx hb
        refine Rg.from_nil fun T hT => ?_
        go_wp2
        refine hT _ _ rfl (by first | exact Rg.Keep.refl _ | exact below_of_dr hw2 | exact hw2 | exact (Below.refl _ _).alloc (Nat.le_refl _) _) ?_
        simp only [Rg.last, List.getElem?_toArray, List.getElem?_cons_succ, List.getElem?_cons_zero, Option.getD_some]
        rfl
      refine' Rg.op_is _ [] rfl rfl (by kernel_rfl) ?_ ?_
      rotate_left
      · intro wx hb
        refine Rg.from_nil fun T hT => ?_
        go_wp2
        refine hT _ _ rfl (by first | exact Rg.Keep.refl _ | exact below_of_dr hw2 | exact hw2 | exact (Below.refl _ _).alloc (Nat.le_refl _) _) ?_
        simp only [Rg.last, List.getElem?_toArray, List.getElem?_cons_succ, List.getElem?_cons_zero, Option.getD_some]
        rfl
      refine' Rg.op_is _ [] rfl rfl (by kernel_rfl) ?_ ?_
      rotate_left
      · intro wx hb
        refine Rg.from_nil fun T hT => ?_
        go_wp2
        refine hT _ _ rfl (by first | exact Rg.Keep.refl _ | exact below_of_dr hw2 | exact hw2 | exact (Below.refl _ _).alloc (Nat.le_refl _) _) ?_
        simp only [Rg.last, List.getElem?_toArray, List.getElem?_cons_succ, List.getElem?_cons_zero, Option.getD_some]
        rfl
      refine' Rg.op_is _ [2, 3] rfl rfl (by kernel_rfl) ?_ ?_
      rotate_left
      · intro wx hb
        refine Rg.from_is (some 18) rfl rfl ?_
        refine Rg.from_is (some 19) rfl rfl ?_
        refine Rg.from_nil fun T hT => ?_
        go_wp2
        refine hT _ _ rfl (by first | exact Rg.Keep.refl _ | exact below_of_dr hw2 | exact hw2 | exact (Below.refl _ _).alloc (Nat.le_refl _) _) ?_
        simp only [Rg.last, List.getElem?_toArray, List.getElem?_cons_succ, List.getElem?_cons_zero, Option.getD_some]
        rfl
      refine' Rg.op_is _ [4] rfl rfl (by kernel_rfl) ?_ ?_
      rotate_left
      · intro wx hb
        refine Rg.from_is (some 20) rfl rfl ?_
        refine Rg.from_nil fun T hT => ?_
        go_wp2
        refine hT _ _ rfl (by first | exact Rg.Keep.refl _ | exact below_of_dr hw2 | exact hw2 | exact (Below.refl _ _).alloc (Nat.le_refl _) _) ?_
        simp only [Rg.last, List.getElem?_toArray, List.getElem?_cons_succ, List.getElem?_cons_zero, Option.getD_some]
        rfl
      refine Rg.op_is (.int .i64 a.id) [5] rfl rfl (by kernel_rfl) ?_ ?_
      · intro wx hb
        refine Rg.from_is (some 21) rfl rfl ?_
        refine Rg.from_nil fun T hT => ?_
        have c3 := (hb.cell (lt_of_cell ca)).trans ca
        go_wp2
        exact hT _ _ rfl (by first | exact Rg.Keep.refl _ | exact below_of_dr hw2 | exact hw2 | exact (Below.refl _ _).alloc (Nat.le_refl _) _) (by first | rfl | exact congrArg _ (by decide))
      refine' Rg.op_is _ [] rfl rfl (by kernel_rfl) ?_ ?_
      rotate_left
      · intro wx hb
        refine Rg.from_nil fun T hT => ?_
        go_wp2
        refine hT _ _ rfl (by first | exact Rg.Keep.refl _ | exact below_of_dr hw2 | exact hw2 | exact (Below.refl _ _).alloc (Nat.le_refl _) _) ?_
        simp only [Rg.last, List.getElem?_toArray, List.getElem?_cons_succ, List.getElem?_cons_zero, Option.getD_some]
        rfl
      refine' Rg.op_is _ [] rfl rfl (by kernel_rfl) ?_ ?_
      rotate_left
      · intro wx hb
        refine Rg.from_nil fun T hT => ?_
        go_wp2
        refine hT _ _ rfl (by first | exact Rg.Keep.refl _ | exact below_of_dr hw2 | exact hw2 | exact (Below.refl _ _).alloc (Nat.le_refl _) _) ?_
        simp only [Rg.last, List.getElem?_toArray, List.getElem?_cons_succ, List.getElem?_cons_zero, Option.getD_some]
        rfl
      refine' Rg.op_is _ [7, 8] rfl rfl (by kernel_rfl) ?_ ?_
      rotate_left
      · intro wx hb
        refine Rg.from_is (some 23) rfl rfl ?_
        refine Rg.from_is (some 24) rfl rfl ?_
        refine Rg.from_nil fun T hT => ?_
        go_wp2
        refine hT _ _ rfl (by first | exact Rg.Keep.refl _ | exact below_of_dr hw2 | exact hw2 | exact (Below.refl _ _).alloc (Nat.le_refl _) _) ?_
        simp only [Rg.last, List.getElem?_toArray, List.getElem?_cons_succ, List.getElem?_cons_zero, Option.getD_some]
        rfl
      refine' Rg.op_is _ [9] rfl rfl (by kernel_rfl) ?_ ?_
      rotate_left
      · intro wx hb
        refine Rg.from_is (some 25) rfl rfl ?_
        refine Rg.from_nil fun T hT => ?_
        go_wp2
        refine hT _ _ rfl (by first | exact Rg.Keep.refl _ | exact below_of_dr hw2 | exact hw2 | exact (Below.refl _ _).alloc (Nat.le_refl _) _) ?_
        simp only [Rg.last, List.getElem?_toArray, List.getElem?_cons_succ, List.getElem?_cons_zero, Option.getD_some]
        rfl
      refine Rg.op_is (.slice A' a.x.length c') [10] rfl rfl (by kernel_rfl) ?_ ?_
      · intro wx hb
        refine Rg.from_is (some 26) rfl rfl ?_
        refine Rg.from_nil fun T hT => ?_
        have c3 := (hb.cell (lt_of_cell cx)).trans cx
        go_wp2
        exact hT _ _ rfl (by first | exact Rg.Keep.refl _ | exact below_of_dr hw2 | exact hw2 | exact (Below.refl _ _).alloc (Nat.le_refl _) _) (by first | rfl | exact congrArg _ (by decide))
      refine Rg.op_of (fun w' v => PutV p s a w.heap.size w' v) [0, 1, 6, 11] rfl ?_ ?_ rfl (by kernel_rfl) ?_ ?_
      · exact fun w1 w2 v hk h => h.below hk
      · exact fun w1 w2 v hk h => h.below hk
      · intro wx hb
        refine Rg.from_is (some 16) rfl rfl ?_
        refine Rg.from_is (some 17) rfl rfl ?_
        refine Rg.from_is (some 22) rfl rfl ?_
        refine Rg.from_is (some 27) rfl rfl ?_
        refine Rg.from_nil fun T hT => ?_
        go_wp2_with (fail)
        refine (aput_c p hp A2 s c2 a.id A' a.x c' _ (hA2.below hb) hok (hcs.below hb) (by omega) hax (hTab.below hb)).mono ?_
        rintro e w4 ⟨v, rfl, g1, g2, hw2⟩
        have hpv : PutV p s a w.heap.size w4 (.tuple #[v, .int .i64 (queryP p s a.id a.x)]) := ⟨v, rfl, fun h => (g1 h).from_ (by have h1 := hbw.size; have h2 := hb.size; omega), g2⟩
        clear g1 g2
        go_wp2
        exact hT _ _ rfl hw2 hpv
      refine Rg.op_of (fun w' v => PutV p s a w.heap.size w' v) [12] rfl ?_ ?_ rfl (by kernel_rfl) ?_ ?_
      · exact fun w1 w2 v hk h => h.below hk
      · exact fun w1 w2 v hk h => h.below hk
      · intro wx hb
        refine Rg.from_of (some 28) rfl rfl fun v28 h28 => ?_
        refine Rg.from_nil fun T hT => ?_
        have h := h28
        go_wp2
        exact hT _ _ rfl (Below.refl _ _) h
      refine Rg.op_of (fun w' v => NextV p s a w.heap.size w' v) [13] rfl ?_ ?_ rfl (by kernel_rfl) ?_ ?_
      · exact fun w1 w2 v hk h => h.below hk
      · exact fun w1 w2 v hk h => h.below hk
      · intro wx hb
        refine Rg.from_of (some 15) rfl rfl fun v15 h15 => ?_
        refine Rg.from_nil fun T hT => ?_
        obtain ⟨v', rfl, h⟩ := h15
        go_wp2
        exact hT _ _ rfl (Below.refl _ _) h
      refine Rg.op_is (.int .i64 E) [13] rfl rfl (by kernel_rfl) ?_ ?_
      · intro wx hb
        refine Rg.from_of (some 15) rfl rfl fun v15 h15 => ?_
        refine Rg.from_nil fun T hT => ?_
        obtain ⟨v', rfl, h⟩ := h15
        rw [HE.out]
        go_wp2
        exact hT _ _ rfl (Below.refl _ _) rfl
      refine Rg.op_of (fun w' v => NextV p s a w.heap.size w' v) [14] rfl ?_ ?_ rfl (by kernel_rfl) ?_ ?_
      · exact fun w1 w2 v hk h => h.below hk
      · exact fun w1 w2 v hk h => h.below hk
      · intro wx hb
        refine Rg.from_of (some 29) rfl rfl fun v29 h29 => ?_
        refine Rg.from_nil fun T hT => ?_
        have h := h29
        go_wp2
        exact hT _ _ rfl (Below.refl _ _) h
      refine Rg.walk_nil [0, 1, 2, 3, 4, 5, 6, 7, 8, 9, 10, 11, 12, 13, 14, 15, 16] (by kernel_rfl) ?_
      intro wx hb
      refine Rg.from_is (some 16) rfl rfl ?_
      refine Rg.from_is (some 17) rfl rfl ?_
      refine Rg.from_is (some 18) rfl rfl ?_
      refine Rg.from_is (some 19) rfl rfl ?_
      refine Rg.from_is (some 20) rfl rfl ?_
      refine Rg.from_is (some 21) rfl rfl ?_
      refine Rg.from_is (some 22) rfl rfl ?_
      refine Rg.from_is (some 23) rfl rfl ?_
      refine Rg.from_is (some 24) rfl rfl ?_
      refine Rg.from_is (some 25) rfl rfl ?_
      refine Rg.from_is (some 26) rfl rfl ?_
      refine Rg.from_is (some 27) rfl rfl ?_
      refine Rg.from_of (some 28) rfl rfl fun v28 h28 => ?_
      refine Rg.from_of (some 15) rfl rfl fun v15 h15 => ?_
      refine Rg.from_of (some 29) rfl rfl fun v29 h29 => ?_
      refine Rg.from_is (some 30) rfl rfl ?_
      refine Rg.from_of (some 7) rfl rfl fun v7 h7 => ?_
      refine Rg.from_nil ?_
      simp only [List.map, Act.put, List.setIfInBounds_toArray, List.set_cons_zero, List.set_cons_succ]
      have hO2 := hO.below hb
      have hP2 := hP.below hb
      have hb2 := below_next hbw hbw.size hb
      have hN := h7
      clear h28 h15 h29 h7 hO hP hbw
      by_cases hE0 : E = 0
      · subst hE0
        have HN := hid (And.intro (show OwnA wx w.heap.size v7 (playL p (l.take (k + 1))) by rw [HS.out, HSt.out, if_pos HE.out]; exact hN.1 HE.out) (And.intro hP2 hb2))
        clear hN hO2 hP2 hb2
        go_wp2
        go_roundw
        case rel => exact ⟨k + 1, by go_num, by omega, HN⟩
        case measure => simp [intOf]; omega
      · have hbe : (E == 0) = false := by simpa using hE0
        have HN := hid (And.intro (show OwnA wx w.heap.size (.slice A2 s.length c2) (playL p (l.take (k + 1))) by rw [HS.out, HSt.out, if_neg (by rw [HE.out]; exact hE0)]; exact hO2) (And.intro hP2 hb2))
        clear hN hO2 hP2 hb2
        go_wp2
        go_roundw
        case rel => exact ⟨k + 1, by go_num, by omega, HN⟩
        case measure => simp [intOf]; omega
    · obtain rfl : k = l.length := by omega
      rw [List.take_length] at HI
      go_wp2
      go_ret
      exact ⟨_, rfl, HI.out.1, HI.out.2.2⟩
end Go.Proofs.YtpdgalclnlbeaaaDoor
end

section
namespace Go.Proofs.YtpdgalclnlbeaaaDoor
open Go Go.RowKit Go.Maps Go.Shelf Go.Proofs
attribute [local go_sem] Oper.semAt_some
theorem RowV.below {w w' : World} {v : Value} {l : List Int} (h : RowV w v l) (hb : Below w.heap.size w w') : RowV w' v l := h.keep fun _ hp => hb.cell hp
theorem NumsE.own {xs : List Int} {en : Int} {w w' : World} {e : Ending} (h : NumsE xs en w e w') : ∃ A c, e = .returned (.tuple #[.slice A xs.length c, .int .i64 en]) ∧ Cells w' A (u64v xs) ∧ Below w.heap.size w w' := by
  obtain ⟨v, rfl, ho, hb⟩ := h
  obtain ⟨A, c, rfl, hc⟩ := ho.form
  exact ⟨A, c, by rw [List.length_map], hc, hb⟩
end Go.Proofs.YtpdgalclnlbeaaaDoor
end

section
namespace Go.Proofs.YtpdgalclnlbeaaaDoor
open Go Go.RowKit
/-- 'append(s, l...)': l may be nothing. -/
theorem wp_more {P : Program} {t e : TypeId} {z : Value} {bytes : Nat} (E : Elt P t e z bytes) (wr : World) {o : Oper} {a : Act} {K : Act → World → Prop} {Q : Exit → Act → World → Prop}
    (s x : Operand) (hop : o.op = .call { callee := .builtin .append, args := #[s, x], argTypes := #[t, t] })
    (base : Nat) {v : Value} {xs : List Value} (hown : Own wr base e v xs) (hs : a.eval s = v) {A : Option Addr} {c : Nat} {news : List Value} (hnew : Cells wr A news) (hx : a.eval x = .slice A news.length c) (h1 : ∀ u ∈ news, u.oneCell' = true)
    (hb : (xs.length + news.length) * bytes ≤ 140737488355328) (hm : xs.length + news.length ≤ 9223372036854775807) (hbase : base ≤ wr.heap.size)
    (hK : ∀ v' w', Own w' base e v' (xs ++ news) → Below base wr w' → K (a.put o.dst v') w') :
    o.wp P a wr K Q := by
  obtain ⟨i, hi, hz, hsz, hby⟩ := E.info
  by_cases h0 : news = []
  · subst h0
    have hsrc : Src P i.size t (.slice A ([] : List Value).length c) 0 [] wr := by
      cases A with
      | none => exact Src.ofNil wr E.under c
      | some A => exact Src.ofSlice wr E.under A 0 c [] (by simp) (fun j u hu => by simp at hu) (fun u hu => by cases hu)
    have key : ∀ (A0 : Option Addr) (n cap : Nat), v = .slice A0 n cap → n ≤ cap → o.wp P a wr K Q := fun A0 n cap e1 hle => by
      have hrun := run_append_nothing (P := P) wr t t o.type e i E.under hi A0 n cap hle _ hsrc
      unfold Oper.wp
      rw [e1] at hs
      simp only [List.length_nil] at hx hrun
      simp [execOp, hop, resolve, invoke, builtin, hs, hx, hrun, Result.andThen]
      have := hK v wr (by rw [List.append_nil]; exact hown) (Below.refl _ _)
      rwa [e1] at this
    rcases hown.2 with ⟨h2, h3⟩ | ⟨g, cap, cur, h2, hb2, hg2, hn, hm2, hs2, ht⟩
    · exact key none 0 0 h2 (Nat.le_refl _)
    · refine key _ _ cap h2 ?_
      first | exact hn | exact hm2 | omega
  · rcases hnew with h | ⟨b, off, rfl, hc⟩
    · exact absurd h h0
    · refine wp_append_own (P := P) wr s x t hop base e i z 1 bytes E.under hi hz hsz hby E.one (by decide) v xs.length xs hs hown ⟨b, off, none⟩ news.length c news hx (by omega) (fun j u hu => ?_) h1 (by unfold maxLen; omega) hb hbase ?_
      · have hadd : (⟨b, off, none⟩ : Addr).add j = ⟨b, off + j, none⟩ := by unfold Addr.add; split <;> simp_all
        rw [hadd]
        exact hc j u hu
      · intro v' w' h2 h3 _
        refine hK v' w' ?_ ((Below.refl _ _).grown h3 hbase fun k hk => (hown.block k hk).1)
        unfold Own; rw [List.length_append]; exact h2
theorem wpList_more {P : Program} {t e : TypeId} {z : Value} {bytes : Nat} (E : Elt P t e z bytes) (wr : World) {ops : Array Oper} {rest : List Oper} {o : Oper} {a : Act} {Q : Exit → Act → World → Prop}
    (hg : Region.wanted o (yielded ops a.tmps) = true) (s x : Operand) (hop : o.op = .call { callee := .builtin .append, args := #[s, x], argTypes := #[t, t] })
    (base : Nat) {v : Value} {xs : List Value} (hown : Own wr base e v xs) (hs : a.eval s = v) {A : Option Addr} {c : Nat} {news : List Value} (hnew : Cells wr A news) (hx : a.eval x = .slice A news.length c) (h1 : ∀ u ∈ news, u.oneCell' = true)
    (hb : (xs.length + news.length) * bytes ≤ 140737488355328) (hm : xs.length + news.length ≤ 9223372036854775807) (hbase : base ≤ wr.heap.size)
    (hK : ∀ v' w', Own w' base e v' (xs ++ news) → Below base wr w' → wpList P ops Q rest (a.put o.dst v') w') :
    wpList P ops Q (o :: rest) a wr := by
  refine wpList_step fun K hK' => ?_
  rw [if_pos hg]
  exact wp_more E wr s x hop base hown hs hnew hx h1 hb hm hbase fun v' w' h2 h3 => hK' _ _ (hK v' w' h2 h3)
end Go.Proofs.YtpdgalclnlbeaaaDoor
end

section
namespace Go.Proofs.YtpdgalclnlbeaaaDoor
open Go Go.RowKit Go.Maps Go.Shelf Go.Proofs
/-- the slice at A reads as these lists of rows. -/
def Grids (w : World) (A : Option Addr) (fs : List (List (List Int))) : Prop :=
  ∃ vs : List Value, Cells w A vs ∧ vs.length = fs.length ∧ ∀ (i : Nat) (f : List (List Int)), fs[i]? = some f → ∃ A' c', vs[i]? = some (.slice A' f.length c') ∧ Grid w A' f ∧ f.length ≤ 9223372036854775807
theorem Grids.at_ {w : World} {A : Option Addr} {fs : List (List (List Int))} (h : Grids w A fs) {k : Nat} {f : List (List Int)} (hk : fs[k]? = some f) :
    ∃ b off A' c, A = some ⟨b, off, none⟩ ∧ w.cell? ⟨b, off + k, none⟩ = some (.slice A' f.length c) ∧ Grid w A' f ∧ f.length ≤ 9223372036854775807 := by
  obtain ⟨vs, h1, h2, h3⟩ := h
  obtain ⟨A', c, hv, hg, hl⟩ := h3 k f hk
  obtain ⟨b, off, rfl, hcell⟩ := h1.at_ hv
  exact ⟨b, off, A', c, rfl, hcell, hg, hl⟩
theorem Grids.dr {w w' : World} {A : Option Addr} {fs : List (List (List Int))} (h : Grids w A fs) (hd : Dr w w') : Grids w' A fs := by
  obtain ⟨n, rfl⟩ := hd; exact h
/-- few rows, and short ones. -/
def Few (f : List (List Int)) : Prop := f.length ≤ 20 ∧ ∀ l ∈ f, l.length ≤ 20
end Go.Proofs.YtpdgalclnlbeaaaDoor
end

section
namespace Go.Lin
/-- numbers modulo N of which each but 0 has an inverse. -/
structure Fld (N : Nat) [NeZero N] : Prop where
  one : (1 : Fin N) ≠ 0
  inv : ∀ x : Fin N, x ≠ 0 → ∃ y, x * y = 1
variable {N : Nat} [NeZero N]
abbrev V (N : Nat) := Nat → Fin N
/-- what hangs on rows. -/
inductive Sp (R : List (V N)) : V N → Prop
  | zero : Sp R (fun _ => 0)
  | add {r u v : V N} (c : Fin N) : r ∈ R → Sp R u → (∀ j, v j = c * r j + u j) → Sp R v
theorem Sp.of_eq {R : List (V N)} {u v : V N} (h : Sp R u) (e : ∀ j, v j = u j) : Sp R v := by
  have : v = u := funext e
  rw [this]; exact h
theorem Sp.mem {R : List (V N)} {r : V N} (h : r ∈ R) : Sp R r := .add 1 h .zero fun j => by grind
theorem Sp.comb {R : List (V N)} {u v w : V N} (c : Fin N) (hu : Sp R u) (hv : Sp R v) (e : ∀ j, w j = c * u j + v j) : Sp R w := by
  induction hu generalizing w with
  | zero => exact hv.of_eq fun j => by have := e j; grind
  | add d hr _ hd ih =>
    rename_i r u' u _
    exact Sp.add (u := fun j => c * u' j + v j) (c * d) hr (ih fun j => rfl) fun j => by
      have h1 := e j
      have h2 := hd j
      grind
theorem Sp.trans {R R' : List (V N)} (h : ∀ r ∈ R, Sp R' r) {v : V N} (hv : Sp R v) : Sp R' v := by
  induction hv with
  | zero => exact .zero
  | add c hr _ e ih => exact (h _ hr).comb c ih e
theorem Sp.mono {R R' : List (V N)} (h : ∀ r ∈ R, r ∈ R') {v : V N} (hv : Sp R v) : Sp R' v := Sp.trans (fun r hr => Sp.mem (h r hr)) hv
theorem Sp.nil {v : V N} (h : Sp [] v) (j : Nat) : v j = 0 := by
  cases h with
  | zero => rfl
  | add c hr _ _ => cases hr
theorem Sp.split {r : V N} {R : List (V N)} {v : V N} (h : Sp (r :: R) v) : ∃ c u, Sp R u ∧ ∀ j, v j = c * r j + u j := by
  induction h with
  | zero => exact ⟨0, fun _ => 0, .zero, fun j => by grind⟩
  | add c hr _ e ih =>
    obtain ⟨d, u, hu, h2⟩ := ih
    rename_i r' u' v' _
    rcases List.mem_cons.1 hr with rfl | hr
    · exact ⟨c + d, u, hu, fun j => by have := e j; have := h2 j; grind⟩
    · exact ⟨d, fun j => c * r' j + u j, .add c hr hu fun j => rfl, fun j => by have := e j; have := h2 j; grind⟩
/-- what all rows have 0 at, all that hangs on them has. -/
theorem Sp.at_zero {R : List (V N)} {v : V N} {k : Nat} (h : Sp R v) (hz : ∀ r ∈ R, r k = 0) : v k = 0 := by
  induction h with
  | zero => rfl
  | add c hr _ e ih => have := e k; have := hz _ hr; grind
/-- rows with a place each: 1 there, 0 where the others have theirs. -/
structure Ech (L : List (Nat × V N)) : Prop where
  one : ∀ e ∈ L, e.2 e.1 = 1
  off : L.Pairwise fun e e' => e.2 e'.1 = 0 ∧ e'.2 e.1 = 0
theorem Ech.nil : Ech ([] : List (Nat × V N)) := ⟨fun e h => (by cases h), .nil⟩
theorem Ech.tail {e : Nat × V N} {L : List (Nat × V N)} (h : Ech (e :: L)) : Ech L := ⟨fun x hx => h.one x (List.mem_cons_of_mem _ hx), (List.pairwise_cons.1 h.off).2⟩
theorem Ech.rep {L : List (Nat × V N)} (h : Ech L) {v : V N} (hv : Sp (L.map (·.2)) v) (j : Nat) : v j = (L.map fun e => v e.1 * e.2 j).sum := by
  induction L generalizing v with
  | nil => exact hv.nil j
  | cons e L ih =>
    obtain ⟨c, u, hu, h2⟩ := Sp.split hv
    have h3 := ih h.tail hu
    have ho := (List.pairwise_cons.1 h.off).1
    have h4 : u e.1 = 0 := hu.at_zero fun r hr => by
      obtain ⟨x, hx, rfl⟩ := List.mem_map.1 hr
      exact (ho x hx).2
    have h5 : v e.1 = c := by
      have h6 := h2 e.1
      have h7 := h.one e List.mem_cons_self
      grind
    rw [List.map_cons, List.sum_cons, h5, h2 j, h3]
    congr 1
    congr 1
    refine List.map_congr_left fun x hx => ?_
    have h6 := h2 x.1
    have h7 := (ho x hx).1
    grind
theorem Ech.zero {L : List (Nat × V N)} (h : Ech L) {v : V N} (hv : Sp (L.map (·.2)) v) (hz : ∀ e ∈ L, v e.1 = 0) (j : Nat) : v j = 0 := by
  rw [h.rep hv j]
  have : ∀ l : List (Nat × V N), (∀ e ∈ l, v e.1 = 0) → (l.map fun e => v e.1 * e.2 j).sum = 0 := by
    intro l
    induction l with
    | nil => intro _; rfl
    | cons e l ih =>
      intro h
      rw [List.map_cons, List.sum_cons, ih fun x hx => h x (List.mem_cons_of_mem _ hx), h e List.mem_cons_self]
      grind
  exact this L hz
/-- no more rows with places than the rows they hang on. -/
theorem Ech.le (F : Fld N) : ∀ (R : List (V N)) (L : List (Nat × V N)), Ech L → (∀ e ∈ L, Sp R e.2) → L.length ≤ R.length
  | [], L, h, hs => by
    cases L with
    | nil => simp
    | cons e L =>
      exfalso
      have h1 := h.one e List.mem_cons_self
      rw [(hs e List.mem_cons_self).nil] at h1
      exact F.one h1.symm
  | r :: R, L, h, hs => by
    by_cases hall : ∀ e ∈ L, Sp R e.2
    · have := Ech.le F R L h hall
      rw [List.length_cons]; omega
    · obtain ⟨e0, hn⟩ := Classical.not_forall.1 hall
      obtain ⟨he0, hne⟩ := Classical.not_imp.1 hn
      obtain ⟨A, B, rfl⟩ := List.append_of_mem he0
      obtain ⟨c0, u0, hu0, h0⟩ := (hs e0 he0).split
      have hc0 : c0 ≠ 0 := fun hc => hne (hu0.of_eq fun j => by have := h0 j; rw [hc] at this; grind)
      obtain ⟨y0, hy⟩ := F.inv c0 hc0
      have hk : ∀ e : Nat × V N, ∃ k, e ∈ A ++ e0 :: B → Sp R fun j => e.2 j - k * e0.2 j := by
        intro e
        by_cases he : e ∈ A ++ e0 :: B
        · obtain ⟨c, u, hu, h1⟩ := (hs e he).split
          refine ⟨c * y0, fun _ => Sp.comb (-(c * y0)) hu0 hu fun j => ?_⟩
          have h2 := h0 j
          have h3 := h1 j
          grind
        · exact ⟨0, fun h => absurd h he⟩
      have hp := List.pairwise_append.1 h.off
      have hp2 := List.pairwise_cons.1 hp.2.1
      have hoff : ∀ e ∈ A ++ B, e.2 e0.1 = 0 ∧ e0.2 e.1 = 0 := by
        intro e he
        rcases List.mem_append.1 he with h1 | h1
        · exact hp.2.2 e h1 e0 List.mem_cons_self
        · exact (hp2.1 e h1).symm
      have hsub : ∀ e ∈ A ++ B, e ∈ A ++ e0 :: B := by
        intro e he
        rcases List.mem_append.1 he with h1 | h1
        · exact List.mem_append_left _ h1
        · exact List.mem_append_right _ (List.mem_cons_of_mem _ h1)
      have hpw : (A ++ B).Pairwise fun e e' => e.2 e'.1 = 0 ∧ e'.2 e.1 = 0 :=
        List.pairwise_append.2 ⟨hp.1, hp2.2, fun a ha b hb => hp.2.2 a ha b (List.mem_cons_of_mem _ hb)⟩
      have hE : Ech ((A ++ B).map fun e => (e.1, fun j => e.2 j - Classical.choose (hk e) * e0.2 j)) := by
        refine ⟨fun x hx => ?_, ?_⟩
        · obtain ⟨e, he, rfl⟩ := List.mem_map.1 hx
          show e.2 e.1 - _ * e0.2 e.1 = 1
          have h1 := h.one e (hsub e he)
          have h2 := (hoff e he).2
          grind
        · rw [List.pairwise_map]
          refine hpw.imp_of_mem fun {a b} ha hb hab => ?_
          have h1 := (hoff a ha).2
          have h2 := (hoff b hb).2
          constructor
          · show a.2 b.1 - _ * e0.2 b.1 = 0
            have := hab.1
            grind
          · show b.2 a.1 - _ * e0.2 a.1 = 0
            have := hab.2
            grind
      have := Ech.le F R _ hE fun x hx => by
        obtain ⟨e, he, rfl⟩ := List.mem_map.1 hx
        exact Classical.choose_spec (hk e) (hsub e he)
      rw [List.length_map, List.length_append] at this
      rw [List.length_append, List.length_cons, List.length_cons]
      omega
/-- rows R have the rank n. -/
structure Bas (R : List (V N)) (L : List (Nat × V N)) : Prop where
  ech : Ech L
  sub : ∀ e ∈ L, Sp R e.2
  all : ∀ r ∈ R, Sp (L.map (·.2)) r
def Rk (R : List (V N)) (n : Nat) : Prop := ∃ L, Bas R L ∧ L.length = n
theorem Bas.sp {R : List (V N)} {L : List (Nat × V N)} (h : Bas R L) {v : V N} : Sp (L.map (·.2)) v ↔ Sp R v :=
  ⟨fun k => k.trans fun r hr => by obtain ⟨e, he, rfl⟩ := List.mem_map.1 hr; exact h.sub e he, fun k => k.trans h.all⟩
theorem Rk.le (F : Fld N) {R R' : List (V N)} {n m : Nat} (h : Rk R n) (h' : Rk R' m) (hs : ∀ r ∈ R, Sp R' r) : n ≤ m := by
  obtain ⟨L, hL, rfl⟩ := h
  obtain ⟨L', hL', rfl⟩ := h'
  have := Ech.le F (L'.map (·.2)) L hL.ech fun e he => hL'.sp.2 ((hL.sub e he).trans hs)
  rwa [List.length_map] at this
theorem Rk.eq (F : Fld N) {R R' : List (V N)} {n m : Nat} (h : Rk R n) (h' : Rk R' m) (hs : ∀ r ∈ R, Sp R' r) (hs' : ∀ r ∈ R', Sp R r) : n = m :=
  Nat.le_antisymm (h.le F h' hs) (h'.le F h hs')
theorem Rk.unique (F : Fld N) {R : List (V N)} {n m : Nat} (h : Rk R n) (h' : Rk R m) : n = m := h.eq F h' (fun _ hr => Sp.mem hr) fun _ hr => Sp.mem hr
theorem Rk.le_of (F : Fld N) {R R' : List (V N)} {n : Nat} (h : Rk R n) (hs : ∀ r ∈ R, Sp R' r) : n ≤ R'.length := by
  obtain ⟨L, hL, rfl⟩ := h
  exact Ech.le F R' L hL.ech fun e he => (hL.sub e he).trans hs
theorem Rk.le_len (F : Fld N) {R : List (V N)} {n : Nat} (h : Rk R n) : n ≤ R.length := h.le_of F fun _ hr => Sp.mem hr
theorem Rk.congr {R R' : List (V N)} {n : Nat} (h : Rk R n) (hs : ∀ r ∈ R, Sp R' r) (hs' : ∀ r ∈ R', Sp R r) : Rk R' n := by
  obtain ⟨L, hL, rfl⟩ := h
  exact ⟨L, ⟨hL.ech, fun e he => (hL.sub e he).trans hs, fun r hr => hL.sp.2 (hs' r hr)⟩, rfl⟩
theorem Rk.nil : Rk ([] : List (V N)) 0 := ⟨[], ⟨.nil, fun e h => (by cases h), fun r h => (by cases h)⟩, rfl⟩
/-- what is left of a row. -/
def red (L : List (Nat × V N)) (v : V N) : V N := fun j => v j - (L.map fun e => v e.1 * e.2 j).sum
theorem sum_sp (v : V N) : ∀ L : List (Nat × V N), Sp (L.map (·.2)) fun j => (L.map fun e => v e.1 * e.2 j).sum
  | [] => .zero
  | e :: L => Sp.add (v e.1) (List.mem_cons_self (l := L.map (·.2))) ((sum_sp v L).mono fun _r hr => List.mem_cons_of_mem _ hr) fun _j => rfl
theorem sum_at {L : List (Nat × V N)} (h : Ech L) (v : V N) {e : Nat × V N} (he : e ∈ L) : (L.map fun x => v x.1 * x.2 e.1).sum = v e.1 := by
  induction L with
  | nil => cases he
  | cons x L ih =>
    have ho := (List.pairwise_cons.1 h.off).1
    rw [List.map_cons, List.sum_cons]
    rcases List.mem_cons.1 he with rfl | he
    · have h1 : ∀ l : List (Nat × V N), (∀ x ∈ l, x.2 e.1 = 0) → (l.map fun x => v x.1 * x.2 e.1).sum = 0 := by
        intro l
        induction l with
        | nil => intro _; rfl
        | cons x l ih =>
          intro h
          rw [List.map_cons, List.sum_cons, ih fun y hy => h y (List.mem_cons_of_mem _ hy), h x List.mem_cons_self]
          grind
      rw [h1 L fun x hx => (ho x hx).2, h.one e List.mem_cons_self]
      grind
    · rw [ih h.tail he, (ho e he).1]
      grind
theorem red_at {L : List (Nat × V N)} (h : Ech L) (v : V N) {e : Nat × V N} (he : e ∈ L) : red L v e.1 = 0 := by
  unfold red
  rw [sum_at h v he]
  grind
theorem red_sp (L : List (Nat × V N)) (v : V N) (h : ∀ j, red L v j = 0) : Sp (L.map (·.2)) v := (sum_sp v L).of_eq fun j => by
  have := h j
  unfold red at this
  grind
theorem red_back {R : List (V N)} {L : List (Nat × V N)} (hL : Bas R L) (v : V N) : Sp (v :: R) (red L v) := by
  refine Sp.comb (-1) (hL.sp.1 (sum_sp v L) |>.mono fun r hr => List.mem_cons_of_mem _ hr) (Sp.mem (r := v) List.mem_cons_self) fun j => ?_
  unfold red
  grind
theorem Bas.snoc {R : List (V N)} {L : List (Nat × V N)} (hL : Bas R L) {v : V N} {k : Nat} {y : Fin N} (hy : red L v k * y = 1) :
    Bas (v :: R) ((k, fun j => y * red L v j) :: L.map fun e => (e.1, fun j => e.2 j - e.2 k * (y * red L v j))) := by
  have hv1 : Sp (v :: R) fun j => y * red L v j := Sp.comb y (red_back hL v) .zero fun j => by grind
  have h0 : ∀ e ∈ L, red L v e.1 = 0 := fun e he => red_at hL.ech v he
  refine ⟨⟨?_, ?_⟩, ?_, ?_⟩
  · intro x hx
    rcases List.mem_cons.1 hx with rfl | hx
    · show y * red L v k = 1
      grind
    · obtain ⟨e, he, rfl⟩ := List.mem_map.1 hx
      show e.2 e.1 - e.2 k * (y * red L v e.1) = 1
      have h1 := hL.ech.one e he
      have h2 := h0 e he
      grind
  · refine List.pairwise_cons.2 ⟨fun x hx => ?_, ?_⟩
    · obtain ⟨e, he, rfl⟩ := List.mem_map.1 hx
      constructor
      · show y * red L v e.1 = 0
        have := h0 e he
        grind
      · show e.2 k - e.2 k * (y * red L v k) = 0
        grind
    · rw [List.pairwise_map]
      refine hL.ech.off.imp_of_mem fun {a b} ha hb hab => ?_
      have h1 := h0 a ha
      have h2 := h0 b hb
      constructor
      · show a.2 b.1 - a.2 k * (y * red L v b.1) = 0
        have := hab.1
        grind
      · show b.2 a.1 - b.2 k * (y * red L v a.1) = 0
        have := hab.2
        grind
  · intro x hx
    rcases List.mem_cons.1 hx with rfl | hx
    · exact hv1
    · obtain ⟨e, he, rfl⟩ := List.mem_map.1 hx
      exact Sp.comb (-(e.2 k)) hv1 ((hL.sub e he).mono fun r hr => List.mem_cons_of_mem _ hr) fun j => by grind
  · have hback : ∀ u, Sp (L.map (·.2)) u → Sp (List.map (·.2) ((k, fun j => y * red L v j) :: L.map fun e => (e.1, fun j => e.2 j - e.2 k * (y * red L v j)))) u := by
      intro u hu
      refine hu.trans fun r hr => ?_
      obtain ⟨e, he, rfl⟩ := List.mem_map.1 hr
      refine Sp.comb (e.2 k) (u := fun j => y * red L v j) (Sp.mem ?_) (v := fun j => e.2 j - e.2 k * (y * red L v j)) (Sp.mem ?_) fun j => by grind
      · exact List.mem_cons_self
      · rw [List.map_cons, List.map_map]
        exact List.mem_cons_of_mem _ (List.mem_map.2 ⟨e, he, rfl⟩)
    intro r hr
    rcases List.mem_cons.1 hr with rfl | hr
    · refine Sp.comb (red L r k) (u := fun j => y * red L r j) (Sp.mem ?_) (hback _ (sum_sp r L)) fun j => ?_
      · exact List.mem_cons_self
      · unfold red at hy ⊢
        grind
    · exact hback _ (hL.all r hr)
theorem Rk.more (F : Fld N) {R : List (V N)} {n : Nat} (h : Rk R n) {v : V N} (hv : ¬ Sp R v) : Rk (v :: R) (n + 1) := by
  obtain ⟨L, hL, rfl⟩ := h
  have : ¬ ∀ j, red L v j = 0 := fun h => hv (hL.sp.1 (red_sp L v h))
  obtain ⟨k, hk⟩ := Classical.not_forall.1 this
  obtain ⟨y, hy⟩ := F.inv _ hk
  exact ⟨_, hL.snoc hy, by simp⟩
theorem Rk.same {R : List (V N)} {n : Nat} (h : Rk R n) {v : V N} (hv : Sp R v) : Rk (v :: R) n := h.congr (fun r hr => Sp.mem (List.mem_cons_of_mem _ hr)) fun r hr => by
  rcases List.mem_cons.1 hr with rfl | hr
  · exact hv
  · exact Sp.mem hr
theorem Rk.exists (F : Fld N) : ∀ R : List (V N), ∃ n, Rk R n
  | [] => ⟨0, .nil⟩
  | v :: R => by
    obtain ⟨n, hn⟩ := Rk.exists F R
    by_cases h : Sp R v
    · exact ⟨n, hn.same h⟩
    · exact ⟨n + 1, hn.more F h⟩
/-- THE LAW OF SHARES: a and b and c, and c, are no more than a and c, and b and c. -/
theorem Rk.shared (F : Fld N) (B C : List (V N)) : ∀ (A : List (V N)) {x y z c : Nat}, Rk (A ++ C) x → Rk (B ++ C) y → Rk (A ++ (B ++ C)) z → Rk C c → z + c ≤ x + y
  | [], x, y, z, c, hx, hy, hz, hc => by
    have h1 := hx.unique F hc
    have h2 := hy.unique F hz
    omega
  | a :: A, x, y, z, c, hx, hy, hz, hc => by
    obtain ⟨x', hx'⟩ := Rk.exists F (A ++ C)
    obtain ⟨z', hz'⟩ := Rk.exists F (A ++ (B ++ C))
    have ih := Rk.shared F B C A hx' hy hz' hc
    by_cases h : Sp (A ++ C) a
    · have h1 := hx.unique F (hx'.same h)
      have h2 : Sp (A ++ (B ++ C)) a := h.mono fun r hr => by
        rcases List.mem_append.1 hr with k | k
        · exact List.mem_append_left _ k
        · exact List.mem_append_right _ (List.mem_append_right _ k)
      have h3 := hz.unique F (hz'.same h2)
      omega
    · have h1 := hx.unique F (hx'.more F h)
      by_cases h2 : Sp (A ++ (B ++ C)) a
      · have h3 := hz.unique F (hz'.same h2)
        omega
      · have h3 := hz.unique F (hz'.more F h2)
        omega
/-- COLUMNS have no more rank than rows. -/
theorem Rk.turned (F : Fld N) {M : Nat → Nat → Fin N} {a b n m : Nat} (hb : ∀ i j, a ≤ i → M i j = 0) (hr : Rk ((List.range a).map M) n) (hc : Rk ((List.range b).map fun j i => M i j) m) : m ≤ n := by
  obtain ⟨L, hL, rfl⟩ := hr
  have := hc.le_of F (R' := L.map fun e i => M i e.1) fun r hr => by
    obtain ⟨j, _, rfl⟩ := List.mem_map.1 hr
    have key : ∀ l : List (Nat × V N), Sp (l.map fun e i => M i e.1) fun i => (l.map fun e => M i e.1 * e.2 j).sum := by
      intro l
      induction l with
      | nil => exact .zero
      | cons e l ih =>
        refine Sp.comb (e.2 j) (u := fun i => M i e.1) (Sp.mem List.mem_cons_self) (ih.mono fun r hr => List.mem_cons_of_mem _ hr) fun i => ?_
        rw [List.map_cons, List.sum_cons]
        grind
    refine (key L).of_eq fun i => ?_
    rcases Nat.lt_or_ge i a with h | h
    · exact hL.ech.rep (hL.all (M i) (List.mem_map.2 ⟨i, List.mem_range.2 h, rfl⟩)) j
    · rw [hb i j h]
      have : ∀ l : List (Nat × V N), (l.map fun e => M i e.1 * e.2 j).sum = 0 := by
        intro l
        induction l with
        | nil => rfl
        | cons e l ih => rw [List.map_cons, List.sum_cons, ih, hb i e.1 h]; grind
      rw [this]
  rwa [List.length_map] at this
end Go.Lin
end
