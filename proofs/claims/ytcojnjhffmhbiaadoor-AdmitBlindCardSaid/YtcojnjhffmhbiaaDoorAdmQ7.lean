/-
  Parts of these texts that the statement needs: RaF, AdE, AdF, AdG, AdI.
-/
import Derived.Test.YtcojnjhffmhbiaaDoorAdmQ5
import Derived.Test.YtcojnjhffmhbiaaDoorAdmQ6

section
namespace Go.Proofs.YtcojnjhffmhbiaaDoor
open Go Go.RowKit Go.Maps Go.Shelf Go.Proofs
def SameUpto {α : Type} (la lb : List α) (k : Nat) : Prop := ∀ i, i < k → la[i]? = lb[i]?
theorem SameUpto.step {α : Type} {la lb : List α} {k : Nat} {x : α} (h : SameUpto la lb k) (h1 : la[k]? = some x) (h2 : lb[k]? = some x) : SameUpto la lb (k + 1) := by
  intro i hi
  rcases Nat.lt_or_ge i k with h3 | h3
  · exact h i h3
  · obtain rfl : i = k := by omega
    rw [h1, h2]
theorem SameUpto.all {α : Type} {la lb : List α} (h : SameUpto la lb la.length) (hl : la.length = lb.length) : la = lb := by
  apply List.ext_getElem?
  intro i
  rcases Nat.lt_or_ge i la.length with h1 | h1
  · exact h i h1
  · rw [List.getElem?_eq_none h1, List.getElem?_eq_none (by omega)]
/-- the inverse, by trying all. -/
def invS (q x : Int) : Int := match (List.range q.toNat).find? (fun (y : Nat) => decide ((y : Int) * x % q = 1)) with
  | some y => (y : Int)
  | none => 0
theorem iVal_invS {q : Int} (h : okm q = true) (h2 : 2 ≤ q) (x : Int) : iVal x q = invS q x := by
  unfold invS
  cases hf : (List.range q.toNat).find? (fun (y : Nat) => decide ((y : Int) * x % q = 1)) with
  | some y =>
    have h1 := List.find?_some hf
    have h3 := List.mem_range.1 (List.mem_of_find?_eq_some hf)
    have h1 : (y : Int) * x % q = 1 := by simpa using h1
    show iVal x q = (y : Int)
    refine iVal_is h ⟨by omega, by omega, (y : Int) * x / q, ?_⟩
    have := Int.mul_ediv_add_emod ((y : Int) * x) q
    omega
  | none =>
    refine iVal_none ?_
    rintro ⟨z, z0, z1, k, hk⟩
    rw [List.find?_eq_none] at hf
    refine hf z.toNat (List.mem_range.2 (by omega)) ?_
    have e : ((z.toNat : Nat) : Int) = z := by omega
    simp only [decide_eq_true_eq]
    rw [e, hk, Int.add_mul_emod_self_left]
    exact Int.emod_eq_of_lt (by omega) (by omega)
theorem iv_invS {q : Int} (h : primeV q = true) : iv q = invS q := funext fun x => iVal_invS (okm_prime h).1 (okm_prime h).2 x
theorem rankV_at {f : List (List Int)} {q : Int} (h : primeV q = true) : rankV f q = rankL q (invS q) f := by
  unfold rankV
  rw [if_pos h, iv_invS h]
theorem rankV_no {f : List (List Int)} {q : Int} (h : primeV q = false) : rankV f q = 0 := by
  unfold rankV
  rw [if_neg (by rw [h]; decide)]
theorem hangsV_at {f : List (List Int)} {row : List Int} {q : Int} (h : primeV q = true) : hangsV f row q = hangsL q (invS q) f row := by
  unfold hangsV
  rw [h, iv_invS h]; rfl
theorem hangsV_no {f : List (List Int)} {row : List Int} {q : Int} (h : primeV q = false) : hangsV f row q = false := by
  unfold hangsV
  rw [h]; rfl
/-- rows, one by one. -/
def RowsV (w : World) : List Value → List (List Int) → Prop
  | [], [] => True
  | v :: vs, l :: f => RowV w v l ∧ RowsV w vs f
  | _, _ => False
theorem RowsV.len {w : World} : ∀ {vs : List Value} {f : List (List Int)}, RowsV w vs f → vs.length = f.length
  | [], [], _ => rfl
  | _ :: _, _ :: _, h => by rw [List.length_cons, List.length_cons, RowsV.len h.2]
theorem RowsV.at_ {w : World} : ∀ {vs : List Value} {f : List (List Int)} (_ : RowsV w vs f) (i : Nat) (l : List Int), f[i]? = some l → ∃ v, vs[i]? = some v ∧ RowV w v l
  | v :: _, l' :: _, h, 0, l, hl => ⟨v, rfl, by obtain rfl : l' = l := by simpa using hl
                                                exact h.1⟩
  | _ :: _, _ :: _, h, i + 1, l, hl => by
    obtain ⟨v, h1, h2⟩ := RowsV.at_ h.2 i l (by simpa using hl)
    exact ⟨v, by simpa using h1, h2⟩
  | [], [], _, i, l, hl => by simp at hl
theorem p2 : primeV 2 = true := by decide +kernel
theorem p3 : primeV 3 = true := by decide +kernel
theorem p5 : primeV 5 = true := by decide +kernel
theorem hg1 : hangsV [[1, 2]] [3, 6] 7 = true := by rw [hangsV_at prime_7]; decide +kernel
theorem hg2 : hangsV [] [0, 0] 7 = true := by rw [hangsV_at prime_7]; decide +kernel
theorem hg3 : hangsV [[1, 2]] [1] 7 = false := by rw [hangsV_at prime_7]; decide +kernel
end Go.Proofs.YtcojnjhffmhbiaaDoor
end

section
namespace Go.Proofs.YtcojnjhffmhbiaaDoor
open Go Go.RowKit Go.Maps Go.Shelf Go.Proofs
attribute [local go_sem] Oper.semAt_some
def rankC (f : List (List Int)) (q : Int) : Nat := if primeV q = true then rankL q (invS q) f else 0
theorem rankV_C (f : List (List Int)) (q : Int) : rankV f q = rankC f q := by
  unfold rankC
  by_cases h : primeV q = true
  · rw [if_pos h, rankV_at h]
  · rw [if_neg h, rankV_no (by simpa using h)]
def hangsC (f : List (List Int)) (row : List Int) (q : Int) : Bool := if primeV q = true then hangsL q (invS q) f row else false
theorem hangsV_C (f : List (List Int)) (row : List Int) (q : Int) : hangsV f row q = hangsC f row q := by
  unfold hangsC
  by_cases h : primeV q = true
  · rw [if_pos h, hangsV_at h]
  · rw [if_neg h, hangsV_no (by simpa using h)]
def queryC (p : Par) (l : List Ask) (id : Int) (x : List Int) : Int :=
  if (decide (queryE p x = 4) || (decide (id < 1) || decide (id > 1099511627776))) = true then 4 else if decide (queryE p x ≠ 0) = true then queryE p x else if hasId l id = true then 6 else if decide (8 ≤ l.length) = true then 41 else if decide ((rankC (rowsP p l [x]) p.Q : Int) > p.R) = true then 22 else 0
theorem queryP_C (p : Par) (l : List Ask) (id : Int) (x : List Int) : queryP p l id x = queryC p l id x := by
  unfold queryP queryC wrongB
  rw [rankV_C]; rfl
theorem rankP_C (p : Par) (l : List Ask) : rankP p l = rankC (rowsP p l []) p.Q := rankV_C _ _
theorem followsP_C (p : Par) (l : List Ask) (x : List Int) : followsP p l x = hangsC (rowsP p l []) (rowS p x) p.Q := hangsV_C _ _ _
def pEx : Par := ⟨0, 11, 0, 0, 0, 0, 0, 1, 2, 1, 1, 3⟩
theorem pEx_ok : pEx.ok := by constructor <;> exact ⟨by decide, by decide⟩
abbrev twoL : List Ask := [⟨1, [1, 0]⟩, ⟨2, [0, 1]⟩]
theorem ex_q1 : queryP pEx [] 1 [1, 0] = 0 := by rw [queryP_C]; decide +kernel
theorem ex_q2 : queryP pEx [⟨1, [1, 0]⟩] 2 [1, 0] = 0 := by rw [queryP_C]; decide +kernel
theorem ex_q3 : queryP pEx [⟨1, [1, 0]⟩] 2 [0, 1] = 22 := by rw [queryP_C]; decide +kernel
theorem ex_q4 : queryP pEx [⟨1, [1, 0]⟩] 1 [0, 1] = 6 := by rw [queryP_C]; decide +kernel
theorem ex_r : rankP pEx twoL = 2 := by rw [rankP_C]; decide +kernel
theorem ex_f1 : followsP pEx twoL [-1, 2] = true := by rw [followsP_C]; decide +kernel
theorem ex_f2 : followsP pEx twoL [1, 1] = false := by rw [followsP_C]; decide +kernel
theorem i64s_of {l : List Int} (h : (l.all fun n => decide (-9223372036854775808 ≤ n) && decide (n < 9223372036854775808)) = true) : I64s l := by
  intro z hz
  have := List.all_eq_true.1 h z hz
  simp only [Bool.and_eq_true, decide_eq_true_eq] at this
  exact this
theorem askOk_of {l : List Ask} (h : (decide (l.length ≤ 1000) && l.all fun a => decide (-9223372036854775808 ≤ a.id) && (decide (a.id < 9223372036854775808) && (decide (a.x.length ≤ 1000000) && a.x.all fun n => decide (-9223372036854775808 ≤ n) && decide (n < 9223372036854775808)))) = true) : AskOk l := by
  simp only [Bool.and_eq_true, decide_eq_true_eq] at h
  have key := fun a ha => List.all_eq_true.1 h.2 a ha
  simp only [Bool.and_eq_true, decide_eq_true_eq] at key
  exact ⟨h.1, fun a ha => ⟨(key a ha).1, (key a ha).2.1⟩, fun a ha => i64s_of (key a ha).2.2.2, fun a ha => (key a ha).2.2.1⟩
theorem rowI_at {w : World} {g : Nat} {e : TypeId} (l : List Int) (h : Row1 w g e (l.map (.int .i64))) (hl : l.length ≤ 1000) : RowI w (.slice (some ⟨g, 0, none⟩) l.length l.length) l := ⟨_, _, rfl, h.cells, by omega⟩
theorem psome_c (w : World) : Calls Tryd.prog 94 #[] w fun e w' => e = .returned (pval pEx) ∧ Below w.heap.size w w' := by
  go_enter Tryd.func94, Tryd.ntmps94
  go_wp2
  refine bodyPost_ret (v := pval pEx) (by simp [results, Tryd.f94, go_sem, pEx]) rfl ⟨rfl, ?_⟩
  exact (Below.refl _ _).alloc (Nat.le_refl _) _
/-- the queries 1 0 and 0 1. -/
def TwoAt (w : World) (g g1 g2 : Nat) : Prop := Row1 w g 49 [.int .i64 1, .slice (some ⟨g1, 0, none⟩) 2 2, .int .i64 2, .slice (some ⟨g2, 0, none⟩) 2 2] ∧ Row1 w g1 2 [.int .i64 1, .int .i64 0] ∧ Row1 w g2 2 [.int .i64 0, .int .i64 1]
theorem TwoAt.below {w w' : World} {g g1 g2 : Nat} (h : TwoAt w g g1 g2) (hb : Below w.heap.size w w') : TwoAt w' g g1 g2 := ⟨h.1.below hb, h.2.1.below hb, h.2.2.below hb⟩
theorem TwoAt.asks {w : World} {g g1 g2 : Nat} (h : TwoAt w g g1 g2) : Asks w (some ⟨g, 0, none⟩) twoL := by
  refine ⟨[⟨1, .slice (some ⟨g1, 0, none⟩) 2 2⟩, ⟨2, .slice (some ⟨g2, 0, none⟩) 2 2⟩], h.1.cells, rfl, fun i a ha => ?_⟩
  match i, ha with
  | 0, ha =>
    obtain rfl := Option.some.inj ha
    exact ⟨_, rfl, rfl, rowI_at [1, 0] h.2.1 (by decide)⟩
  | 1, ha =>
    obtain rfl := Option.some.inj ha
    exact ⟨_, rfl, rfl, rowI_at [0, 1] h.2.2 (by decide)⟩
  | i + 2, ha => simp at ha
set_option maxRecDepth 100000 in
theorem ptwo_c (w : World) : Calls Tryd.prog 95 #[] w fun e w' => ∃ g g1 g2, e = .returned (.slice (some ⟨g, 0, none⟩) 2 2) ∧ TwoAt w' g g1 g2 ∧ Below w.heap.size w w' := by
  have hB := Bun.nil w
  go_enter Tryd.func95, Tryd.ntmps95
  go_wp2_with (refine wpList_named hB rfl ?_; clear hB; intro wn gn hB hbn hg; (try rw [hg]); clear hg)
  go_ret
  exact ⟨_, _, _, rfl, ⟨row1_new wn [.int .i64 1, .slice (some ⟨_, 0, none⟩) 2 2, .int .i64 2, .slice (some ⟨_, 0, none⟩) 2 2] _, (hB.row (i := 1) rfl).alloc _, (hB.row (i := 0) rfl).alloc _⟩, below_next hB.b hB.b.size (below_alloc wn _)⟩
set_option maxRecDepth 100000 in
set_option maxHeartbeats 8000000 in
theorem awake21_c (w : World) (hTab : Tabs w) [DecidableEq Lit] :
    Calls Tryd.prog 35 #[] w fun e w' => e = .returned (.bool true) ∧ Below w.heap.size w w' := by
  go_enter Tryd.func35, Tryd.ntmps35
  go_wp2_with (fail)
  refine (psome_c w).mono ?_
  rintro e w1 ⟨rfl, hb1⟩
  go_wp2_with (fail)
  refine (ptwo_c w1).mono ?_
  rintro e w2 ⟨g, g1, g2, rfl, htwo, hb2⟩
  have hb3 := below_alloc w2 (.cells (pcells pEx).toArray 43)
  have hP := row1_new w2 (pcells pEx) 43
  have hG := htwo.below hb3
  have hbw := (hb1.trans (hb2.mono hb1.size)).trans (hb3.mono (Nat.le_trans hb1.size hb2.size))
  have hTab2 := hTab.below hbw
  clear hTab htwo hb1 hb2 hb3
  go_upto_region 2 with (fail)
  simp only [List.toArray] at hP hG hbw hTab2
  generalize w2.alloc (.cells #[.int .u64 pEx.P, .int .u64 pEx.Q, .int .u64 pEx.G, .int .u64 pEx.H, .int .i64 pEx.Nodes, .int .i64 pEx.N, .int .i64 pEx.T, .int .i64 pEx.K, .int .i64 pEx.D, .int .i64 pEx.R, .int .i64 pEx.M, .int .i64 pEx.X] 43) = w3 at *
  obtain ⟨bp, hgp⟩ : ∃ n, w2.heap.size = n := ⟨_, rfl⟩
  rw [hgp] at hP ⊢
  clear hgp
  have one := askOk_of (l := [⟨1, [1, 0]⟩]) (by decide)
  have hx1 := i64s_of (l := [1, 0]) (by decide)
  have hx2 := i64s_of (l := [0, 1]) (by decide)
  refine Rg.wp_region (l := [_, _, _, _, _, _, _, _, _, _, _, _, _, _, _, _, _, _, _, _, _, _, _, _, _, _, _, _, _, _, _, _, _, _, _, _, _, _, _, _, _, _, _, _, _, _, _, _, _, _, _, _, _, _, _, _, _, _, _]) (tail := [_]) (Rg.grows _ 60) [some 5, some 6, some 7, some 8, some 9, some 10, some 11, some 12, some 13, some 14, some 15, some 16, some 17, some 18, some 19, some 20, some 21, some 22, some 23, some 24, some 25, some 26, some 27, some 28, some 29, some 30, some 31, some 32, some 33, some 34, some 35, some 36, some 37, some 38, some 39, some 40, some 41, some 42, some 43, some 44, some 45, some 46, some 47, some 48, some 49, some 50, some 51, some 52, some 53, some 54, some 55, some 56, some 57, some 58, some 59, some 60, some 61, some 62, some 63, some 0] 64 (by kernel_rfl) (by kernel_rfl) (by kernel_rfl) rfl (Rg.grows_fair _ _) (Rg.keep_drew _) (trivial) ?_
  refine Rg.op_is (pval pEx) [] rfl rfl (by kernel_rfl) ?_ ?_
  · intro wx hb
    refine Rg.from_nil fun T hT => ?_
    obtain ⟨p0, p1, p2, p3, p4, p5, p6, p7, p8, p9, p10, p11⟩ := par_cells (hP.below hb)
    go_wp2
    exact hT _ _ rfl (by first | exact Rg.Keep.refl _ | exact below_of_dr hw2 | exact hw2 | exact (Below.refl _ _).alloc (Nat.le_refl _) _) (by first | rfl | exact congrArg _ (by decide))
  refine' Rg.op_is _ [] rfl rfl (by kernel_rfl) ?_ ?_
  rotate_left
  · intro wx hb
    refine Rg.from_nil fun T hT => ?_
    go_wp2
    refine hT _ _ rfl (by first | exact Rg.Keep.refl _ | exact below_of_dr hw2 | exact hw2 | exact (Below.refl _ _).alloc (Nat.le_refl _) _) ?_
    simp only [Rg.last, List.getElem?_toArray, List.getElem?_cons_succ, List.getElem?_cons_zero, Option.getD_some]
    rfl
  refine' Rg.op_is _ [1] rfl rfl (by kernel_rfl) ?_ ?_
  rotate_left
  · intro wx hb
    refine Rg.from_is (some 6) rfl rfl ?_
    refine Rg.from_nil fun T hT => ?_
    go_wp2
    refine hT _ _ rfl (by first | exact Rg.Keep.refl _ | exact below_of_dr hw2 | exact hw2 | exact (Below.refl _ _).alloc (Nat.le_refl _) _) ?_
    simp only [Rg.last, List.getElem?_toArray, List.getElem?_cons_succ, List.getElem?_cons_zero, Option.getD_some]
    rfl
  refine' Rg.op_is _ [2] rfl rfl (by kernel_rfl) ?_ ?_
  rotate_left
  · intro wx hb
    refine Rg.from_is (some 7) rfl rfl ?_
    refine Rg.from_nil fun T hT => ?_
    go_wp2
    refine hT _ _ rfl (by first | exact Rg.Keep.refl _ | exact below_of_dr hw2 | exact hw2 | exact (Below.refl _ _).alloc (Nat.le_refl _) _) ?_
    simp only [Rg.last, List.getElem?_toArray, List.getElem?_cons_succ, List.getElem?_cons_zero, Option.getD_some]
    rfl
  refine Rg.op_is (.slice (some ⟨g1, 0, none⟩) 2 2) [3] rfl rfl (by kernel_rfl) ?_ ?_
  · intro wx hb
    refine Rg.from_is (some 8) rfl rfl ?_
    refine Rg.from_nil fun T hT => ?_
    have cc := (hG.below hb).1.cell (k := 1) rfl
    go_wp2
    exact hT _ _ rfl (by first | exact Rg.Keep.refl _ | exact below_of_dr hw2 | exact hw2 | exact (Below.refl _ _).alloc (Nat.le_refl _) _) (by first | rfl | exact congrArg _ (by decide))
  refine Rg.op_is (.int .i64 0) [0, 4] rfl rfl (by kernel_rfl) ?_ ?_
  · intro wx hb
    refine Rg.from_is (some 5) rfl rfl ?_
    refine Rg.from_is (some 9) rfl rfl ?_
    refine Rg.from_nil fun T hT => ?_
    go_wp2_with (fail)
    refine (aquery_c pEx pEx_ok (none) [] 0 1 (some ⟨g1, 0, none⟩) [1, 0] 2 _ (asks_none _) (askOk_of (by decide)) ((hG.below hb).2.1.cells) (by decide) hx1 (hTab2.below hb)).mono ?_
    rintro e w4 ⟨rfl, hw2⟩
    rw [ex_q1]
    go_wp2
    exact hT _ _ rfl hw2 rfl
  refine Rg.op_is (.bool true) [5] rfl rfl (by kernel_rfl) ?_ ?_
  · intro wx hb
    refine Rg.from_is (some 10) rfl rfl ?_
    refine Rg.from_nil fun T hT => ?_
    go_wp2
    exact hT _ _ rfl (by first | exact Rg.Keep.refl _ | exact below_of_dr hw2 | exact hw2 | exact (Below.refl _ _).alloc (Nat.le_refl _) _) (by first | rfl | exact congrArg _ (by decide))
  refine Rg.op_is (.bool true) [6] rfl rfl (by kernel_rfl) ?_ ?_
  · intro wx hb
    refine Rg.from_is (some 11) rfl rfl ?_
    refine Rg.from_nil fun T hT => ?_
    go_wp2
    exact hT _ _ rfl (by first | exact Rg.Keep.refl _ | exact below_of_dr hw2 | exact hw2 | exact (Below.refl _ _).alloc (Nat.le_refl _) _) (by first | rfl | exact congrArg _ (by decide))
  refine Rg.op_is (pval pEx) [] rfl rfl (by kernel_rfl) ?_ ?_
  · intro wx hb
    refine Rg.from_nil fun T hT => ?_
    obtain ⟨p0, p1, p2, p3, p4, p5, p6, p7, p8, p9, p10, p11⟩ := par_cells (hP.below hb)
    go_wp2
    exact hT _ _ rfl (by first | exact Rg.Keep.refl _ | exact below_of_dr hw2 | exact hw2 | exact (Below.refl _ _).alloc (Nat.le_refl _) _) (by first | rfl | exact congrArg _ (by decide))
  refine' Rg.op_is _ [] rfl rfl (by kernel_rfl) ?_ ?_
  rotate_left
  · intro wx hb
    refine Rg.from_nil fun T hT => ?_
    go_wp2
    refine hT _ _ rfl (by first | exact Rg.Keep.refl _ | exact below_of_dr hw2 | exact hw2 | exact (Below.refl _ _).alloc (Nat.le_refl _) _) ?_
    simp only [Rg.last, List.getElem?_toArray, List.getElem?_cons_succ, List.getElem?_cons_zero, Option.getD_some]
    rfl
  refine Rg.op_is (.slice (some ⟨g, 0, none⟩) 1 2) [9] rfl rfl (by kernel_rfl) ?_ ?_
  · intro wx hb
    refine Rg.from_is (some 14) rfl rfl ?_
    refine Rg.from_nil fun T hT => ?_
    go_wp2
    exact hT _ _ rfl (by first | exact Rg.Keep.refl _ | exact below_of_dr hw2 | exact hw2 | exact (Below.refl _ _).alloc (Nat.le_refl _) _) (by first | rfl | exact congrArg _ (by decide))
  refine' Rg.op_is _ [] rfl rfl (by kernel_rfl) ?_ ?_
  rotate_left
  · intro wx hb
    refine Rg.from_nil fun T hT => ?_
    go_wp2
    refine hT _ _ rfl (by first | exact Rg.Keep.refl _ | exact below_of_dr hw2 | exact hw2 | exact (Below.refl _ _).alloc (Nat.le_refl _) _) ?_
    simp only [Rg.last, List.getElem?_toArray, List.getElem?_cons_succ, List.getElem?_cons_zero, Option.getD_some]
    rfl
  refine' Rg.op_is _ [11] rfl rfl (by kernel_rfl) ?_ ?_
  rotate_left
  · intro wx hb
    refine Rg.from_is (some 16) rfl rfl ?_
    refine Rg.from_nil fun T hT => ?_
    go_wp2
    refine hT _ _ rfl (by first | exact Rg.Keep.refl _ | exact below_of_dr hw2 | exact hw2 | exact (Below.refl _ _).alloc (Nat.le_refl _) _) ?_
    simp only [Rg.last, List.getElem?_toArray, List.getElem?_cons_succ, List.getElem?_cons_zero, Option.getD_some]
    rfl
  refine' Rg.op_is _ [12] rfl rfl (by kernel_rfl) ?_ ?_
  rotate_left
  · intro wx hb
    refine Rg.from_is (some 17) rfl rfl ?_
    refine Rg.from_nil fun T hT => ?_
    go_wp2
    refine hT _ _ rfl (by first | exact Rg.Keep.refl _ | exact below_of_dr hw2 | exact hw2 | exact (Below.refl _ _).alloc (Nat.le_refl _) _) ?_
    simp only [Rg.last, List.getElem?_toArray, List.getElem?_cons_succ, List.getElem?_cons_zero, Option.getD_some]
    rfl
  refine Rg.op_is (.slice (some ⟨g1, 0, none⟩) 2 2) [13] rfl rfl (by kernel_rfl) ?_ ?_
  · intro wx hb
    refine Rg.from_is (some 18) rfl rfl ?_
    refine Rg.from_nil fun T hT => ?_
    have cc := (hG.below hb).1.cell (k := 1) rfl
    go_wp2
    exact hT _ _ rfl (by first | exact Rg.Keep.refl _ | exact below_of_dr hw2 | exact hw2 | exact (Below.refl _ _).alloc (Nat.le_refl _) _) (by first | rfl | exact congrArg _ (by decide))
  refine Rg.op_is (.int .i64 0) [8, 10, 14] rfl rfl (by kernel_rfl) ?_ ?_
  · intro wx hb
    refine Rg.from_is (some 13) rfl rfl ?_
    refine Rg.from_is (some 15) rfl rfl ?_
    refine Rg.from_is (some 19) rfl rfl ?_
    refine Rg.from_nil fun T hT => ?_
    go_wp2_with (fail)
    refine (aquery_c pEx pEx_ok (some ⟨g, 0, none⟩) [⟨1, [1, 0]⟩] 2 2 (some ⟨g1, 0, none⟩) [1, 0] 2 _ (((hG.below hb).asks).take 1) one ((hG.below hb).2.1.cells) (by decide) hx1 (hTab2.below hb)).mono ?_
    rintro e w4 ⟨rfl, hw2⟩
    rw [ex_q2]
    go_wp2
    exact hT _ _ rfl hw2 rfl
  refine Rg.op_is (.bool true) [15] rfl rfl (by kernel_rfl) ?_ ?_
  · intro wx hb
    refine Rg.from_is (some 20) rfl rfl ?_
    refine Rg.from_nil fun T hT => ?_
    go_wp2
    exact hT _ _ rfl (by first | exact Rg.Keep.refl _ | exact below_of_dr hw2 | exact hw2 | exact (Below.refl _ _).alloc (Nat.le_refl _) _) (by first | rfl | exact congrArg _ (by decide))
  refine Rg.op_is (.bool true) [7, 16] rfl rfl (by kernel_rfl) ?_ ?_
  · intro wx hb
    refine Rg.from_is (some 12) rfl rfl ?_
    refine Rg.from_is (some 21) rfl rfl ?_
    refine Rg.from_nil fun T hT => ?_
    go_wp2
    exact hT _ _ rfl (by first | exact Rg.Keep.refl _ | exact below_of_dr hw2 | exact hw2 | exact (Below.refl _ _).alloc (Nat.le_refl _) _) (by first | rfl | exact congrArg _ (by decide))
  refine Rg.op_is (.bool true) [17] rfl rfl (by kernel_rfl) ?_ ?_
  · intro wx hb
    refine Rg.from_is (some 22) rfl rfl ?_
    refine Rg.from_nil fun T hT => ?_
    go_wp2
    exact hT _ _ rfl (by first | exact Rg.Keep.refl _ | exact below_of_dr hw2 | exact hw2 | exact (Below.refl _ _).alloc (Nat.le_refl _) _) (by first | rfl | exact congrArg _ (by decide))
  refine Rg.op_is (pval pEx) [] rfl rfl (by kernel_rfl) ?_ ?_
  · intro wx hb
    refine Rg.from_nil fun T hT => ?_
    obtain ⟨p0, p1, p2, p3, p4, p5, p6, p7, p8, p9, p10, p11⟩ := par_cells (hP.below hb)
    go_wp2
    exact hT _ _ rfl (by first | exact Rg.Keep.refl _ | exact below_of_dr hw2 | exact hw2 | exact (Below.refl _ _).alloc (Nat.le_refl _) _) (by first | rfl | exact congrArg _ (by decide))
  refine' Rg.op_is _ [] rfl rfl (by kernel_rfl) ?_ ?_
  rotate_left
  · intro wx hb
    refine Rg.from_nil fun T hT => ?_
    go_wp2
    refine hT _ _ rfl (by first | exact Rg.Keep.refl _ | exact below_of_dr hw2 | exact hw2 | exact (Below.refl _ _).alloc (Nat.le_refl _) _) ?_
    simp only [Rg.last, List.getElem?_toArray, List.getElem?_cons_succ, List.getElem?_cons_zero, Option.getD_some]
    rfl
  refine Rg.op_is (.slice (some ⟨g, 0, none⟩) 1 2) [20] rfl rfl (by kernel_rfl) ?_ ?_
  · intro wx hb
    refine Rg.from_is (some 25) rfl rfl ?_
    refine Rg.from_nil fun T hT => ?_
    go_wp2
    exact hT _ _ rfl (by first | exact Rg.Keep.refl _ | exact below_of_dr hw2 | exact hw2 | exact (Below.refl _ _).alloc (Nat.le_refl _) _) (by first | rfl | exact congrArg _ (by decide))
  refine' Rg.op_is _ [] rfl rfl (by kernel_rfl) ?_ ?_
  rotate_left
  · intro wx hb
    refine Rg.from_nil fun T hT => ?_
    go_wp2
    refine hT _ _ rfl (by first | exact Rg.Keep.refl _ | exact below_of_dr hw2 | exact hw2 | exact (Below.refl _ _).alloc (Nat.le_refl _) _) ?_
    simp only [Rg.last, List.getElem?_toArray, List.getElem?_cons_succ, List.getElem?_cons_zero, Option.getD_some]
    rfl
  refine' Rg.op_is _ [22] rfl rfl (by kernel_rfl) ?_ ?_
  rotate_left
  · intro wx hb
    refine Rg.from_is (some 27) rfl rfl ?_
    refine Rg.from_nil fun T hT => ?_
    go_wp2
    refine hT _ _ rfl (by first | exact Rg.Keep.refl _ | exact below_of_dr hw2 | exact hw2 | exact (Below.refl _ _).alloc (Nat.le_refl _) _) ?_
    simp only [Rg.last, List.getElem?_toArray, List.getElem?_cons_succ, List.getElem?_cons_zero, Option.getD_some]
    rfl
  refine' Rg.op_is _ [23] rfl rfl (by kernel_rfl) ?_ ?_
  rotate_left
  · intro wx hb
    refine Rg.from_is (some 28) rfl rfl ?_
    refine Rg.from_nil fun T hT => ?_
    go_wp2
    refine hT _ _ rfl (by first | exact Rg.Keep.refl _ | exact below_of_dr hw2 | exact hw2 | exact (Below.refl _ _).alloc (Nat.le_refl _) _) ?_
    simp only [Rg.last, List.getElem?_toArray, List.getElem?_cons_succ, List.getElem?_cons_zero, Option.getD_some]
    rfl
  refine Rg.op_is (.slice (some ⟨g2, 0, none⟩) 2 2) [24] rfl rfl (by kernel_rfl) ?_ ?_
  · intro wx hb
    refine Rg.from_is (some 29) rfl rfl ?_
    refine Rg.from_nil fun T hT => ?_
    have cc := (hG.below hb).1.cell (k := 3) rfl
    go_wp2
    exact hT _ _ rfl (by first | exact Rg.Keep.refl _ | exact below_of_dr hw2 | exact hw2 | exact (Below.refl _ _).alloc (Nat.le_refl _) _) (by first | rfl | exact congrArg _ (by decide))
  refine Rg.op_is (.int .i64 22) [19, 21, 25] rfl rfl (by kernel_rfl) ?_ ?_
  · intro wx hb
    refine Rg.from_is (some 24) rfl rfl ?_
    refine Rg.from_is (some 26) rfl rfl ?_
    refine Rg.from_is (some 30) rfl rfl ?_
    refine Rg.from_nil fun T hT => ?_
    go_wp2_with (fail)
    refine (aquery_c pEx pEx_ok (some ⟨g, 0, none⟩) [⟨1, [1, 0]⟩] 2 2 (some ⟨g2, 0, none⟩) [0, 1] 2 _ (((hG.below hb).asks).take 1) one ((hG.below hb).2.2.cells) (by decide) hx2 (hTab2.below hb)).mono ?_
    rintro e w4 ⟨rfl, hw2⟩
    rw [ex_q3]
    go_wp2
    exact hT _ _ rfl hw2 rfl
  refine Rg.op_is (.bool true) [26] rfl rfl (by kernel_rfl) ?_ ?_
  · intro wx hb
    refine Rg.from_is (some 31) rfl rfl ?_
    refine Rg.from_nil fun T hT => ?_
    go_wp2
    exact hT _ _ rfl (by first | exact Rg.Keep.refl _ | exact below_of_dr hw2 | exact hw2 | exact (Below.refl _ _).alloc (Nat.le_refl _) _) (by first | rfl | exact congrArg _ (by decide))
  refine Rg.op_is (.bool true) [18, 27] rfl rfl (by kernel_rfl) ?_ ?_
  · intro wx hb
    refine Rg.from_is (some 23) rfl rfl ?_
    refine Rg.from_is (some 32) rfl rfl ?_
    refine Rg.from_nil fun T hT => ?_
    go_wp2
    exact hT _ _ rfl (by first | exact Rg.Keep.refl _ | exact below_of_dr hw2 | exact hw2 | exact (Below.refl _ _).alloc (Nat.le_refl _) _) (by first | rfl | exact congrArg _ (by decide))
  refine Rg.op_is (.bool true) [28] rfl rfl (by kernel_rfl) ?_ ?_
  · intro wx hb
    refine Rg.from_is (some 33) rfl rfl ?_
    refine Rg.from_nil fun T hT => ?_
    go_wp2
    exact hT _ _ rfl (by first | exact Rg.Keep.refl _ | exact below_of_dr hw2 | exact hw2 | exact (Below.refl _ _).alloc (Nat.le_refl _) _) (by first | rfl | exact congrArg _ (by decide))
  refine Rg.op_is (pval pEx) [] rfl rfl (by kernel_rfl) ?_ ?_
  · intro wx hb
    refine Rg.from_nil fun T hT => ?_
    obtain ⟨p0, p1, p2, p3, p4, p5, p6, p7, p8, p9, p10, p11⟩ := par_cells (hP.below hb)
    go_wp2
    exact hT _ _ rfl (by first | exact Rg.Keep.refl _ | exact below_of_dr hw2 | exact hw2 | exact (Below.refl _ _).alloc (Nat.le_refl _) _) (by first | rfl | exact congrArg _ (by decide))
  refine' Rg.op_is _ [] rfl rfl (by kernel_rfl) ?_ ?_
  rotate_left
  · intro wx hb
    refine Rg.from_nil fun T hT => ?_
    go_wp2
    refine hT _ _ rfl (by first | exact Rg.Keep.refl _ | exact below_of_dr hw2 | exact hw2 | exact (Below.refl _ _).alloc (Nat.le_refl _) _) ?_
    simp only [Rg.last, List.getElem?_toArray, List.getElem?_cons_succ, List.getElem?_cons_zero, Option.getD_some]
    rfl
  refine Rg.op_is (.slice (some ⟨g, 0, none⟩) 1 2) [31] rfl rfl (by kernel_rfl) ?_ ?_
  · intro wx hb
    refine Rg.from_is (some 36) rfl rfl ?_
    refine Rg.from_nil fun T hT => ?_
    go_wp2
    exact hT _ _ rfl (by first | exact Rg.Keep.refl _ | exact below_of_dr hw2 | exact hw2 | exact (Below.refl _ _).alloc (Nat.le_refl _) _) (by first | rfl | exact congrArg _ (by decide))
  refine' Rg.op_is _ [] rfl rfl (by kernel_rfl) ?_ ?_
  rotate_left
  · intro wx hb
    refine Rg.from_nil fun T hT => ?_
    go_wp2
    refine hT _ _ rfl (by first | exact Rg.Keep.refl _ | exact below_of_dr hw2 | exact hw2 | exact (Below.refl _ _).alloc (Nat.le_refl _) _) ?_
    simp only [Rg.last, List.getElem?_toArray, List.getElem?_cons_succ, List.getElem?_cons_zero, Option.getD_some]
    rfl
  refine' Rg.op_is _ [33] rfl rfl (by kernel_rfl) ?_ ?_
  rotate_left
  · intro wx hb
    refine Rg.from_is (some 38) rfl rfl ?_
    refine Rg.from_nil fun T hT => ?_
    go_wp2
    refine hT _ _ rfl (by first | exact Rg.Keep.refl _ | exact below_of_dr hw2 | exact hw2 | exact (Below.refl _ _).alloc (Nat.le_refl _) _) ?_
    simp only [Rg.last, List.getElem?_toArray, List.getElem?_cons_succ, List.getElem?_cons_zero, Option.getD_some]
    rfl
  refine' Rg.op_is _ [34] rfl rfl (by kernel_rfl) ?_ ?_
  rotate_left
  · intro wx hb
    refine Rg.from_is (some 39) rfl rfl ?_
    refine Rg.from_nil fun T hT => ?_
    go_wp2
    refine hT _ _ rfl (by first | exact Rg.Keep.refl _ | exact below_of_dr hw2 | exact hw2 | exact (Below.refl _ _).alloc (Nat.le_refl _) _) ?_
    simp only [Rg.last, List.getElem?_toArray, List.getElem?_cons_succ, List.getElem?_cons_zero, Option.getD_some]
    rfl
  refine Rg.op_is (.slice (some ⟨g2, 0, none⟩) 2 2) [35] rfl rfl (by kernel_rfl) ?_ ?_
  · intro wx hb
    refine Rg.from_is (some 40) rfl rfl ?_
    refine Rg.from_nil fun T hT => ?_
    have cc := (hG.below hb).1.cell (k := 3) rfl
    go_wp2
    exact hT _ _ rfl (by first | exact Rg.Keep.refl _ | exact below_of_dr hw2 | exact hw2 | exact (Below.refl _ _).alloc (Nat.le_refl _) _) (by first | rfl | exact congrArg _ (by decide))
  refine Rg.op_is (.int .i64 6) [30, 32, 36] rfl rfl (by kernel_rfl) ?_ ?_
  · intro wx hb
    refine Rg.from_is (some 35) rfl rfl ?_
    refine Rg.from_is (some 37) rfl rfl ?_
    refine Rg.from_is (some 41) rfl rfl ?_
    refine Rg.from_nil fun T hT => ?_
    go_wp2_with (fail)
    refine (aquery_c pEx pEx_ok (some ⟨g, 0, none⟩) [⟨1, [1, 0]⟩] 2 1 (some ⟨g2, 0, none⟩) [0, 1] 2 _ (((hG.below hb).asks).take 1) one ((hG.below hb).2.2.cells) (by decide) hx2 (hTab2.below hb)).mono ?_
    rintro e w4 ⟨rfl, hw2⟩
    rw [ex_q4]
    go_wp2
    exact hT _ _ rfl hw2 rfl
  refine Rg.op_is (.bool true) [37] rfl rfl (by kernel_rfl) ?_ ?_
  · intro wx hb
    refine Rg.from_is (some 42) rfl rfl ?_
    refine Rg.from_nil fun T hT => ?_
    go_wp2
    exact hT _ _ rfl (by first | exact Rg.Keep.refl _ | exact below_of_dr hw2 | exact hw2 | exact (Below.refl _ _).alloc (Nat.le_refl _) _) (by first | rfl | exact congrArg _ (by decide))
  refine Rg.op_is (.bool true) [29, 38] rfl rfl (by kernel_rfl) ?_ ?_
  · intro wx hb
    refine Rg.from_is (some 34) rfl rfl ?_
    refine Rg.from_is (some 43) rfl rfl ?_
    refine Rg.from_nil fun T hT => ?_
    go_wp2
    exact hT _ _ rfl (by first | exact Rg.Keep.refl _ | exact below_of_dr hw2 | exact hw2 | exact (Below.refl _ _).alloc (Nat.le_refl _) _) (by first | rfl | exact congrArg _ (by decide))
  refine Rg.op_is (.bool true) [39] rfl rfl (by kernel_rfl) ?_ ?_
  · intro wx hb
    refine Rg.from_is (some 44) rfl rfl ?_
    refine Rg.from_nil fun T hT => ?_
    go_wp2
    exact hT _ _ rfl (by first | exact Rg.Keep.refl _ | exact below_of_dr hw2 | exact hw2 | exact (Below.refl _ _).alloc (Nat.le_refl _) _) (by first | rfl | exact congrArg _ (by decide))
  refine Rg.op_is (pval pEx) [] rfl rfl (by kernel_rfl) ?_ ?_
  · intro wx hb
    refine Rg.from_nil fun T hT => ?_
    obtain ⟨p0, p1, p2, p3, p4, p5, p6, p7, p8, p9, p10, p11⟩ := par_cells (hP.below hb)
    go_wp2
    exact hT _ _ rfl (by first | exact Rg.Keep.refl _ | exact below_of_dr hw2 | exact hw2 | exact (Below.refl _ _).alloc (Nat.le_refl _) _) (by first | rfl | exact congrArg _ (by decide))
  refine' Rg.op_is _ [] rfl rfl (by kernel_rfl) ?_ ?_
  rotate_left
  · intro wx hb
    refine Rg.from_nil fun T hT => ?_
    go_wp2
    refine hT _ _ rfl (by first | exact Rg.Keep.refl _ | exact below_of_dr hw2 | exact hw2 | exact (Below.refl _ _).alloc (Nat.le_refl _) _) ?_
    simp only [Rg.last, List.getElem?_toArray, List.getElem?_cons_succ, List.getElem?_cons_zero, Option.getD_some]
    rfl
  refine Rg.op_is (.int .i64 2) [41, 42] rfl rfl (by kernel_rfl) ?_ ?_
  · intro wx hb
    refine Rg.from_is (some 46) rfl rfl ?_
    refine Rg.from_is (some 47) rfl rfl ?_
    refine Rg.from_nil fun T hT => ?_
    go_wp2_with (fail)
    refine (arank_c pEx pEx_ok (some ⟨g, 0, none⟩) twoL 2 _ ((hG.below hb).asks) (askOk_of (by decide)) (hTab2.below hb)).mono ?_
    rintro e w4 ⟨rfl, hw2⟩
    rw [ex_r]
    go_wp2
    exact hT _ _ rfl hw2 rfl
  refine Rg.op_is (.bool true) [43] rfl rfl (by kernel_rfl) ?_ ?_
  · intro wx hb
    refine Rg.from_is (some 48) rfl rfl ?_
    refine Rg.from_nil fun T hT => ?_
    go_wp2
    exact hT _ _ rfl (by first | exact Rg.Keep.refl _ | exact below_of_dr hw2 | exact hw2 | exact (Below.refl _ _).alloc (Nat.le_refl _) _) (by first | rfl | exact congrArg _ (by decide))
  refine Rg.op_is (.bool true) [40, 44] rfl rfl (by kernel_rfl) ?_ ?_
  · intro wx hb
    refine Rg.from_is (some 45) rfl rfl ?_
    refine Rg.from_is (some 49) rfl rfl ?_
    refine Rg.from_nil fun T hT => ?_
    go_wp2
    exact hT _ _ rfl (by first | exact Rg.Keep.refl _ | exact below_of_dr hw2 | exact hw2 | exact (Below.refl _ _).alloc (Nat.le_refl _) _) (by first | rfl | exact congrArg _ (by decide))
  refine Rg.op_is (.bool true) [45] rfl rfl (by kernel_rfl) ?_ ?_
  · intro wx hb
    refine Rg.from_is (some 50) rfl rfl ?_
    refine Rg.from_nil fun T hT => ?_
    go_wp2
    exact hT _ _ rfl (by first | exact Rg.Keep.refl _ | exact below_of_dr hw2 | exact hw2 | exact (Below.refl _ _).alloc (Nat.le_refl _) _) (by first | rfl | exact congrArg _ (by decide))
  refine Rg.op_is (pval pEx) [] rfl rfl (by kernel_rfl) ?_ ?_
  · intro wx hb
    refine Rg.from_nil fun T hT => ?_
    obtain ⟨p0, p1, p2, p3, p4, p5, p6, p7, p8, p9, p10, p11⟩ := par_cells (hP.below hb)
    go_wp2
    exact hT _ _ rfl (by first | exact Rg.Keep.refl _ | exact below_of_dr hw2 | exact hw2 | exact (Below.refl _ _).alloc (Nat.le_refl _) _) (by first | rfl | exact congrArg _ (by decide))
  refine' Rg.op_is _ [] rfl rfl (by kernel_rfl) ?_ ?_
  rotate_left
  · intro wx hb
    refine Rg.from_nil fun T hT => ?_
    go_wp2
    refine hT _ _ rfl (by first | exact Rg.Keep.refl _ | exact below_of_dr hw2 | exact hw2 | exact (Below.refl _ _).alloc (Nat.le_refl _) _) ?_
    simp only [Rg.last, List.getElem?_toArray, List.getElem?_cons_succ, List.getElem?_cons_zero, Option.getD_some]
    rfl
  refine Rg.op_of (fun w' v => BoxAt w' v 2 [.int .i64 (-1), .int .i64 (2)]) [] rfl ?_ ?_ rfl (by kernel_rfl) ?_ ?_
  · exact fun w1 w2 v hk h => h.below hk
  · exact fun w1 w2 v hk h => h.below hk
  · intro wx hb
    refine Rg.from_nil fun T hT => ?_
    go_wp2
    exact hT _ _ rfl (below_alloc _ _) ⟨_, rfl, row1_new wx [.int .i64 (-1), .int .i64 (2)] _⟩
  refine Rg.op_is (.bool true) [47, 48, 49] rfl rfl (by kernel_rfl) ?_ ?_
  · intro wx hb
    refine Rg.from_is (some 52) rfl rfl ?_
    refine Rg.from_is (some 53) rfl rfl ?_
    refine Rg.from_of (some 54) rfl rfl fun v54 h54 => ?_
    refine Rg.from_nil fun T hT => ?_
    obtain ⟨gb, rfl, hr⟩ := h54
    go_wp2_with (fail)
    refine (afollows_c pEx pEx_ok (some ⟨g, 0, none⟩) twoL 2 (some ⟨gb, 0, none⟩) [-1, 2] 2 _ ((hG.below hb).asks) (askOk_of (by decide)) hr.cells (by decide) (i64s_of (by decide)) (hTab2.below hb)).mono ?_
    rintro e w4 ⟨rfl, hw2⟩
    rw [ex_f1]
    go_wp2
    exact hT _ _ rfl hw2 rfl
  refine Rg.op_is (.bool true) [46, 50] rfl rfl (by kernel_rfl) ?_ ?_
  · intro wx hb
    refine Rg.from_is (some 51) rfl rfl ?_
    refine Rg.from_is (some 55) rfl rfl ?_
    refine Rg.from_nil fun T hT => ?_
    go_wp2
    exact hT _ _ rfl (by first | exact Rg.Keep.refl _ | exact below_of_dr hw2 | exact hw2 | exact (Below.refl _ _).alloc (Nat.le_refl _) _) (by first | rfl | exact congrArg _ (by decide))
  refine Rg.op_is (.bool true) [51] rfl rfl (by kernel_rfl) ?_ ?_
  · intro wx hb
    refine Rg.from_is (some 56) rfl rfl ?_
    refine Rg.from_nil fun T hT => ?_
    go_wp2
    exact hT _ _ rfl (by first | exact Rg.Keep.refl _ | exact below_of_dr hw2 | exact hw2 | exact (Below.refl _ _).alloc (Nat.le_refl _) _) (by first | rfl | exact congrArg _ (by decide))
  refine Rg.op_is (pval pEx) [] rfl rfl (by kernel_rfl) ?_ ?_
  · intro wx hb
    refine Rg.from_nil fun T hT => ?_
    obtain ⟨p0, p1, p2, p3, p4, p5, p6, p7, p8, p9, p10, p11⟩ := par_cells (hP.below hb)
    go_wp2
    exact hT _ _ rfl (by first | exact Rg.Keep.refl _ | exact below_of_dr hw2 | exact hw2 | exact (Below.refl _ _).alloc (Nat.le_refl _) _) (by first | rfl | exact congrArg _ (by decide))
  refine' Rg.op_is _ [] rfl rfl (by kernel_rfl) ?_ ?_
  rotate_left
  · intro wx hb
    refine Rg.from_nil fun T hT => ?_
    go_wp2
    refine hT _ _ rfl (by first | exact Rg.Keep.refl _ | exact below_of_dr hw2 | exact hw2 | exact (Below.refl _ _).alloc (Nat.le_refl _) _) ?_
    simp only [Rg.last, List.getElem?_toArray, List.getElem?_cons_succ, List.getElem?_cons_zero, Option.getD_some]
    rfl
  refine Rg.op_of (fun w' v => BoxAt w' v 2 [.int .i64 (1), .int .i64 (1)]) [] rfl ?_ ?_ rfl (by kernel_rfl) ?_ ?_
  · exact fun w1 w2 v hk h => h.below hk
  · exact fun w1 w2 v hk h => h.below hk
  · intro wx hb
    refine Rg.from_nil fun T hT => ?_
    go_wp2
    exact hT _ _ rfl (below_alloc _ _) ⟨_, rfl, row1_new wx [.int .i64 (1), .int .i64 (1)] _⟩
  refine Rg.op_is (.bool false) [53, 54, 55] rfl rfl (by kernel_rfl) ?_ ?_
  · intro wx hb
    refine Rg.from_is (some 58) rfl rfl ?_
    refine Rg.from_is (some 59) rfl rfl ?_
    refine Rg.from_of (some 60) rfl rfl fun v60 h60 => ?_
    refine Rg.from_nil fun T hT => ?_
    obtain ⟨gb, rfl, hr⟩ := h60
    go_wp2_with (fail)
    refine (afollows_c pEx pEx_ok (some ⟨g, 0, none⟩) twoL 2 (some ⟨gb, 0, none⟩) [1, 1] 2 _ ((hG.below hb).asks) (askOk_of (by decide)) hr.cells (by decide) (i64s_of (by decide)) (hTab2.below hb)).mono ?_
    rintro e w4 ⟨rfl, hw2⟩
    rw [ex_f2]
    go_wp2
    exact hT _ _ rfl hw2 rfl
  refine Rg.op_is (.bool true) [56] rfl rfl (by kernel_rfl) ?_ ?_
  · intro wx hb
    refine Rg.from_is (some 61) rfl rfl ?_
    refine Rg.from_nil fun T hT => ?_
    go_wp2
    exact hT _ _ rfl (by first | exact Rg.Keep.refl _ | exact below_of_dr hw2 | exact hw2 | exact (Below.refl _ _).alloc (Nat.le_refl _) _) (by first | rfl | exact congrArg _ (by decide))
  refine Rg.op_is (.bool true) [52, 57] rfl rfl (by kernel_rfl) ?_ ?_
  · intro wx hb
    refine Rg.from_is (some 57) rfl rfl ?_
    refine Rg.from_is (some 62) rfl rfl ?_
    refine Rg.from_nil fun T hT => ?_
    go_wp2
    exact hT _ _ rfl (by first | exact Rg.Keep.refl _ | exact below_of_dr hw2 | exact hw2 | exact (Below.refl _ _).alloc (Nat.le_refl _) _) (by first | rfl | exact congrArg _ (by decide))
  refine Rg.walk_nil [0, 1, 2, 3, 4, 5, 6, 7, 8, 9, 10, 11, 12, 13, 14, 15, 16, 17, 18, 19, 20, 21, 22, 23, 24, 25, 26, 27, 28, 29, 30, 31, 32, 33, 34, 35, 36, 37, 38, 39, 40, 41, 42, 43, 44, 45, 46, 47, 48, 49, 50, 51, 52, 53, 54, 55, 56, 57, 58] (by kernel_rfl) ?_
  intro wx hb
  refine Rg.from_is (some 5) rfl rfl ?_
  refine Rg.from_is (some 6) rfl rfl ?_
  refine Rg.from_is (some 7) rfl rfl ?_
  refine Rg.from_is (some 8) rfl rfl ?_
  refine Rg.from_is (some 9) rfl rfl ?_
  refine Rg.from_is (some 10) rfl rfl ?_
  refine Rg.from_is (some 11) rfl rfl ?_
  refine Rg.from_is (some 12) rfl rfl ?_
  refine Rg.from_is (some 13) rfl rfl ?_
  refine Rg.from_is (some 14) rfl rfl ?_
  refine Rg.from_is (some 15) rfl rfl ?_
  refine Rg.from_is (some 16) rfl rfl ?_
  refine Rg.from_is (some 17) rfl rfl ?_
  refine Rg.from_is (some 18) rfl rfl ?_
  refine Rg.from_is (some 19) rfl rfl ?_
  refine Rg.from_is (some 20) rfl rfl ?_
  refine Rg.from_is (some 21) rfl rfl ?_
  refine Rg.from_is (some 22) rfl rfl ?_
  refine Rg.from_is (some 23) rfl rfl ?_
  refine Rg.from_is (some 24) rfl rfl ?_
  refine Rg.from_is (some 25) rfl rfl ?_
  refine Rg.from_is (some 26) rfl rfl ?_
  refine Rg.from_is (some 27) rfl rfl ?_
  refine Rg.from_is (some 28) rfl rfl ?_
  refine Rg.from_is (some 29) rfl rfl ?_
  refine Rg.from_is (some 30) rfl rfl ?_
  refine Rg.from_is (some 31) rfl rfl ?_
  refine Rg.from_is (some 32) rfl rfl ?_
  refine Rg.from_is (some 33) rfl rfl ?_
  refine Rg.from_is (some 34) rfl rfl ?_
  refine Rg.from_is (some 35) rfl rfl ?_
  refine Rg.from_is (some 36) rfl rfl ?_
  refine Rg.from_is (some 37) rfl rfl ?_
  refine Rg.from_is (some 38) rfl rfl ?_
  refine Rg.from_is (some 39) rfl rfl ?_
  refine Rg.from_is (some 40) rfl rfl ?_
  refine Rg.from_is (some 41) rfl rfl ?_
  refine Rg.from_is (some 42) rfl rfl ?_
  refine Rg.from_is (some 43) rfl rfl ?_
  refine Rg.from_is (some 44) rfl rfl ?_
  refine Rg.from_is (some 45) rfl rfl ?_
  refine Rg.from_is (some 46) rfl rfl ?_
  refine Rg.from_is (some 47) rfl rfl ?_
  refine Rg.from_is (some 48) rfl rfl ?_
  refine Rg.from_is (some 49) rfl rfl ?_
  refine Rg.from_is (some 50) rfl rfl ?_
  refine Rg.from_is (some 51) rfl rfl ?_
  refine Rg.from_is (some 52) rfl rfl ?_
  refine Rg.from_is (some 53) rfl rfl ?_
  refine Rg.from_of (some 54) rfl rfl fun v54 h54 => ?_
  refine Rg.from_is (some 55) rfl rfl ?_
  refine Rg.from_is (some 56) rfl rfl ?_
  refine Rg.from_is (some 57) rfl rfl ?_
  refine Rg.from_is (some 58) rfl rfl ?_
  refine Rg.from_is (some 59) rfl rfl ?_
  refine Rg.from_of (some 60) rfl rfl fun v60 h60 => ?_
  refine Rg.from_is (some 61) rfl rfl ?_
  refine Rg.from_is (some 62) rfl rfl ?_
  refine Rg.from_is (some 63) rfl rfl ?_
  refine Rg.from_nil ?_
  simp only [List.map, Act.put, List.setIfInBounds_toArray, List.set_cons_zero, List.set_cons_succ]
  have hbz := below_next hbw hbw.size hb
  go_wp2
  go_ret
  exact ⟨rfl, hbz⟩
end Go.Proofs.YtcojnjhffmhbiaaDoor
end

section
namespace Go.Proofs.YtcojnjhffmhbiaaDoor
open Go Go.RowKit Go.Maps Go.Shelf Go.Proofs
attribute [local go_sem] Oper.semAt_some
noncomputable def stepP (p : Par) (s : List Ask) (a : Ask) : List Ask := if queryP p s a.id a.x = 0 then s ++ [a] else s
noncomputable def playL (p : Par) (l : List Ask) : List Ask := l.foldl (stepP p) []
theorem playL_snoc {p : Par} {l : List Ask} {k : Nat} {a : Ask} (h : l[k]? = some a) : playL p (l.take (k + 1)) = stepP p (playL p (l.take k)) a := by
  unfold playL
  rw [take_snocR h, List.foldl_append]; rfl
theorem queryP_zero {p : Par} {s : List Ask} {id : Int} {x : List Int} (h : queryP p s id x = 0) : queryE p x = 0 ∧ 1 ≤ id ∧ hasId s id = false ∧ s.length < 8 ∧ (rankV (rowsP p s [x]) p.Q : Int) ≤ p.R := by
  unfold queryP at h
  split at h
  · exact absurd h (by decide)
  rename_i h0
  split at h
  · rename_i h1
    simp only [wrongB, decide_eq_true_eq] at h1
    exact absurd h h1
  rename_i h1
  split at h
  · exact absurd h (by decide)
  rename_i h2
  split at h
  · exact absurd h (by decide)
  rename_i h3
  split at h
  · exact absurd h (by decide)
  rename_i h4
  simp only [wrongB, decide_eq_true_eq, Bool.or_eq_true, not_or, Bool.not_eq_true] at h0 h1 h2 h3 h4
  exact ⟨by omega, by omega, h2, by omega, by omega⟩
/-- what was admitted. -/
structure GoodQ (p : Par) (l s : List Ask) : Prop where
  q : ∀ a ∈ s, queryE p a.x = 0 ∧ 1 ≤ a.id
  ids : s.Pairwise fun a b => a.id ≠ b.id
  rank : ∀ i, i < s.length → (rankP p (s.take (i + 1)) : Int) ≤ p.R
  few : s.length ≤ 8
  mem : ∀ a ∈ s, a ∈ l
theorem GoodQ.step {p : Par} {l s : List Ask} {a : Ask} (h : GoodQ p l s) (ha : a ∈ l) : GoodQ p l (stepP p s a) := by
  unfold stepP
  split
  · rename_i h0
    obtain ⟨e1, e2, e3, e4, e5⟩ := queryP_zero h0
    refine ⟨fun b hb => ?_, ?_, fun i hi => ?_, by rw [List.length_append]; simp; omega, fun b hb => ?_⟩
    · rcases List.mem_append.1 hb with hb | hb
      · exact h.q b hb
      · obtain rfl := List.mem_singleton.1 hb
        exact ⟨e1, e2⟩
    · rw [List.pairwise_append]
      refine ⟨h.ids, List.pairwise_singleton _ _, fun b hb c hc => ?_⟩
      obtain rfl := List.mem_singleton.1 hc
      intro e
      unfold hasId at e3
      rw [List.any_eq_false] at e3
      exact e3 b hb (by simpa using e)
    · rcases Nat.lt_or_ge i s.length with h1 | h1
      · rw [List.take_append_of_le_length (by omega)]
        exact h.rank i h1
      · rw [List.length_append] at hi
        have hi : i = s.length := by simp at hi; omega
        rw [List.take_of_length_le (by rw [List.length_append]; simp; omega)]
        have e : rowsP p (s ++ [a]) [] = rowsP p s [a.x] := by unfold rowsP; simp
        unfold rankP
        rw [e]; exact e5
    · rcases List.mem_append.1 hb with hb | hb
      · exact h.mem b hb
      · obtain rfl := List.mem_singleton.1 hb
        exact ha
  · exact h
theorem GoodQ.play (p : Par) (l : List Ask) : ∀ k, k ≤ l.length → GoodQ p l (playL p (l.take k)) := by
  intro k
  induction k with
  | zero => intro _; exact ⟨fun a h => (by simp [playL] at h), (by simp [playL]), fun i h => (by simp [playL] at h), (by simp [playL]), fun a h => (by simp [playL] at h)⟩
  | succ k ih =>
    intro hk
    obtain ⟨a, ha⟩ := get_of_lt (show k < l.length by omega)
    rw [playL_snoc ha]
    exact (ih (by omega)).step (List.mem_of_getElem? ha)
theorem GoodQ.ok {p : Par} {l s : List Ask} (h : GoodQ p l s) (hl : AskOk l) : AskOk s := ⟨by have := h.few; omega, fun a ha => hl.id a (h.mem a ha), fun a ha => hl.x a (h.mem a ha), fun a ha => hl.len a (h.mem a ha)⟩
/-- what is told of a query that was put. -/
def NextV (p : Par) (s : List Ask) (a : Ask) (base : Nat) (w : World) (v : Value) : Prop := (queryP p s a.id a.x = 0 → OwnA w base v (s ++ [a])) ∧ (queryP p s a.id a.x ≠ 0 → v = .slice none 0 0)
theorem NextV.below {p : Par} {s : List Ask} {a : Ask} {base : Nat} {w w' : World} {v : Value} (h : NextV p s a base w v) (hb : Below w.heap.size w w') : NextV p s a base w' v := ⟨fun h0 => (h.1 h0).below hb, h.2⟩
def PutV (p : Par) (s : List Ask) (a : Ask) (base : Nat) (w : World) (v : Value) : Prop := ∃ v', v = .tuple #[v', .int .i64 (queryP p s a.id a.x)] ∧ NextV p s a base w v'
theorem PutV.below {p : Par} {s : List Ask} {a : Ask} {base : Nat} {w w' : World} {v : Value} (h : PutV p s a base w v) (hb : Below w.heap.size w w') : PutV p s a base w' v := by
  obtain ⟨v', rfl, h1⟩ := h
  exact ⟨v', rfl, h1.below hb⟩
set_option maxRecDepth 100000 in
set_option maxHeartbeats 4000000 in
theorem play_c (p : Par) (hp : p.ok) (A : Option Addr) (l : List Ask) (c : Nat) (w : World) (hA : Asks w A l) (hl : AskOk l) (hTab : Tabs w) [DecidableEq Lit] :
    Calls Tryd.prog 42 #[pval p, .slice A l.length c] w fun e w' => ∃ v, e = .returned v ∧ OwnA w' w.heap.size v (playL p l) ∧ Below w.heap.size w w' := by
  have hlf := hl.few
  have hb0 := below_alloc w (.cells (pcells p).toArray 43)
  have hP := row1_new w (pcells p) 43
  have HA := hid hA
  have HL := hid hl
  have HG := hid (GoodQ.play p l)
  have HT := hid hTab
  clear hA hl hTab
  go_enter Tryd.func42, Tryd.ntmps42
  go_wp2
  simp only [List.toArray] at hb0 hP
  generalize w.alloc (.cells #[.int .u64 p.P, .int .u64 p.Q, .int .u64 p.G, .int .u64 p.H, .int .i64 p.Nodes, .int .i64 p.N, .int .i64 p.T, .int .i64 p.K, .int .i64 p.D, .int .i64 p.R, .int .i64 p.M, .int .i64 p.X] 43) = w1 at *
  have HP := hid hP
  have HB := hid hb0
  clear hP hb0
  go_loopw [5, 6] (fun o i wr => ∃ k : Nat, i = .int .i64 (k : Int) ∧ k ≤ l.length ∧ Hid (OwnA wr w.heap.size o (playL p (l.take k)) ∧ Row1 wr w.heap.size 43 (pcells p) ∧ Below w.heap.size w wr)) (fun _ i _ => l.length - (intOf i).toNat)
  case atStart => exact ⟨0, rfl, by omega, hid ⟨OwnA.nil _ _, HP.out, HB.out⟩⟩
  case round =>
    obtain ⟨k, rfl, hk, HI⟩ := hrel
    rename_i o wr
    by_cases hlt : k < l.length
    · obtain ⟨a, ha⟩ := get_of_lt hlt
      obtain ⟨b, off, A', c', rfl, ca, cx, hcs, hxl⟩ := (HA.out.below HI.out.2.2).at_ ha
      obtain ⟨A2, c2, rfl, hA2⟩ := HI.out.1.asks
      have hok := (HG.out k hk).ok HL.out
      have hO := HI.out.1
      have hP := HI.out.2.1
      have hbw := HI.out.2.2
      have hT := HT.out.below hbw
      have HS := hid (playL_snoc (p := p) ha)
      have hal := HL.out.len a (List.mem_of_getElem? ha)
      have hax := HL.out.x a (List.mem_of_getElem? ha)
      clear ha HI
      generalize playL p (l.take k) = s at *
      have HSt := hid (show stepP p s a = if queryP p s a.id a.x = 0 then s ++ [a] else s from rfl)
      obtain ⟨E, hE⟩ : ∃ E, queryP p s a.id a.x = E := ⟨_, rfl⟩
      have HE := hid hE
      have hTab := hT
      clear hT hE
      go_upto_region 5 with (fail)
      refine Rg.wp_region (l := [_, _, _, _, _, _, _, _, _, _, _, _, _, _, _, _, _]) (tail := [_]) (Rg.grows _ 18) [some 16, some 17, some 18, some 19, some 20, some 21, some 22, some 23, some 24, some 25, some 26, some 27, some 28, some 15, some 29, some 30, some 7, some 8] 35 (by kernel_rfl) (by kernel_rfl) (by kernel_rfl) rfl (Rg.grows_fair _ _) (Rg.keep_drew _) (trivial) ?_
      refine Rg.op_is (pval p) [] rfl rfl (by kernel_rfl) ?_ ?_
      · intro wx hb
        refine Rg.from_nil fun T hT => ?_
        obtain ⟨p0, p1, p2, p3, p4, p5, p6, p7, p8, p9, p10, p11⟩ := par_cells (hP.below hb)
        go_wp2
        exact hT _ _ rfl (by first | exact Rg.Keep.refl _ | exact below_of_dr hw2 | exact hw2 | exact (Below.refl _ _).alloc (Nat.le_refl _) _) (by first | rfl | exact congrArg _ (by decide))
      refine' Rg.op_is _ [] rfl rfl (by kernel_rfl) ?_ ?_
      rotate_left
      · intro wx hb
        refine Rg.from_nil fun T hT => ?_
        go_wp2
        refine hT _ _ rfl (by first | exact Rg.Keep.refl _ | exact below_of_dr hw2 | exact hw2 | exact (Below.refl _ _).alloc (Nat.le_refl _) _) ?_
        simp only [Rg.last, List.getElem?_toArray, List.getElem?_cons_succ, List.getElem?_cons_zero, Option.getD_some]
        rfl
      refine' Rg.op_is _ [] rfl rfl (by kernel_rfl) ?_ ?_
      rotate_left
      · intro wx hb
        refine Rg.from_nil fun T hT => ?_
        go_wp2
        refine hT _ _ rfl (by first | exact Rg.Keep.refl _ | exact below_of_dr hw2 | exact hw2 | exact (Below.refl _ _).alloc (Nat.le_refl _) _) ?_
        simp only [Rg.last, List.getElem?_toArray, List.getElem?_cons_succ, List.getElem?_cons_zero, Option.getD_some]
        rfl
      refine' Rg.op_is _ [] rfl rfl (by kernel_rfl) ?_ ?_
      rotate_left
      · intro wx hb
        refine Rg.from_nil fun T hT => ?_
        go_wp2
        refine hT _ _ rfl (by first | exact Rg.Keep.refl _ | exact below_of_dr hw2 | exact hw2 | exact (Below.refl _ _).alloc (Nat.le_refl _) _) ?_
        simp only [Rg.last, List.getElem?_toArray, List.getElem?_cons_succ, List.getElem?_cons_zero, Option.getD_some]
        rfl
      refine' Rg.op_is _ [2, 3] rfl rfl (by kernel_rfl) ?_ ?_
      rotate_left
      · intro wx hb
        refine Rg.from_is (some 18) rfl rfl ?_
        refine Rg.from_is (some 19) rfl rfl ?_
        refine Rg.from_nil fun T hT => ?_
        go_wp2
        refine hT _ _ rfl (by first | exact Rg.Keep.refl _ | exact below_of_dr hw2 | exact hw2 | exact (Below.refl _ _).alloc (Nat.le_refl _) _) ?_
        simp only [Rg.last, List.getElem?_toArray, List.getElem?_cons_succ, List.getElem?_cons_zero, Option.getD_some]
        rfl
      refine' Rg.op_is _ [4] rfl rfl (by kernel_rfl) ?_ ?_
      rotate_left
      · intro wx hb
        refine Rg.from_is (some 20) rfl rfl ?_
        refine Rg.from_nil fun T hT => ?_
        go_wp2
        refine hT _ _ rfl (by first | exact Rg.Keep.refl _ | exact below_of_dr hw2 | exact hw2 | exact (Below.refl _ _).alloc (Nat.le_refl _) _) ?_
        simp only [Rg.last, List.getElem?_toArray, List.getElem?_cons_succ, List.getElem?_cons_zero, Option.getD_some]
        rfl
      refine Rg.op_is (.int .i64 a.id) [5] rfl rfl (by kernel_rfl) ?_ ?_
      · intro wx hb
        refine Rg.from_is (some 21) rfl rfl ?_
        refine Rg.from_nil fun T hT => ?_
        have c3 := (hb.cell (lt_of_cell ca)).trans ca
        go_wp2
        exact hT _ _ rfl (by first | exact Rg.Keep.refl _ | exact below_of_dr hw2 | exact hw2 | exact (Below.refl _ _).alloc (Nat.le_refl _) _) (by first | rfl | exact congrArg _ (by decide))
      refine' Rg.op_is _ [] rfl rfl (by kernel_rfl) ?_ ?_
      rotate_left
      · intro wx hb
        refine Rg.from_nil fun T hT => ?_
        go_wp2
        refine hT _ _ rfl (by first | exact Rg.Keep.refl _ | exact below_of_dr hw2 | exact hw2 | exact (Below.refl _ _).alloc (Nat.le_refl _) _) ?_
        simp only [Rg.last, List.getElem?_toArray, List.getElem?_cons_succ, List.getElem?_cons_zero, Option.getD_some]
        rfl
      refine' Rg.op_is _ [] rfl rfl (by kernel_rfl) ?_ ?_
      rotate_left
      · intro wx hb
        refine Rg.from_nil fun T hT => ?_
        go_wp2
        refine hT _ _ rfl (by first | exact Rg.Keep.refl _ | exact below_of_dr hw2 | exact hw2 | exact (Below.refl _ _).alloc (Nat.le_refl _) _) ?_
        simp only [Rg.last, List.getElem?_toArray, List.getElem?_cons_succ, List.getElem?_cons_zero, Option.getD_some]
        rfl
      refine' Rg.op_is _ [7, 8] rfl rfl (by kernel_rfl) ?_ ?_
      rotate_left
      · intro wx hb
        refine Rg.from_is (some 23) rfl rfl ?_
        refine Rg.from_is (some 24) rfl rfl ?_
        refine Rg.from_nil fun T hT => ?_
        go_wp2
        refine hT _ _ rfl (by first | exact Rg.Keep.refl _ | exact below_of_dr hw2 | exact hw2 | exact (Below.refl _ _).alloc (Nat.le_refl _) _) ?_
        simp only [Rg.last, List.getElem?_toArray, List.getElem?_cons_succ, List.getElem?_cons_zero, Option.getD_some]
        rfl
      refine' Rg.op_is _ [9] rfl rfl (by kernel_rfl) ?_ ?_
      rotate_left
      · intro wx hb
        refine Rg.from_is (some 25) rfl rfl ?_
        refine Rg.from_nil fun T hT => ?_
        go_wp2
        refine hT _ _ rfl (by first | exact Rg.Keep.refl _ | exact below_of_dr hw2 | exact hw2 | exact (Below.refl _ _).alloc (Nat.le_refl _) _) ?_
        simp only [Rg.last, List.getElem?_toArray, List.getElem?_cons_succ, List.getElem?_cons_zero, Option.getD_some]
        rfl
      refine Rg.op_is (.slice A' a.x.length c') [10] rfl rfl (by kernel_rfl) ?_ ?_
      · intro wx hb
        refine Rg.from_is (some 26) rfl rfl ?_
        refine Rg.from_nil fun T hT => ?_
        have c3 := (hb.cell (lt_of_cell cx)).trans cx
        go_wp2
        exact hT _ _ rfl (by first | exact Rg.Keep.refl _ | exact below_of_dr hw2 | exact hw2 | exact (Below.refl _ _).alloc (Nat.le_refl _) _) (by first | rfl | exact congrArg _ (by decide))
      refine Rg.op_of (fun w' v => PutV p s a w.heap.size w' v) [0, 1, 6, 11] rfl ?_ ?_ rfl (by kernel_rfl) ?_ ?_
      · exact fun w1 w2 v hk h => h.below hk
      · exact fun w1 w2 v hk h => h.below hk
      · intro wx hb
        refine Rg.from_is (some 16) rfl rfl ?_
        refine Rg.from_is (some 17) rfl rfl ?_
        refine Rg.from_is (some 22) rfl rfl ?_
        refine Rg.from_is (some 27) rfl rfl ?_
        refine Rg.from_nil fun T hT => ?_
        go_wp2_with (fail)
        refine (aput_c p hp A2 s c2 a.id A' a.x c' _ (hA2.below hb) hok (hcs.below hb) (by omega) hax (hTab.below hb)).mono ?_
        rintro e w4 ⟨v, rfl, g1, g2, hw2⟩
        have hpv : PutV p s a w.heap.size w4 (.tuple #[v, .int .i64 (queryP p s a.id a.x)]) := ⟨v, rfl, fun h => (g1 h).from_ (by have h1 := hbw.size; have h2 := hb.size; omega), g2⟩
        clear g1 g2
        go_wp2
        exact hT _ _ rfl hw2 hpv
      refine Rg.op_of (fun w' v => PutV p s a w.heap.size w' v) [12] rfl ?_ ?_ rfl (by kernel_rfl) ?_ ?_
      · exact fun w1 w2 v hk h => h.below hk
      · exact fun w1 w2 v hk h => h.below hk
      · intro wx hb
        refine Rg.from_of (some 28) rfl rfl fun v28 h28 => ?_
        refine Rg.from_nil fun T hT => ?_
        have h := h28
        go_wp2
        exact hT _ _ rfl (Below.refl _ _) h
      refine Rg.op_of (fun w' v => NextV p s a w.heap.size w' v) [13] rfl ?_ ?_ rfl (by kernel_rfl) ?_ ?_
      · exact fun w1 w2 v hk h => h.below hk
      · exact fun w1 w2 v hk h => h.below hk
      · intro wx hb
        refine Rg.from_of (some 15) rfl rfl fun v15 h15 => ?_
        refine Rg.from_nil fun T hT => ?_
        obtain ⟨v', rfl, h⟩ := h15
        go_wp2
        exact hT _ _ rfl (Below.refl _ _) h
      refine Rg.op_is (.int .i64 E) [13] rfl rfl (by kernel_rfl) ?_ ?_
      · intro wx hb
        refine Rg.from_of (some 15) rfl rfl fun v15 h15 => ?_
        refine Rg.from_nil fun T hT => ?_
        obtain ⟨v', rfl, h⟩ := h15
        rw [HE.out]
        go_wp2
        exact hT _ _ rfl (Below.refl _ _) rfl
      refine Rg.op_of (fun w' v => NextV p s a w.heap.size w' v) [14] rfl ?_ ?_ rfl (by kernel_rfl) ?_ ?_
      · exact fun w1 w2 v hk h => h.below hk
      · exact fun w1 w2 v hk h => h.below hk
      · intro wx hb
        refine Rg.from_of (some 29) rfl rfl fun v29 h29 => ?_
        refine Rg.from_nil fun T hT => ?_
        have h := h29
        go_wp2
        exact hT _ _ rfl (Below.refl _ _) h
      refine Rg.walk_nil [0, 1, 2, 3, 4, 5, 6, 7, 8, 9, 10, 11, 12, 13, 14, 15, 16] (by kernel_rfl) ?_
      intro wx hb
      refine Rg.from_is (some 16) rfl rfl ?_
      refine Rg.from_is (some 17) rfl rfl ?_
      refine Rg.from_is (some 18) rfl rfl ?_
      refine Rg.from_is (some 19) rfl rfl ?_
      refine Rg.from_is (some 20) rfl rfl ?_
      refine Rg.from_is (some 21) rfl rfl ?_
      refine Rg.from_is (some 22) rfl rfl ?_
      refine Rg.from_is (some 23) rfl rfl ?_
      refine Rg.from_is (some 24) rfl rfl ?_
      refine Rg.from_is (some 25) rfl rfl ?_
      refine Rg.from_is (some 26) rfl rfl ?_
      refine Rg.from_is (some 27) rfl rfl ?_
      refine Rg.from_of (some 28) rfl rfl fun v28 h28 => ?_
      refine Rg.from_of (some 15) rfl rfl fun v15 h15 => ?_
      refine Rg.from_of (some 29) rfl rfl fun v29 h29 => ?_
      refine Rg.from_is (some 30) rfl rfl ?_
      refine Rg.from_of (some 7) rfl rfl fun v7 h7 => ?_
      refine Rg.from_nil ?_
      simp only [List.map, Act.put, List.setIfInBounds_toArray, List.set_cons_zero, List.set_cons_succ]
      have hO2 := hO.below hb
      have hP2 := hP.below hb
      have hb2 := below_next hbw hbw.size hb
      have hN := h7
      clear h28 h15 h29 h7 hO hP hbw
      by_cases hE0 : E = 0
      · subst hE0
        have HN := hid (And.intro (show OwnA wx w.heap.size v7 (playL p (l.take (k + 1))) by rw [HS.out, HSt.out, if_pos HE.out]; exact hN.1 HE.out) (And.intro hP2 hb2))
        clear hN hO2 hP2 hb2
        go_wp2
        go_roundw
        case rel => exact ⟨k + 1, by go_num, by omega, HN⟩
        case measure => simp [intOf]; omega
      · have hbe : (E == 0) = false := by simpa using hE0
        have HN := hid (And.intro (show OwnA wx w.heap.size (.slice A2 s.length c2) (playL p (l.take (k + 1))) by rw [HS.out, HSt.out, if_neg (by rw [HE.out]; exact hE0)]; exact hO2) (And.intro hP2 hb2))
        clear hN hO2 hP2 hb2
        go_wp2
        go_roundw
        case rel => exact ⟨k + 1, by go_num, by omega, HN⟩
        case measure => simp [intOf]; omega
    · obtain rfl : k = l.length := by omega
      rw [List.take_length] at HI
      go_wp2
      go_ret
      exact ⟨_, rfl, HI.out.1, HI.out.2.2⟩
end Go.Proofs.YtcojnjhffmhbiaaDoor
end

section
namespace Go.Proofs.YtcojnjhffmhbiaaDoor
open Go Go.RowKit Go.Maps Go.Shelf Go.Proofs
attribute [local go_sem] Oper.semAt_some
theorem ids_ne {l : List Ask} (h : l.Pairwise fun a b => a.id ≠ b.id) {i j : Nat} {a b : Ask} (hi : l[i]? = some a) (hj : l[j]? = some b) (hlt : i < j) : (a.id == b.id) = false := by
  obtain ⟨h1, rfl⟩ := List.getElem?_eq_some_iff.1 hi
  obtain ⟨h2, rfl⟩ := List.getElem?_eq_some_iff.1 hj
  have := List.pairwise_iff_getElem.1 h i j h1 h2 hlt
  simpa using this
end Go.Proofs.YtcojnjhffmhbiaaDoor
end

section
namespace Go.Proofs.YtcojnjhffmhbiaaDoor
open Go Go.RowKit Go.Maps Go.Shelf Go.Proofs
attribute [local go_sem] Oper.semAt_some
set_option maxRecDepth 100000 in
theorem asame_none (c c2 : Nat) (A : Option Addr) (w : World) : Calls Tryd.prog 78 #[.slice none 0 c, .slice A 0 c2] w fun e w' => e = .returned (.bool true) ∧ Dr w w' := by
  go_enter Tryd.func78, Tryd.ntmps78
  go_wp2
  go_loopw [17] (fun i wr => i = .int .i64 0 ∧ Dr w wr) (fun i _ => 0)
  case atStart => exact ⟨rfl, Dr.refl _⟩
  case round =>
    obtain ⟨rfl, hd⟩ := hrel
    go_wp2
    go_ret
    exact ⟨rfl, hd⟩
set_option maxRecDepth 100000 in
theorem asame_no (A B : Option Addr) (n m c d : Nat) (w : World) (hne : n ≠ m) : Calls Tryd.prog 78 #[.slice A n c, .slice B m d] w fun e w' => e = .returned (.bool false) ∧ Dr w w' := by
  have h1 : ((n : Int) != (m : Int)) = true := by simp; omega
  go_enter Tryd.func78, Tryd.ntmps78
  go_wp2
  go_ret
  exact ⟨rfl, Dr.refl _⟩
abbrev oneL : List Ask := [⟨1, [1, 0]⟩]
/-- the table: an ID, entries, what is told. -/
structure TabE where
  id : Int
  x : List Int
  e : Int
abbrev tabE : List TabE := [⟨2, [4, 0], 20⟩, ⟨0, [1, 0], 4⟩, ⟨-1, [1, 0], 4⟩, ⟨1099511627777, [1, 0], 4⟩, ⟨1099511627776, [1, 0], 0⟩, ⟨2, [1], 4⟩, ⟨2, [], 4⟩, ⟨0, [4, 0], 4⟩, ⟨1, [4, 0], 20⟩, ⟨1, [0, 3], 6⟩]
theorem tab_q : ∀ t ∈ tabE, queryP pEx oneL t.id t.x = t.e := by
  intro t ht
  rw [queryP_C]
  have h : (tabE.all fun t => decide (queryC pEx oneL t.id t.x = t.e)) = true := by decide +kernel
  exact of_decide_eq_true (List.all_eq_true.1 h t ht)
theorem tab_ok : ∀ t ∈ tabE, I64 t.id ∧ I64s t.x ∧ t.x.length ≤ 2 ∧ 0 ≤ t.e ∧ t.e < 100 := by
  intro t ht
  have h : (tabE.all fun t => decide (-9223372036854775808 ≤ t.id ∧ t.id < 9223372036854775808) && (t.x.all fun n => decide (-9223372036854775808 ≤ n) && decide (n < 9223372036854775808)) && decide (t.x.length ≤ 2) && decide (0 ≤ t.e ∧ t.e < 100)) = true := by decide +kernel
  have := List.all_eq_true.1 h t ht
  simp only [Bool.and_eq_true, decide_eq_true_eq] at this
  exact ⟨this.1.1.1, i64s_of this.1.1.2, this.1.2, this.2⟩
/-- the table lies here. -/
def TabAt (w : World) (g : Nat) : Prop := ∀ (k : Nat) (t : TabE), tabE[k]? = some t → ∃ A c, w.cell? ⟨g, k * 3, none⟩ = some (.int .i64 t.id) ∧ w.cell? ⟨g, k * 3 + 1, none⟩ = some (.slice A t.x.length c) ∧ w.cell? ⟨g, k * 3 + 2, none⟩ = some (.int .i64 t.e) ∧ Cells w A (t.x.map (.int .i64))
theorem TabAt.below {w w' : World} {g : Nat} (h : TabAt w g) (hb : Below w.heap.size w w') : TabAt w' g := by
  intro k t hk
  obtain ⟨A, c, h1, h2, h3, h4⟩ := h k t hk
  exact ⟨A, c, (hb.cell (lt_of_cell h1)).trans h1, (hb.cell (lt_of_cell h2)).trans h2, (hb.cell (lt_of_cell h3)).trans h3, h4.below hb⟩
abbrev manyL (k : Nat) : List Ask := (List.range k).map fun (i : Nat) => (⟨(i : Int) + 1, [1, 0]⟩ : Ask)
theorem manyL_succ (k : Nat) : manyL (k + 1) = manyL k ++ [⟨(k : Int) + 1, [1, 0]⟩] := by simp [manyL, List.range_succ]
theorem manyL_len (k : Nat) : (manyL k).length = k := by simp
abbrev pBad : Par := ⟨0, 11, 0, 0, 0, 0, 0, 1, 5, 1, 1, 3⟩
abbrev pOdd : Par := ⟨0, 9, 0, 0, 0, 0, 0, 1, 2, 1, 1, 3⟩
abbrev pZero : Par := ⟨0, 11, 0, 0, 0, 0, 0, 1, 2, 0, 1, 3⟩
abbrev pLess : Par := ⟨0, 11, 0, 0, 0, 0, 0, 1, 2, -1, 1, 3⟩
theorem pBad_ok : pBad.ok := by constructor <;> exact ⟨by decide, by decide⟩
theorem pOdd_ok : pOdd.ok := by constructor <;> exact ⟨by decide, by decide⟩
theorem pZero_ok : pZero.ok := by constructor <;> exact ⟨by decide, by decide⟩
theorem pLess_ok : pLess.ok := by constructor <;> exact ⟨by decide, by decide⟩
theorem an_f1 : followsP pEx twoL [2, -1] = true := by rw [followsP_C]; decide +kernel
theorem an_r0 : rankP pEx [] = 0 := by rw [rankP_C]; decide +kernel
theorem an_1 : queryP pEx (manyL 8) 9 [1, 0] = 41 := by rw [queryP_C]; decide +kernel
theorem an_2 : queryP pEx (manyL 8) 8 [1, 0] = 6 := by rw [queryP_C]; decide +kernel
theorem an_3 : queryP pEx (manyL 7) 8 [1, 0] = 0 := by rw [queryP_C]; decide +kernel
theorem an_4 : queryP pBad [] 1 [1, 0, 0, 0, 0] = 4 := by rw [queryP_C]; decide +kernel
theorem an_5 : rankP pBad twoL = 0 := by rw [rankP_C]; decide +kernel
theorem an_6 : rankP pOdd twoL = 0 := by rw [rankP_C]; decide +kernel
theorem an_7 : followsP pOdd twoL [1, 0] = false := by rw [followsP_C]; decide +kernel
theorem an_8 : queryP pOdd twoL 3 [1, 1] = 0 := by rw [queryP_C]; decide +kernel
theorem an_9 : queryP pZero [] 1 [0, 0] = 22 := by rw [queryP_C]; decide +kernel
theorem an_10 : queryP pLess [] 1 [1, 0] = 22 := by rw [queryP_C]; decide +kernel
end Go.Proofs.YtcojnjhffmhbiaaDoor
end
