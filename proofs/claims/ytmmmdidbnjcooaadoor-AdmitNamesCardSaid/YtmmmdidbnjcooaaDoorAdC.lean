/-
  What Query asks, one by one; Query: the program's.
-/
import Derived.Test.YtmmmdidbnjcooaaDoorAdB
namespace Go.Proofs.YtmmmdidbnjcooaaDoor
open Go Go.RowKit Go.Maps Go.Shelf Go.Proofs

attribute [local go_sem] Oper.semAt_some

/-- what Query's functions look at. -/
structure QBx (w : World) (bp ba bi bx be : Nat) (p : Par) (A : Option Addr) (l : List Ask) (c : Nat) (id : Int) (A2 : Option Addr) (x : List Int) (c2 : Nat) : Prop where
  pp : Row1 w bp 34 (pcells p)
  aa : Row1 w ba 35 [.slice A l.length c]
  ii : Row1 w bi 3 [.int .i64 id]
  xx : Row1 w bx 36 [.slice A2 x.length c2]
  ee : Row1 w be 27 [.int .i64 (queryE p x)]
  qs : Asks w A l
  xs : Cells w A2 (x.map (.int .i64))
  tab : Tabs w
theorem QBx.below {w w' : World} {bp ba bi bx be : Nat} {p : Par} {A : Option Addr} {l : List Ask} {c : Nat} {id : Int} {A2 : Option Addr} {x : List Int} {c2 : Nat} (h : QBx w bp ba bi bx be p A l c id A2 x c2) (hb : Below w.heap.size w w') : QBx w' bp ba bi bx be p A l c id A2 x c2 :=
  ⟨h.pp.below hb, h.aa.below hb, h.ii.below hb, h.xx.below hb, h.ee.below hb, h.qs.below hb, h.xs.below hb, h.tab.below hb⟩
def hasId (l : List Ask) (id : Int) : Bool := l.any fun a => decide (a.id = id)
theorem hasId_take {l : List Ask} {k : Nat} {a : Ask} {id : Int} (h : l[k]? = some a) (h1 : hasId (l.take k) id = false) (h2 : (a.id == id) = false) : hasId (l.take (k + 1)) id = false := by
  unfold hasId at h1 ⊢
  rw [take_snocR h, List.any_append, h1]
  simp at h2; simp [h2]
theorem hasId_at {l : List Ask} {k : Nat} {a : Ask} {id : Int} (h : l[k]? = some a) (h2 : (a.id == id) = true) : hasId l id = true := by
  unfold hasId
  rw [List.any_eq_true]
  exact ⟨a, List.mem_of_getElem? h, by simpa using h2⟩
/-- is it wrong? -/
noncomputable def wrongB (p : Par) (l : List Ask) (id : Int) (x : List Int) : Nat → Bool
  | 0 => decide (queryE p x = 4) || (decide (id < 1) || decide (id > 1099511627776))
  | 1 => decide (queryE p x ≠ 0)
  | 2 => hasId l id
  | 3 => decide (8 ≤ l.length)
  | _ => decide ((rankV (rowsP p l [x]) p.Q : Int) > p.R)
def errA (p : Par) (x : List Int) : Nat → Int
  | 0 => 4
  | 1 => queryE p x
  | 2 => 6
  | 3 => 41
  | _ => 22
theorem queryE_or (p : Par) (x : List Int) : queryE p x = 0 ∨ queryE p x = 4 ∨ queryE p x = 20 := by
  unfold queryE
  split
  · exact .inr (.inl rfl)
  · split
    · exact .inl rfl
    · exact .inr (.inr rfl)
set_option maxRecDepth 100000 in
theorem q1_c (be bi : Nat) (e id : Int) (w : World) (he : Row1 w be 27 [.int .i64 e]) (hi : Row1 w bi 3 [.int .i64 id]) :
    Calls Tryd.prog 66 #[.pointer (some ⟨be, 0, none⟩), .pointer (some ⟨bi, 0, none⟩)] w fun r w' => r = .returned (.bool (decide (e = 4) || (decide (id < 1) || decide (id > 1099511627776)))) ∧ w = w' := by
  have c1 := he.cell (k := 0) rfl
  have c2 := hi.cell (k := 0) rfl
  by_cases h1 : e = 4
  · subst h1
    go_enter Tryd.func66, Tryd.ntmps66
    go_wp2
    go_ret
    exact ⟨ret_bool (by simp), rfl⟩
  · have hb1 : (e == 4) = false := by simpa using h1
    have hd1 : decide (e = 4) = false := by simpa using h1
    rw [hd1]
    clear h1 hd1
    by_cases h2 : id < 1
    · have hd2 : decide (id < 1) = true := by simpa using h2
      go_enter Tryd.func66, Tryd.ntmps66
      go_wp2
      go_ret
      exact ⟨ret_bool (by simp [h2]), rfl⟩
    · have hd2 : decide (id < 1) = false := by simpa using h2
      rw [hd2]
      go_enter Tryd.func66, Tryd.ntmps66
      go_wp2
      go_ret
      exact ⟨ret_bool (by simp), rfl⟩
theorem q2_c (be : Nat) (e : Int) (w : World) (he : Row1 w be 27 [.int .i64 e]) :
    Calls Tryd.prog 67 #[.pointer (some ⟨be, 0, none⟩)] w fun r w' => r = .returned (.bool (decide (e ≠ 0))) ∧ w = w' := by
  have c1 := he.cell (k := 0) rfl
  go_enter Tryd.func67, Tryd.ntmps67
  go_wp2
  go_ret
  refine ⟨ret_bool ?_, rfl⟩
  by_cases h : e = 0 <;> simp [h]
theorem q4_c (ba : Nat) (A : Option Addr) (n c : Nat) (w : World) (hn : n ≤ 1000000) (he : Row1 w ba 35 [.slice A n c]) :
    Calls Tryd.prog 71 #[.pointer (some ⟨ba, 0, none⟩)] w fun r w' => r = .returned (.bool (decide (8 ≤ n))) ∧ w = w' := by
  have c1 := he.cell (k := 0) rfl
  go_enter Tryd.func71, Tryd.ntmps71
  go_wp2
  go_ret
  refine ⟨ret_bool ?_, rfl⟩
  by_cases h : 8 ≤ n <;> simp [h] <;> omega
theorem q31_c (bi : Nat) (id i : Int) (v : Value) (w : World) (hi : Row1 w bi 3 [.int .i64 id]) :
    Calls Tryd.prog 70 #[.agg #[.int .i64 i, v], .pointer (some ⟨bi, 0, none⟩)] w fun r w' => r = .returned (.bool (i == id)) ∧ Below w.heap.size w w' := by
  have c1 := (hi.alloc (.cells #[.int .i64 i, v] 38)).cell (k := 0) rfl
  go_enter Tryd.func70, Tryd.ntmps70
  go_wp2
  go_ret
  exact ⟨rfl, below_alloc _ _⟩
set_option maxRecDepth 100000 in
set_option maxHeartbeats 1000000 in
theorem idxA_c (A : Option Addr) (l : List Ask) (c : Nat) (bi : Nat) (id : Int) (w : World) (hA : Asks w A l) (hl : AskOk l) (hi : Row1 w bi 3 [.int .i64 id]) :
    Calls Tryd.prog 94 #[.slice A l.length c, .func (.func 70) #[] #[.pointer (some ⟨bi, 0, none⟩)]] w fun e w' => (∃ k : Int, e = .returned (.int .i64 k) ∧ decide (k ≥ 0) = hasId l id) ∧ Below w.heap.size w w' := by
  have hlf := hl.few
  have HA0 := hid hA
  have HI0 := hid hi
  clear hA hi
  go_enter Tryd.func94, Tryd.ntmps94
  go_wp2
  go_loopw [5, 8] (fun _ i wr => ∃ k : Nat, i = .int .i64 (k : Int) ∧ k ≤ l.length ∧ Hid (hasId (l.take k) id = false ∧ Below w.heap.size w wr)) (fun _ i _ => l.length - (intOf i).toNat)
  case atStart => exact ⟨0, rfl, by omega, hid ⟨rfl, Below.refl _ _⟩⟩
  case round =>
    obtain ⟨k, rfl, hk, HI⟩ := hrel
    rename_i wr
    by_cases hlt : k < l.length
    · obtain ⟨a, ha⟩ := get_of_lt hlt
      obtain ⟨b, off, A', c', rfl, ca, cx, _, _⟩ := (HA0.out.below HI.out.2).at_ ha
      have hi2 := HI0.out.below HI.out.2
      have HB := hid HI.out.2
      cases hn : (a.id == id) with
      | false =>
        have HT := hid (hasId_take ha HI.out.1 hn)
        clear HI ha
        go_wp2_with (go_at_call 70; refine (q31_c bi id a.id _ _ hi2).mono ?_; rintro e w2 ⟨rfl, hb2⟩; rw [hn])
        go_roundw
        case rel => exact ⟨k + 1, by go_num, by omega, hid ⟨HT.out, below_next HB.out HB.out.size hb2⟩⟩
        case measure => simp [intOf]; omega
      | true =>
        have HF := hid (hasId_at ha hn)
        clear HI ha
        go_wp2_with (go_at_call 70; refine (q31_c bi id a.id _ _ hi2).mono ?_; rintro e w2 ⟨rfl, hb2⟩; rw [hn])
        go_ret
        exact ⟨⟨(k : Int), rfl, by rw [HF.out]; simp⟩, below_next HB.out HB.out.size hb2⟩
    · obtain rfl : k = l.length := by omega
      have HF := HI.out.1
      rw [List.take_length] at HF
      have HF2 := hid HF
      clear HF
      go_wp2
      go_ret
      exact ⟨⟨-1, rfl, by rw [HF2.out]; rfl⟩, HI.out.2⟩
set_option maxHeartbeats 400000 in
theorem contA_c (A : Option Addr) (l : List Ask) (c : Nat) (bi : Nat) (id : Int) (w : World) (hA : Asks w A l) (hl : AskOk l) (hi : Row1 w bi 3 [.int .i64 id]) :
    Calls Tryd.prog 69 #[.slice A l.length c, .func (.func 70) #[] #[.pointer (some ⟨bi, 0, none⟩)]] w fun e w' => e = .returned (.bool (hasId l id)) ∧ Below w.heap.size w w' := by
  have HC := hid (idxA_c A l c bi id w hA hl hi)
  clear hA hl hi
  go_enter Tryd.func69, Tryd.ntmps69
  go_wp2_with (fail)
  refine HC.out.mono ?_
  rintro e w1 ⟨⟨k, rfl, hk⟩, hb⟩
  have HK := hid hk
  clear hk
  go_wp2
  go_ret
  exact ⟨ret_bool (by rw [← HK.out]), hb⟩
theorem q3_c (ba bi : Nat) (A : Option Addr) (l : List Ask) (c : Nat) (id : Int) (w : World) (ha : Row1 w ba 35 [.slice A l.length c]) (hA : Asks w A l) (hl : AskOk l) (hi : Row1 w bi 3 [.int .i64 id]) :
    Calls Tryd.prog 68 #[.pointer (some ⟨ba, 0, none⟩), .pointer (some ⟨bi, 0, none⟩)] w fun e w' => e = .returned (.bool (hasId l id)) ∧ Below w.heap.size w w' := by
  have hmf : ∀ (fn : Fn) (first cap : Array Value) (w : World), (Instr.makeFunc fn first cap).run Tryd.prog w = .ok (.func fn first cap) w := fun _ _ _ _ => rfl
  have c1 := ha.cell (k := 0) rfl
  have HC := hid (contA_c A l c bi id w hA hl hi)
  clear hA hl hi
  go_enter Tryd.func68, Tryd.ntmps68
  go_wp2_with (fail)
  refine HC.out.mono ?_
  rintro e w1 ⟨rfl, hb⟩
  go_wp2
  go_ret
  exact ⟨rfl, hb⟩
def BoxAt (w : World) (v : Value) (e : TypeId) (xs : List Value) : Prop := ∃ g, v = Value.slice (some ⟨g, 0, none⟩) xs.length xs.length ∧ Row1 w g e xs
theorem BoxAt.below {w w' : World} {v : Value} {e : TypeId} {xs : List Value} (h : BoxAt w v e xs) (hb : Below w.heap.size w w') : BoxAt w' v e xs := by
  obtain ⟨g, rfl, hr⟩ := h
  exact ⟨g, rfl, hr.below hb⟩
set_option maxRecDepth 100000 in
set_option maxHeartbeats 2000000 in
theorem q5_c (bp ba bx be bi : Nat) (p : Par) (hp : p.ok) (A : Option Addr) (l : List Ask) (c : Nat) (id : Int) (A2 : Option Addr) (x : List Int) (c2 : Nat) (w : World) (h : QBx w bp ba bi bx be p A l c id A2 x c2) (hl : AskOk l) (hx : x.length ≤ 1000000) (hxu : I64s x) [DecidableEq Lit] :
    Calls Tryd.prog 72 #[.pointer (some ⟨bp, 0, none⟩), .pointer (some ⟨ba, 0, none⟩), .pointer (some ⟨bx, 0, none⟩)] w fun e w' => e = .returned (.bool (wrongB p l id x 4)) ∧ Below w.heap.size w w' := by
  have hok := rowsP_ok p l [x] (by have := hl.few; omega) (by simp)
  have hq := hp.Q
  have H := hid h
  have HWB := hid (show wrongB p l id x 4 = decide ((rankV (rowsP p l [x]) p.Q : Int) > p.R) from rfl)
  generalize wrongB p l id x 4 = WB at *
  clear h
  go_enter Tryd.func72, Tryd.ntmps72
  go_wp2
  refine Rg.wp_region (l := [_, _, _, _, _, _, _, _, _, _, _]) (tail := [_]) (Rg.grows _ 12) [some 4, some 5, some 6, some 7, some 8, some 9, some 10, some 11, some 12, some 13, some 14, some 3] 15 (by kernel_rfl) (by kernel_rfl) (by kernel_rfl) rfl (Rg.grows_fair _ _) (Rg.keep_drew _) (trivial) ?_
  refine Rg.op_is (pval p) [] rfl rfl (by kernel_rfl) ?_ ?_
  · intro wx hb
    refine Rg.from_nil fun T hT => ?_
    obtain ⟨p0, p1, p2, p3, p4, p5, p6, p7, p8, p9, p10, p11⟩ := par_cells (H.out.pp.below hb)
    go_wp2
    exact hT _ _ rfl (by first | exact Rg.Keep.refl _ | exact below_of_dr hw2 | exact hw2 | exact (Below.refl _ _).alloc (Nat.le_refl _) _) (by first | rfl | exact congrArg _ (by decide))
  refine Rg.op_is (.slice A l.length c) [] rfl rfl (by kernel_rfl) ?_ ?_
  · intro wx hb
    refine Rg.from_nil fun T hT => ?_
    have ca := (H.out.aa.below hb).cell (k := 0) rfl
    go_wp2
    exact hT _ _ rfl (by first | exact Rg.Keep.refl _ | exact below_of_dr hw2 | exact hw2 | exact (Below.refl _ _).alloc (Nat.le_refl _) _) (by first | rfl | exact congrArg _ (by decide))
  refine Rg.op_is (.slice A2 x.length c2) [] rfl rfl (by kernel_rfl) ?_ ?_
  · intro wx hb
    refine Rg.from_nil fun T hT => ?_
    have cx := (H.out.xx.below hb).cell (k := 0) rfl
    go_wp2
    exact hT _ _ rfl (by first | exact Rg.Keep.refl _ | exact below_of_dr hw2 | exact hw2 | exact (Below.refl _ _).alloc (Nat.le_refl _) _) (by first | rfl | exact congrArg _ (by decide))
  refine Rg.op_of (fun w' v => BoxAt w' v 36 [.slice A2 x.length c2]) [2] rfl ?_ ?_ rfl (by kernel_rfl) ?_ ?_
  · exact fun w1 w2 v hk h => h.below hk
  · exact fun w1 w2 v hk h => h.below hk
  · intro wx hb
    refine Rg.from_is (some 6) rfl rfl ?_
    refine Rg.from_nil fun T hT => ?_
    go_wp2
    exact hT _ _ rfl (below_alloc _ _) ⟨_, rfl, row1_new wx [.slice A2 x.length c2] _⟩
  refine Rg.op_of (fun w' v => GridVal w' v (rowsP p l [x])) [0, 1, 3] rfl ?_ ?_ rfl (by kernel_rfl) ?_ ?_
  · exact fun w1 w2 v hk h => h.below hk
  · exact fun w1 w2 v hk h => h.below hk
  · intro wx hb
    refine Rg.from_is (some 4) rfl rfl ?_
    refine Rg.from_is (some 5) rfl rfl ?_
    refine Rg.from_of (some 7) rfl rfl fun v7 h7 => ?_
    refine Rg.from_nil fun T hT => ?_
    obtain ⟨g, rfl, hr⟩ := h7
    have hA2 := (H.out.xs.below hb)
    go_wp2_with (fail)
    refine (arows_c p hp A l c (some ⟨g, 0, none⟩) [x] 1 _ (H.out.qs.below hb) hl (gridI_one hr hA2 (by omega)) (by simp) (ints_one hxu) (fun y hy => by rw [List.mem_singleton.1 hy]; exact hx)).mono ?_
    rintro e w2 ⟨v, rfl, ho, hw2⟩
    have hgv : GridVal w2 v (rowsP p l [x]) := ho.grid
    clear ho
    go_wp2
    exact hT _ _ rfl hw2 hgv
  refine' Rg.op_is _ [] rfl rfl (by kernel_rfl) ?_ ?_
  rotate_left
  · intro wx hb
    refine Rg.from_nil fun T hT => ?_
    go_wp2
    refine hT _ _ rfl (by first | exact Rg.Keep.refl _ | exact below_of_dr hw2 | exact hw2 | exact (Below.refl _ _).alloc (Nat.le_refl _) _) ?_
    simp only [Rg.last, List.getElem?_toArray, List.getElem?_cons_succ, List.getElem?_cons_zero, Option.getD_some]
    rfl
  refine Rg.op_is (.int .u64 p.Q) [5] rfl rfl (by kernel_rfl) ?_ ?_
  · intro wx hb
    refine Rg.from_is (some 9) rfl rfl ?_
    refine Rg.from_nil fun T hT => ?_
    have cQ := (H.out.pp.below hb).cell (k := 1) (u := .int .u64 p.Q) rfl
    go_wp2
    exact hT _ _ rfl (by first | exact Rg.Keep.refl _ | exact below_of_dr hw2 | exact hw2 | exact (Below.refl _ _).alloc (Nat.le_refl _) _) (by first | rfl | exact congrArg _ (by decide))
  refine Rg.op_is (.int .i64 (rankV (rowsP p l [x]) p.Q)) [4, 6] rfl rfl (by kernel_rfl) ?_ ?_
  · intro wx hb
    refine Rg.from_of (some 8) rfl rfl fun v8 h8 => ?_
    refine Rg.from_is (some 10) rfl rfl ?_
    refine Rg.from_nil fun T hT => ?_
    obtain ⟨A1, c1, rfl, g1⟩ := h8
    go_wp2_with (fail)
    refine (rank_c A1 (rowsP p l [x]) c1 p.Q _ g1 hok hq (H.out.tab.below hb)).mono ?_
    rintro e w2 ⟨rfl, hw2⟩
    go_wp2
    exact hT _ _ rfl hw2 rfl
  refine' Rg.op_is _ [] rfl rfl (by kernel_rfl) ?_ ?_
  rotate_left
  · intro wx hb
    refine Rg.from_nil fun T hT => ?_
    go_wp2
    refine hT _ _ rfl (by first | exact Rg.Keep.refl _ | exact below_of_dr hw2 | exact hw2 | exact (Below.refl _ _).alloc (Nat.le_refl _) _) ?_
    simp only [Rg.last, List.getElem?_toArray, List.getElem?_cons_succ, List.getElem?_cons_zero, Option.getD_some]
    rfl
  refine Rg.op_is (.int .i64 p.R) [8] rfl rfl (by kernel_rfl) ?_ ?_
  · intro wx hb
    refine Rg.from_is (some 12) rfl rfl ?_
    refine Rg.from_nil fun T hT => ?_
    have cR := (H.out.pp.below hb).cell (k := 9) (u := .int .i64 p.R) rfl
    go_wp2
    exact hT _ _ rfl (by first | exact Rg.Keep.refl _ | exact below_of_dr hw2 | exact hw2 | exact (Below.refl _ _).alloc (Nat.le_refl _) _) (by first | rfl | exact congrArg _ (by decide))
  refine' Rg.op_is _ [7, 9] rfl rfl (by kernel_rfl) ?_ ?_
  rotate_left
  · intro wx hb
    refine Rg.from_is (some 11) rfl rfl ?_
    refine Rg.from_is (some 13) rfl rfl ?_
    refine Rg.from_nil fun T hT => ?_
    go_wp2
    refine hT _ _ rfl (by first | exact Rg.Keep.refl _ | exact below_of_dr hw2 | exact hw2 | exact (Below.refl _ _).alloc (Nat.le_refl _) _) ?_
    simp only [Rg.last, List.getElem?_toArray, List.getElem?_cons_succ, List.getElem?_cons_zero, Option.getD_some]
    rfl
  refine Rg.walk_nil [0, 1, 2, 3, 4, 5, 6, 7, 8, 9, 10] (by kernel_rfl) ?_
  intro wx hb
  refine Rg.from_is (some 4) rfl rfl ?_
  refine Rg.from_is (some 5) rfl rfl ?_
  refine Rg.from_is (some 6) rfl rfl ?_
  refine Rg.from_of (some 7) rfl rfl fun v7 h7 => ?_
  refine Rg.from_of (some 8) rfl rfl fun v8 h8 => ?_
  refine Rg.from_is (some 9) rfl rfl ?_
  refine Rg.from_is (some 10) rfl rfl ?_
  refine Rg.from_is (some 11) rfl rfl ?_
  refine Rg.from_is (some 12) rfl rfl ?_
  refine Rg.from_is (some 13) rfl rfl ?_
  refine Rg.from_is (some 14) rfl rfl ?_
  refine Rg.from_nil ?_
  simp only [List.map, Act.put, List.setIfInBounds_toArray, List.set_cons_zero, List.set_cons_succ]
  have hbz := hb
  go_wp2
  go_ret
  exact ⟨ret_bool HWB.out.symm, hbz⟩
/-- what is told of a query. -/
noncomputable def queryP (p : Par) (l : List Ask) (id : Int) (x : List Int) : Int :=
  if wrongB p l id x 0 = true then 4 else if wrongB p l id x 1 = true then queryE p x else if wrongB p l id x 2 = true then 6 else if wrongB p l id x 3 = true then 41 else if wrongB p l id x 4 = true then 22 else 0
theorem queryP_at {p : Par} {l : List Ask} {id : Int} {x : List Int} {k : Nat} (hk : k < 5) (h : ∀ j, j < k → wrongB p l id x j = false) (h1 : wrongB p l id x k = true) : queryP p l id x = errA p x k := by
  have key : ∀ j, j < k → ¬ wrongB p l id x j = true := fun j hj => by rw [h j hj]; decide
  unfold queryP
  match k, hk with
  | 0, _ => rw [if_pos h1]; rfl
  | 1, _ => rw [if_neg (key 0 (by omega)), if_pos h1]; rfl
  | 2, _ => rw [if_neg (key 0 (by omega)), if_neg (key 1 (by omega)), if_pos h1]; rfl
  | 3, _ => rw [if_neg (key 0 (by omega)), if_neg (key 1 (by omega)), if_neg (key 2 (by omega)), if_pos h1]; rfl
  | 4, _ => rw [if_neg (key 0 (by omega)), if_neg (key 1 (by omega)), if_neg (key 2 (by omega)), if_neg (key 3 (by omega)), if_pos h1]; rfl
theorem queryP_ok {p : Par} {l : List Ask} {id : Int} {x : List Int} (h : ∀ j, j < 5 → wrongB p l id x j = false) : queryP p l id x = 0 := by
  have key : ∀ j, j < 5 → ¬ wrongB p l id x j = true := fun j hj => by rw [h j hj]; decide
  unfold queryP
  rw [if_neg (key 0 (by omega)), if_neg (key 1 (by omega)), if_neg (key 2 (by omega)), if_neg (key 3 (by omega)), if_neg (key 4 (by omega))]
abbrev askVs (bp ba bi bx be : Nat) (p : Par) (x : List Int) : List Value :=
  [.func (.func 66) #[] #[.pointer (some ⟨be, 0, none⟩), .pointer (some ⟨bi, 0, none⟩)], .int .i64 4,
   .func (.func 67) #[] #[.pointer (some ⟨be, 0, none⟩)], .int .i64 (queryE p x),
   .func (.func 68) #[] #[.pointer (some ⟨ba, 0, none⟩), .pointer (some ⟨bi, 0, none⟩)], .int .i64 6,
   .func (.func 71) #[] #[.pointer (some ⟨ba, 0, none⟩)], .int .i64 41,
   .func (.func 72) #[] #[.pointer (some ⟨bp, 0, none⟩), .pointer (some ⟨ba, 0, none⟩), .pointer (some ⟨bx, 0, none⟩)], .int .i64 22]
set_option maxRecDepth 100000 in
theorem ask_fn (bp ba bi bx be : Nat) (p : Par) (hp : p.ok) (A : Option Addr) (l : List Ask) (c : Nat) (id : Int) (A2 : Option Addr) (x : List Int) (c2 : Nat) (hl : AskOk l) (hx : x.length ≤ 1000000) (hxu : I64s x) [DecidableEq Lit] (k : Nat) (hk : k < 5) :
    ∃ (fid : FuncId) (first cap : Array Value), (askVs bp ba bi bx be p x)[k * 2]? = some (.func (.func fid) first cap) ∧ (askVs bp ba bi bx be p x)[k * 2 + 1]? = some (.int .i64 (errA p x k)) ∧ (∀ (args : Array Value) (w : World), (callFunc fid args).run Tryd.prog w = .ok (.enter fid args) w) ∧
      ∀ (wr : World), QBx wr bp ba bi bx be p A l c id A2 x c2 → Calls Tryd.prog fid (first ++ cap) wr fun e w' => e = .returned (.bool (wrongB p l id x k)) ∧ Below wr.heap.size wr w' := by
  match k, hk with
  | 0, _ => exact ⟨_, _, _, rfl, rfl, fun _ _ => rfl, fun wr h => (q1_c be bi (queryE p x) id wr h.ee h.ii).mono fun e w' h => ⟨h.1, h.2 ▸ Below.refl _ _⟩⟩
  | 1, _ => exact ⟨_, _, _, rfl, rfl, fun _ _ => rfl, fun wr h => (q2_c be (queryE p x) wr h.ee).mono fun e w' h => ⟨h.1, h.2 ▸ Below.refl _ _⟩⟩
  | 2, _ => exact ⟨_, _, _, rfl, rfl, fun _ _ => rfl, fun wr h => q3_c ba bi A l c id wr h.aa h.qs hl h.ii⟩
  | 3, _ => exact ⟨_, _, _, rfl, rfl, fun _ _ => rfl, fun wr h => (q4_c ba A l.length c wr (by have := hl.few; omega) h.aa).mono fun e w' h => ⟨h.1, h.2 ▸ Below.refl _ _⟩⟩
  | 4, _ => exact ⟨_, _, _, rfl, rfl, fun _ _ => rfl, fun wr h => q5_c bp ba bx be bi p hp A l c id A2 x c2 wr h hl hx hxu⟩
theorem boxes4 (w : World) (a b c d : List Value) (ea eb ec ed : TypeId) :
    Row1 ((((w.alloc (.cells a.toArray ea)).alloc (.cells b.toArray eb)).alloc (.cells c.toArray ec)).alloc (.cells d.toArray ed)) w.heap.size ea a ∧
    Row1 ((((w.alloc (.cells a.toArray ea)).alloc (.cells b.toArray eb)).alloc (.cells c.toArray ec)).alloc (.cells d.toArray ed)) (w.heap.size + 1) eb b ∧
    Row1 ((((w.alloc (.cells a.toArray ea)).alloc (.cells b.toArray eb)).alloc (.cells c.toArray ec)).alloc (.cells d.toArray ed)) (w.heap.size + 1 + 1) ec c ∧
    Row1 ((((w.alloc (.cells a.toArray ea)).alloc (.cells b.toArray eb)).alloc (.cells c.toArray ec)).alloc (.cells d.toArray ed)) (w.heap.size + 1 + 1 + 1) ed d ∧
    Below w.heap.size w ((((w.alloc (.cells a.toArray ea)).alloc (.cells b.toArray eb)).alloc (.cells c.toArray ec)).alloc (.cells d.toArray ed)) := by
  have h1 := ((((row1_new w a ea).alloc (.cells b.toArray eb)).alloc (.cells c.toArray ec)).alloc (.cells d.toArray ed))
  have h2 := (((row1_new (w.alloc (.cells a.toArray ea)) b eb).alloc (.cells c.toArray ec)).alloc (.cells d.toArray ed))
  have h3 := ((row1_new ((w.alloc (.cells a.toArray ea)).alloc (.cells b.toArray eb)) c ec).alloc (.cells d.toArray ed))
  have h4 := (row1_new (((w.alloc (.cells a.toArray ea)).alloc (.cells b.toArray eb)).alloc (.cells c.toArray ec)) d ed)
  simp only [World.size_alloc] at h2 h3 h4
  exact ⟨h1, h2, h3, h4, (((below_alloc w _).alloc (by simp) _).alloc (by simp; omega) _).alloc (by simp; omega) _⟩
set_option maxRecDepth 100000 in
set_option maxHeartbeats 4000000 in
theorem aquery_c (p : Par) (hp : p.ok) (A : Option Addr) (l : List Ask) (c : Nat) (id : Int) (A2 : Option Addr) (x : List Int) (c2 : Nat) (w : World) (hA : Asks w A l) (hl : AskOk l) (hA2 : Cells w A2 (x.map (.int .i64))) (hx : x.length ≤ 1000000) (hxu : I64s x) (hTab : Tabs w) [DecidableEq Lit] :
    Calls Tryd.prog 38 #[pval p, .slice A l.length c, .int .i64 id, .slice A2 x.length c2] w fun e w' => e = .returned (.int .i64 (queryP p l id x)) ∧ Below w.heap.size w w' := by
  have hmf : ∀ (fn : Fn) (first cap : Array Value) (w : World), (Instr.makeFunc fn first cap).run Tryd.prog w = .ok (.func fn first cap) w := fun _ _ _ _ => rfl
  obtain ⟨hbp, hba, hbi, hbx, hb4⟩ := boxes4 w (pcells p) [.slice A l.length c] [.int .i64 id] [.slice A2 x.length c2] 34 35 3 36
  have hA1 := hA.below hb4
  have hA21 := hA2.below hb4
  have hTab1 := hTab.below hb4
  have HQ0 := hid (@queryP_ok p l id x)
  have HQK := hid (fun k => @queryP_at p l id x k)
  clear hA hA2 hTab
  go_enter Tryd.func38, Tryd.ntmps38
  go_upto_region 1 with (fail)
  simp only [List.toArray] at hbp hba hbi hbx hb4 hA1 hA21 hTab1
  generalize (((w.alloc _).alloc _).alloc _).alloc _ = w1 at *
  obtain ⟨bp, hgp⟩ : ∃ n, w.heap.size = n := ⟨_, rfl⟩
  have HGP := hid hgp
  rw [hgp] at hbp hba hbi hbx hb4 ⊢
  obtain ⟨ba, hga⟩ : ∃ n, bp + 1 = n := ⟨_, rfl⟩
  rw [hga] at hba hbi hbx ⊢
  obtain ⟨bi, hgi⟩ : ∃ n, ba + 1 = n := ⟨_, rfl⟩
  rw [hgi] at hbi hbx ⊢
  obtain ⟨bx, hgx⟩ : ∃ n, bi + 1 = n := ⟨_, rfl⟩
  rw [hgx] at hbx ⊢
  clear hgp hga hgi hgx
  obtain ⟨p0, p1, p2, p3, p4, p5, p6, p7, p8, p9, p10, p11⟩ := par_cells hbp
  have cx := hbx.cell (k := 0) rfl
  have HQ := hid (query_c p A2 x c2 w1 hA21 (by omega) hxu)
  go_wp2_with (fail)
  refine HQ.out.mono ?_
  rintro e w2 ⟨rfl, hb2⟩
  have hbe := row1_new w2 [.int .i64 (queryE p x)] 27
  have hb3 := below_alloc w2 (.cells #[.int .i64 (queryE p x)] 27)
  have hb5 := below_next hb2 hb2.size hb3
  have hX : QBx (w2.alloc (.cells #[.int .i64 (queryE p x)] 27)) bp ba bi bx w2.heap.size p A l c id A2 x c2 := ⟨hbp.below hb5, hba.below hb5, hbi.below hb5, hbx.below hb5, hbe, hA1.below hb5, hA21.below hb5, hTab1.below hb5⟩
  have hb6 : Below bp w (w2.alloc (.cells #[.int .i64 (queryE p x)] 27)) := by
    have hs := HGP.out
    exact hb4.trans (hb5.mono (by have := hb4.size; omega))
  clear hbp hba hbi hbx hb4 hA1 hA21 hTab1 HQ hb2 hb3 hb5 hbe p0 p1 p2 p3 p4 p5 p6 p7 p8 p9 p10 p11 cx
  go_upto_region 2 with (fail)
  generalize w2.alloc _ = w3 at *
  obtain ⟨be, hge⟩ : ∃ n, w2.heap.size = n := ⟨_, rfl⟩
  rw [hge] at hX ⊢
  clear hge
  have ce := hX.ee.cell (k := 0) rfl
  have hr3 := row1_new w3 (askVs bp ba bi bx be p x) 103
  have hb7 := below_alloc w3 (.cells (askVs bp ba bi bx be p x).toArray 103)
  have hX4 := hX.below hb7
  have HB8 := hid (hb6.trans (hb7.mono (by have := HGP.out; have := hb6.size; omega)))
  have HF := hid (ask_fn bp ba bi bx be p hp A l c id A2 x c2 hl hx hxu)
  clear hX hb6
  go_wp2_with (fail)
  simp only [List.toArray] at hr3 hX4 HB8 hb7
  generalize w3.alloc (.cells _ 103) = w4 at *
  obtain ⟨gs, hgs⟩ : ∃ n, w3.heap.size = n := ⟨_, rfl⟩
  rw [hgs] at hr3 ⊢
  have HR4 := hid hr3
  have HX4 := hid hX4
  clear hgs hr3 hX4 hb7 ce hmf
  go_loopw [28] (fun i wr => ∃ k : Nat, i = .int .i64 (k : Int) ∧ k ≤ 5 ∧ Hid ((∀ j, j < k → wrongB p l id x j = false) ∧ Below w4.heap.size w4 wr)) (fun i _ => 5 - (intOf i).toNat)
  case atStart => exact ⟨0, rfl, by omega, hid ⟨fun j hj => by omega, Below.refl _ _⟩⟩
  case round =>
    obtain ⟨k, rfl, hk, HI⟩ := hrel
    rename_i wr
    by_cases hlt : k < 5
    · obtain ⟨fid, first, cap, hc1, hc2, hcall, hC⟩ := HF.out k hlt
      have hrow := HR4.out.below HI.out.2
      have d1 := hrow.cell hc1
      have d2 := hrow.cell hc2
      have hb9 := below_alloc wr (.cells #[.func (.func fid) first cap, .int .i64 (errA p x k)] 103)
      have HC := hid (hC _ ((HX4.out.below HI.out.2).below hb9))
      have hr9 := row1_new wr [.func (.func fid) first cap, .int .i64 (errA p x k)] 103
      have HR9 := hid hr9
      have HB9 := hid (below_next HI.out.2 HI.out.2.size hb9)
      have HQk := hid (HQK.out k hlt HI.out.1)
      have HIn := hid (show wrongB p l id x k = false → ∀ j, j < k + 1 → wrongB p l id x j = false from fun h j hj => by
        by_cases e : j = k
        · rw [e]; exact h
        · exact HI.out.1 j (by omega))
      clear hC hc1 hc2 hrow hr9 hb9 HI
      generalize wrongB p l id x k = WB at *
      go_wp2_with (fail)
      refine HC.out.mono ?_
      rintro e w5 ⟨rfl, hb10⟩
      have HB10 := hid (below_next HB9.out HB9.out.size hb10)
      cases hwb : WB with
      | false =>
        have HN := hid (HIn.out hwb)
        clear hwb HC hb10 HR9
        go_wp2
        go_roundw
        case rel => exact ⟨k + 1, by go_num, by omega, hid ⟨HN.out, HB10.out⟩⟩
        case measure => simp [intOf]; omega
      | true =>
        have HN := hid (HQk.out hwb)
        have e2 := (HR9.out.below hb10).cell (k := 1) (u := .int .i64 (errA p x k)) rfl
        clear hwb HC hb10 HR9
        go_wp2
        go_ret
        exact ⟨by rw [HN.out]; rfl, by rw [HGP.out]; have h1 := HB8.out; have h2 := HB10.out; have h4 := HGP.out; have h3 := h1.size; exact h1.trans (h2.mono (by omega))⟩
    · obtain rfl : k = 5 := by omega
      have HN := hid (HQ0.out HI.out.1)
      go_wp2
      go_ret
      exact ⟨by rw [HN.out]; rfl, by rw [HGP.out]; have h1 := HB8.out; have h2 := HI.out.2; have h4 := HGP.out; have h3 := h1.size; exact h1.trans (h2.mono (by omega))⟩
end Go.Proofs.YtmmmdidbnjcooaaDoor
