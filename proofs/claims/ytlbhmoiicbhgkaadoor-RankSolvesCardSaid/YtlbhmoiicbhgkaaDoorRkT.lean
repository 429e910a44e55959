/-
  RankTells: what the program does.
-/
import Derived.Test.YtlbhmoiicbhgkaaDoorRnkQ1
import Derived.Test.YtlbhmoiicbhgkaaDoorRnkQ2
import Derived.Test.YtlbhmoiicbhgkaaDoorRnkQ3
import Derived.Test.YtlbhmoiicbhgkaaDoorRnkQ4
import Derived.Test.YtlbhmoiicbhgkaaDoorRnkQ5
import Derived.Test.YtlbhmoiicbhgkaaDoorRnkQ6
import Derived.Test.YtlbhmoiicbhgkaaDoorRnkQ7
import Derived.Test.YtlbhmoiicbhgkaaDoorRnkQ8
import Derived.Test.YtlbhmoiicbhgkaaDoorMnA
import Derived.Test.YtlbhmoiicbhgkaaDoorOwnGrid
namespace Go.Proofs.YtlbhmoiicbhgkaaDoor
open Go Go.RowKit Go.Maps Go.Shelf Go.Proofs Go.Lin Go.Psi

attribute [local go_sem] Oper.semAt_some

theorem grid_snoc {w : World} {A : Option Addr} {a : List (List Int)} {row : List Int} {va : List Value} {u : Value} (hc : Cells w A (va ++ [u])) (hl : va.length = a.length) (hv : ∀ (i : Nat) (l : List Int), a[i]? = some l → ∃ v, va[i]? = some v ∧ RowV w v l) (hu : RowV w u row) : Grid w A (a ++ [row]) := by
  refine ⟨_, hc, by simp [hl], fun i l hi => ?_⟩
  rcases Nat.lt_or_ge i a.length with h | h
  · rw [List.getElem?_append_left h] at hi
    obtain ⟨v, h1, h2⟩ := hv i l hi
    exact ⟨v, by rw [List.getElem?_append_left (by omega)]; exact h1, h2⟩
  · rw [List.getElem?_append_right h] at hi
    rw [List.getElem?_append_right (by omega), hl]
    cases hj : i - a.length with
    | zero =>
      rw [hj] at hi
      obtain rfl := Option.some.inj hi
      exact ⟨_, rfl, hu⟩
    | succ j => rw [hj] at hi; simp at hi
theorem grid_parts {w : World} {A : Option Addr} {a : List (List Int)} (h : Grid w A a) : ∃ va : List Value, Cells w A va ∧ va.length = a.length ∧ (∀ u ∈ va, u.oneCell' = true) ∧ ∀ (i : Nat) (l : List Int), a[i]? = some l → ∃ v, va[i]? = some v ∧ RowV w v l := by
  obtain ⟨va, h1, h2, h3⟩ := h
  refine ⟨va, h1, h2, fun u hu => ?_, h3⟩
  obtain ⟨i, hi, rfl⟩ := List.getElem_of_mem hu
  obtain ⟨v, hv, A', c', rfl, _⟩ := h3 i _ (List.getElem?_eq_getElem (by omega))
  rw [List.getElem?_eq_getElem hi] at hv
  rw [Option.some.inj hv]; rfl
theorem wide_snoc (a : List (List Int)) (row : List Int) : wideL a ≤ wideL (a ++ [row]) ∧ row.length ≤ wideL (a ++ [row]) := by
  unfold wideL
  rw [List.foldl_append]
  show _ ≤ max _ _ ∧ _ ≤ max _ _
  omega
set_option maxRecDepth 100000 in
theorem great_c (A : Option Addr) (F : List (List Int)) (c : Nat) (w : World) (hA : Grid w A F) (hl : F.length ≤ 9223372036854775807) :
    Calls Tryd.prog 8 #[.slice A F.length c] w fun e w' => e = .returned (.bool (decide (6 < F.length) || decide (5 < wideL F))) ∧ w = w' := by
  have HW := hid (wide04_c A F c w hA hl)
  generalize wideL F = W at *
  by_cases h : 6 < F.length
  · have h1 : (F.length : Int) > 6 := by omega
    rw [show (decide (6 < F.length) || decide (5 < W)) = true by simp [h]]
    clear h hA HW
    go_enter Tryd.func8, Tryd.ntmps8
    go_wp2
    go_ret
    exact ⟨rfl, rfl⟩
  · have h1 : ¬ (F.length : Int) > 6 := by omega
    rw [show (decide (6 < F.length) || decide (5 < W)) = decide (5 < W) by simp [h]]
    have h2 : decide (5 < W) = decide ((5 : Int) < (W : Int)) := by
      rw [decide_eq_decide]; omega
    rw [h2]
    clear h hA h2
    go_enter Tryd.func8, Tryd.ntmps8
    go_wp2_with (fail)
    refine HW.out.mono ?_
    rintro e w2 ⟨rfl, rfl⟩
    go_wp2
    go_ret
    exact ⟨rfl, rfl⟩
set_option maxRecDepth 100000 in
set_option maxHeartbeats 1600000 in
theorem hangs04_c (A : Option Addr) (a : List (List Int)) (ca : Nat) (B : Option Addr) (row : List Int) (cb : Nat) (q : Int) (w : World) (hA : Grid w A a) (hal : a.length ≤ 41) (haw : wideL (a ++ [row]) ≤ 42) (hau : ∀ l ∈ a, U64s l) (hB : Cells w B (row.map (.int .u64))) (hru : U64s row) (hrl : row.length ≤ 9223372036854775807) (hq : U64 q) :
    Calls Tryd.prog 12 #[.slice A a.length ca, .slice B row.length cb, .int .u64 q] w fun e w' => e = .returned (.bool (hangsV a row q)) ∧ Below w.heap.size w w' := by
  have HM := hid (may04_c q hq w)
  cases hp : primeV q with
  | false =>
    rw [hp] at HM
    rw [show hangsV a row q = false by unfold hangsV; rw [hp]; rfl]
    clear hA hB hp
    go_enter Tryd.func12, Tryd.ntmps12
    go_wp2_with (fail)
    refine HM.out.mono ?_
    rintro e w2 ⟨rfl, hb⟩
    go_wp2
    go_ret
    exact ⟨rfl, hb⟩
  | true =>
  rw [hp] at HM
  have HRM := hid (rank_more hp (prime_pr hp) a row)
  have HR := hid (fun (w' : World) (hb : Below w.heap.size w w') => rank04_c A a ca q w' (hA.below hb) (by omega) (Nat.le_trans (wide_snoc a row).1 haw) hau hq)
  have HR2 := hid (fun (A' : Option Addr) (c' : Nat) (w' : World) (h : Grid w' A' (a ++ [row])) => rank04_c A' (a ++ [row]) c' q w' h (by simp; omega) haw (fun l hl => by
    rcases List.mem_append.1 hl with h | h
    · exact hau l h
    · rw [List.mem_singleton.1 h]; exact hru) hq)
  have HB := hid hB
  obtain ⟨va, cva, lva, ova, rva⟩ := grid_parts hA
  have HVA := hid (⟨lva, ova, rva, cva⟩ : _ ∧ _ ∧ _ ∧ _)
  generalize rankV a q = r1 at *
  have hF : (a ++ [row]).length = a.length + 1 := by simp
  rw [hF] at HR2
  clear hA hB hau hru hp haw lva ova rva cva hF
  go_enter Tryd.func12, Tryd.ntmps12
  go_wp2_with (fail)
  refine HM.out.mono ?_
  rintro e w2 ⟨rfl, hb2⟩
  have hb0 := below_next hb2 hb2.size (below_alloc w2 (.cells #[] 23))
  have ho0 := own_zero (row1_new w2 [] 23) hb2.size
  simp only [List.toArray] at ho0
  go_wp2_with (first
    | (at_builtin; refine wpList_more elt_rows (w2.alloc (.cells #[] 23)) (by rfl) _ _ rfl w.heap.size ho0 rfl (HVA.out.2.2.2.below hb0) (by rw [HVA.out.1]; rfl) HVA.out.2.1 (by simp; have := HVA.out.1; omega) (by simp; have := HVA.out.1; omega) hb0.size ?_; intro v1 w7 ho1 hb1; replace hb1 := hb0.trans hb1; clear hb0 ho0)
    | (at_builtin; refine wpList_pushN elt_rows w7 (by rfl) _ _ rfl w.heap.size ho1 rfl (.slice B row.length cb) rfl rfl (by simp; have := HVA.out.1; omega) (by simp; have := HVA.out.1; omega) hb1.size ?_; intro v2 w8 ho2 hk8 hb8 hn8; replace hb8 := hb1.trans hb8; clear hb1 ho1 hk8 hn8)
    | fail)
  obtain ⟨A8, c8, e8, hc8⟩ := ho2.form
  rw [List.nil_append] at e8 hc8
  rw [show (va ++ [Value.slice B row.length cb]).length = a.length + 1 by simp [HVA.out.1]] at e8
  subst e8
  have hG := grid_snoc hc8 HVA.out.1 (fun i l h => (HVA.out.2.2.1 i l h).imp fun v h => ⟨h.1, h.2.below hb8⟩) ⟨B, cb, rfl, HB.out.below hb8, hrl⟩
  have HC := hid (HR2.out A8 c8 w8 hG)
  have HB8 := hid hb8
  clear hG hc8 ho2 hb8 HM
  obtain ⟨r2, hr2⟩ : ∃ r2, rankV (a ++ [row]) q = r2 := ⟨_, rfl⟩
  rw [hr2] at HC HRM
  clear hr2
  refine HC.out.mono ?_
  rintro e w9 ⟨rfl, hb9⟩
  have HB9 := hid (below_next HB8.out HB8.out.size hb9)
  clear hb9 HC
  go_wp2_with (fail)
  refine (HR.out w9 HB9.out).mono ?_
  rintro e w10 ⟨rfl, hb10⟩
  have hres : ((r2 : Int) == (r1 : Int)) = hangsV a row q := by
    have := HRM.out
    cases hh : hangsV a row q with
    | true => rw [hh, if_pos rfl] at this; rw [beq_iff_eq]; omega
    | false => rw [hh, if_neg (by decide)] at this; rw [beq_eq_false_iff_ne]; omega
  obtain ⟨hv, hhv⟩ : ∃ hv, hangsV a row q = hv := ⟨_, rfl⟩
  rw [hhv] at hres
  have HE := hid hhv
  clear hhv
  have HB10 := hid (below_next HB9.out HB9.out.size hb10)
  clear hb10
  go_wp2
  go_ret
  rw [HE.out]
  exact ⟨rfl, HB10.out⟩
theorem u64v_ones (l : List Int) : ∀ u ∈ l.map (Value.int .u64), u.oneCell' = true := by
  intro u hu
  obtain ⟨x, _, rfl⟩ := List.mem_map.1 hu
  rfl
set_option maxRecDepth 100000 in
set_option maxHeartbeats 3200000 in
theorem rankTells_c [DecidableEq Lit] (A : Option Addr) (a : List (List Int)) (ca : Nat) (B : Option Addr) (row : List Int) (cb : Nat) (q : Int) (w : World) (hA : Grid w A a) (hal : a.length * 24 ≤ 140737488351232) (hau : ∀ l ∈ a, U64s l) (hB : Cells w B (row.map (.int .u64))) (hrl : row.length ≤ 9223372036854775807) (hru : U64s row) (hq : U64 q) (hT : Tabs w) :
    Calls Tryd.prog 3 #[.slice A a.length ca, .slice B row.length cb, .int .u64 q] w fun e w' => e = .returned (.bool true) ∧ Below w.heap.size w w' := by
  have HA := hid hA
  have HB := hid hB
  have HT := hid hT
  have HU := hid (⟨hau, hru⟩ : _ ∧ _)
  obtain ⟨va, cva, lva, ova, rva⟩ := grid_parts hA
  have HVA := hid (⟨lva, ova, rva, cva⟩ : _ ∧ _ ∧ _ ∧ _)
  have hF : (a ++ [row]).length = a.length + 1 := by simp
  have hb0 := below_alloc w (.cells #[] 23)
  have ho0 := own_zero (row1_new w [] 23) (Nat.le_refl _)
  simp only [List.toArray] at ho0
  clear hA hB hau hru hT lva ova rva cva
  go_enter Tryd.func3, Tryd.ntmps3
  go_wp2_with (first
    | (at_builtin; refine wpList_more elt_rows (w.alloc (.cells #[] 23)) (by rfl) _ _ rfl w.heap.size ho0 rfl (HVA.out.2.2.2.below hb0) (by rw [HVA.out.1]; rfl) HVA.out.2.1 (by simp; have := HVA.out.1; omega) (by simp; have := HVA.out.1; omega) hb0.size ?_; intro v1 w7 ho1 hb1; replace hb1 := hb0.trans hb1; clear hb0 ho0)
    | (at_builtin; refine wpList_pushN elt_rows w7 (by rfl) _ _ rfl w.heap.size ho1 rfl (.slice B row.length cb) rfl rfl (by simp; have := HVA.out.1; omega) (by simp; have := HVA.out.1; omega) hb1.size ?_; intro v2 w8 ho2 hk8 hb8 hn8; replace hb8 := hb1.trans hb8; clear hb1 ho1 hk8 hn8; obtain ⟨A8, c8, e8, hc8⟩ := ho2.form; rw [List.nil_append] at e8 hc8; rw [show (va ++ [Value.slice B row.length cb]).length = a.length + 1 by simp [HVA.out.1]] at e8; subst e8)
    | fail)
  have hG := grid_snoc hc8 HVA.out.1 (fun i l h => (HVA.out.2.2.1 i l h).imp fun v h => ⟨h.1, h.2.below hb8⟩) ⟨B, cb, rfl, HB.out.below hb8, hrl⟩
  have HC := hid (great_c A8 (a ++ [row]) c8 w8 hG (by rw [hF]; omega))
  rw [hF] at HC
  have HB8 := hid hb8
  clear hG hc8 ho2 hb8
  by_cases hgr : 6 < a.length + 1 ∨ 5 < wideL (a ++ [row])
  · rw [show (decide (6 < a.length + 1) || decide (5 < wideL (a ++ [row]))) = true by simpa using hgr] at HC
    clear hgr
    refine HC.out.mono ?_
    rintro e w9 ⟨rfl, rfl⟩
    go_wp2
    go_ret
    exact ⟨rfl, HB8.out⟩
  have ha6 : a.length ≤ 5 := by omega
  have hw5 : wideL (a ++ [row]) ≤ 5 := by omega
  have hwa := (wide_snoc a row).1
  have hwr := (wide_snoc a row).2
  rw [show (decide (6 < a.length + 1) || decide (5 < wideL (a ++ [row]))) = false by simp; omega] at HC
  have hr5 : row.length ≤ 5 := by omega
  have HLEN := hid (fun (l : List Int) (hl : l ∈ a) => (show l.length ≤ 5 by have := wideL_le a l hl; omega))
  have HOK := hid (rows_ok (f := a) (by omega) fun l hl => ⟨by have := HLEN.out l hl; omega, HU.out.1 l hl⟩)
  have HW42 := hid (show wideL (a ++ [row]) ≤ 42 ∧ wideL a ≤ 42 by omega)
  clear hgr hw5 hwa hwr hal hF
  refine HC.out.mono ?_
  rintro e w9 ⟨rfl, rfl⟩
  go_wp2
  go_loopw [8, 9] (fun o x wr => ∃ k : Nat, x = .int .i64 (k : Int) ∧ k ≤ a.length ∧ Hid (OwnRows wr w8.heap.size 23 24 o ((a.take k).map (·.map (.int .u64))) ∧ Below w8.heap.size w8 wr)) (fun _ x _ => a.length - (intOf x).toNat)
  case atStart => exact ⟨0, rfl, by omega, hid ⟨OwnRows.nil _ _ _ _, Below.refl _ _⟩⟩
  case round =>
  obtain ⟨k, rfl, hk, HI⟩ := hrel
  by_cases hlt : k < a.length
  · have hlt' : (k : Int) < (a.length : Int) := by omega
    obtain ⟨l, hl⟩ := get_of_lt hlt
    have hbw := below_next HB8.out HB8.out.size HI.out.2
    obtain ⟨b1, o1, A1, c1, rfl, hcl, hcs, hln⟩ := (HA.out.below hbw).at_ hl
    have hl5 := HLEN.out l (List.mem_of_getElem? hl)
    have HL := hid hl
    obtain ⟨vs, p1, p2, p3⟩ := HI.out.1
    have hvk : vs.length = k := by rw [p2]; simp only [List.length_map, List.length_take]; omega
    have HP := hid (⟨p1, p2, p3, HI.out.2⟩ : _ ∧ _ ∧ _ ∧ _)
    have hb1 := below_alloc wr (.cells #[] 24)
    have ho1 := own_zero (row1_new wr [] 24) (Nat.le_refl _)
    simp only [List.toArray] at ho1
    have hcl1 := (hb1.cell (lt_of_cell hcl)).trans hcl
    clear hl p1 p2 p3 HI hbw hcl HC
    go_wp2_with (first
      | (at_builtin; refine wpList_more elt_u64 (wr.alloc (.cells #[] 24)) (by rfl) _ _ rfl wr.heap.size ho1 rfl (hcs.below hb1) (by rw [List.length_map]; rfl) (u64v_ones _) (by simp; omega) (by simp; omega) hb1.size ?_; intro v3 w3 ho3 hb3; replace hb3 := hb1.trans hb3; clear hb1 ho1; rw [List.nil_append] at ho3; obtain ⟨A3, c3, e3, _⟩ := ho3.form; rw [List.length_map] at e3; subst e3)
      | (at_builtin; refine wpList_pushN elt_rows w3 (by rfl) _ _ rfl w8.heap.size (HP.out.1.below hb3) rfl (.slice A3 l.length c3) rfl rfl (by omega) (by omega) (Nat.le_trans HP.out.2.2.2.size hb3.size) ?_; intro v4 w4 ho4 hk4 hb4 hn4)
      | fail)
    have hN := OwnRows.push (by decide) HP.out.2.1 (fun j u xs h1 h2 => (HP.out.2.2.1 j u xs h1 h2).below hb3) (HP.out.1.below hb3) ho3.rowT ho4 hk4
    have HN := hid (show OwnRows w4 w8.heap.size 23 24 v4 ((a.take (k + 1)).map (·.map (.int .u64))) ∧ Below w8.heap.size w8 w4 from
      ⟨by rw [List.take_add_one, HL.out, List.map_append]; exact hN, (below_next HP.out.2.2.2 HP.out.2.2.2.size hb3).trans hb4⟩)
    clear hN ho4 hk4 hb4 hn4 ho3 hb3 HP hcs hcl1
    go_wp2
    go_roundw
    case rel => exact ⟨k + 1, by go_num, by omega, HN⟩
    case measure => simp [intOf]; omega
  obtain rfl : k = a.length := by omega
  have hlt' : ¬ (a.length : Int) < (a.length : Int) := by omega
  have hin := HI.out.1
  rw [List.take_length] at hin
  obtain ⟨Ai, ci, ei, hgi, _⟩ := hin.grid
  subst ei
  have HGI := hid (⟨hgi, below_next HB8.out HB8.out.size HI.out.2⟩ : _ ∧ _)
  clear hin hgi HI HC
  have hb1 := below_alloc wr (.cells #[] 24)
  have ho1 := own_zero (row1_new wr [] 24) (Nat.le_refl _)
  simp only [List.toArray] at ho1
  go_wp2_with (first
    | (at_builtin; refine wpList_more elt_u64 (wr.alloc (.cells #[] 24)) (by rfl) _ _ rfl wr.heap.size ho1 rfl ((HB.out.below HGI.out.2).below hb1) (by rw [List.length_map]; rfl) (u64v_ones _) (by simp; omega) (by simp; omega) hb1.size ?_; intro v3 w3 ho3 hb3; replace hb3 := hb1.trans hb3; clear hb1 ho1; rw [List.nil_append] at ho3; obtain ⟨A3, c3, e3, hc3⟩ := ho3.form; rw [List.length_map] at e3; subst e3)
    | fail)
  have HB3 := hid (below_next HGI.out.2 HGI.out.2.size hb3)
  have HG3 := hid (HGI.out.1.below hb3)
  have HC3 := hid hc3
  clear ho3 hb3 hc3 HGI
  refine (rank_c Ai a ci q w3 HG3.out HOK.out hq (HT.out.below HB3.out)).mono ?_
  rintro e w4 ⟨rfl, hb4⟩
  have HB4 := hid (below_next HB3.out HB3.out.size hb4)
  have HG4 := hid (HG3.out.below hb4)
  have HC4 := hid (HC3.out.below hb4)
  have HR4 := hid (rank04_c A a ca q w4 (HA.out.below HB4.out) (by omega) HW42.out.2 HU.out.1 hq)
  generalize rankV a q = r at *
  have hrr : ((r : Int) != (r : Int)) = false := by simp
  clear hb4 HG3 HC3 HB3
  go_wp2_with (fail)
  refine HR4.out.mono ?_
  rintro e w5 ⟨rfl, hb5⟩
  have HB5 := hid (below_next HB4.out HB4.out.size hb5)
  have HG5 := hid (HG4.out.below hb5)
  have HC5 := hid (HC4.out.below hb5)
  clear hb5 HG4 HC4 HB4 HR4
  obtain ⟨hv, hhv⟩ : ∃ hv, hangsV a row q = hv := ⟨_, rfl⟩
  have hh1 := hangs_c Ai a ci A3 row c3 q w5 HG5.out HOK.out HC5.out (by omega) HU.out.2 hq (HT.out.below HB5.out)
  have hh2 := fun (w' : World) (hb : Below w.heap.size w w') => hangs04_c A a ca B row cb q w' (HA.out.below hb) (by omega) HW42.out.1 HU.out.1 (HB.out.below hb) HU.out.2 hrl hq
  rw [hhv] at hh1 hh2
  have H1 := hid hh1
  have H2 := hid hh2
  clear hh1 hh2 hhv
  have hvv : (hv != hv) = false := by simp
  go_wp2_with (fail)
  refine H1.out.mono ?_
  rintro e w6 ⟨rfl, hb6⟩
  have HB6 := hid (below_next HB5.out HB5.out.size hb6)
  have HG6 := hid (HG5.out.below hb6)
  have HC6 := hid (HC5.out.below hb6)
  clear hb6 HG5 HC5 HB5 H1
  go_wp2_with (fail)
  refine (H2.out w6 HB6.out).mono ?_
  rintro e w7 ⟨rfl, hb7⟩
  have HB7 := hid (below_next HB6.out HB6.out.size hb7)
  have HG7 := hid (HG6.out.below hb7)
  have HC7 := hid (HC6.out.below hb7)
  clear hb7 HG6 HC6 HB6 H2
  go_wp2
  generalize wr = wo at *
  go_loopw [11] (fun x wr => ∃ k : Nat, x = .int .i64 (k : Int) ∧ k ≤ a.length ∧ Hid (Dr w7 wr)) (fun x _ => a.length - (intOf x).toNat)
  case atStart => exact ⟨0, rfl, by omega, hid (Dr.refl _)⟩
  case round =>
  obtain ⟨k, rfl, hk, HI⟩ := hrel
  by_cases hlt : k < a.length
  · have hlt' : (k : Int) < (a.length : Int) := by omega
    obtain ⟨l, hl⟩ := get_of_lt hlt
    obtain ⟨b1, o1, A1, c1, rfl, hcl, hcs, hln⟩ := ((HA.out.below HB7.out).dr HI.out).at_ hl
    obtain ⟨b2, o2, A2, c2, rfl, hcl2, hcs2, hln2⟩ := (HG7.out.dr HI.out).at_ hl
    have HNU := hid (fun w' (hd : Dr wr w') => (by
      have := nums_c A2 A1 l l c2 c1 w' (hcs2.dr hd) (hcs.dr hd) hln hln
      rwa [show decide (l = l) = true by simp] at this : Calls Tryd.prog 13 #[.slice A2 l.length c2, .slice A1 l.length c1] w' fun e w'' => e = .returned (.bool true) ∧ Dr w' w''))
    clear hl hcs hcs2 hln2
    go_wp2
    go_quiet (first | (go_at_call 13; exact quiet_dr (HNU.out _ ⟨_, rfl⟩)))
    have HN := hid (HI.out.trans (⟨nq, rfl⟩ : Dr wr (wr.drewN nq)))
    clear hcl hcl2 HNU HI
    go_wp2
    go_roundw
    case rel => exact ⟨k + 1, by go_num, by omega, HN⟩
    case measure => simp [intOf]; omega
  obtain rfl : k = a.length := by omega
  have hlt' : ¬ (a.length : Int) < (a.length : Int) := by omega
  have hn := nums_c A3 B row row c3 cb wr (HC7.out.dr HI.out) ((HB.out.below HB7.out).dr HI.out) hrl hrl
  rw [show decide (row = row) = true by simp] at hn
  have HN := hid hn
  have HBL := hid (below_dr HB7.out HI.out)
  clear hn HI
  go_wp2_with (fail)
  refine HN.out.mono ?_
  rintro e w9 ⟨rfl, hd9⟩
  go_wp2
  go_ret
  exact ⟨rfl, below_dr HBL.out hd9⟩
end Go.Proofs.YtlbhmoiicbhgkaaDoor
