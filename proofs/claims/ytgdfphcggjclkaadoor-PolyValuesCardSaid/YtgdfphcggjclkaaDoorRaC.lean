/-
  A row more: the program's.
-/
import Derived.Test.YtgdfphcggjclkaaDoorRaB
namespace Go.Proofs.YtgdfphcggjclkaaDoor
open Go Go.RowKit Go.Maps Go.Shelf Go.Proofs

theorem iVal_range {a m : Int} (h : okm m = true) : 0 ≤ iVal a m ∧ iVal a m < m := by
  by_cases hx : ∃ x, InvIs a m x
  · obtain ⟨x, hx⟩ := hx
    rw [iVal_is h hx]
    exact ⟨hx.1, hx.2.1⟩
  · rw [iVal_none hx]
    exact ⟨Int.le_refl 0, okm_pos h⟩
theorem inv_of {q : Int} (h : okm q = true) (h2 : 2 ≤ q) : InvOf q (fun x => iVal x q) := ⟨fun a => by
  by_cases hx : ∃ x, InvIs a q x
  · obtain ⟨x, hx⟩ := hx
    right
    show a * iVal a q % q = 1
    rw [iVal_is h hx]
    obtain ⟨_, _, k, hk⟩ := hx
    rw [Int.mul_comm, hk, Int.add_mul_emod_self_left]
    exact Int.emod_eq_of_lt (by omega) (by omega)
  · left; exact iVal_none hx⟩
/-- a row, so far multiplied. -/
def timesK (q : Int) (o : List Int) (b : Int) (k : Nat) : List Int := tabL o.length fun j => if j < k then nth o j * b % q else nth o j
theorem timesK_zero (q : Int) (o : List Int) (b : Int) : timesK q o b 0 = o := by
  unfold timesK
  rw [tabL_congr (g := nth o) fun j _ => if_neg (by omega), tabL_nth]
theorem timesK_all (q : Int) (o : List Int) (b : Int) : timesK q o b o.length = timesL q o b := tabL_congr fun j hj => if_pos hj
theorem timesK_len (q : Int) (o : List Int) (b : Int) (k : Nat) : (timesK q o b k).length = o.length := tabL_len ..
theorem timesK_at {q : Int} {o : List Int} {b : Int} {k : Nat} (h : k < o.length) : nth (timesK q o b k) k = nth o k := by
  unfold timesK
  rw [tabL_at h, if_neg (by omega)]
theorem timesK_set {q : Int} {o : List Int} {b : Int} {k : Nat} : (u64v (timesK q o b k)).set k (.int .u64 (nth o k * b % q)) = u64v (timesK q o b (k + 1)) := by
  unfold timesK
  have := tabL_set (n := o.length) (f := fun j => if j < k then nth o j * b % q else nth o j) (g := fun j => if j < k + 1 then nth o j * b % q else nth o j) (k := k) fun j hj => by
    by_cases h1 : j < k
    · simp only [if_pos h1, if_pos (show j < k + 1 by omega)]
    · simp only [if_neg h1, if_neg (show ¬ j < k + 1 by omega)]
  simp only [if_pos (Nat.lt_succ_self k)] at this
  exact this
theorem MapAt.conv {w : World} {b : Nat} {L : List Ent} (f : Ent → Ent) (h : MapAt rM w b L) (hk : ∀ e ∈ L, (f e).en.at_ = e.en.at_ ∧ entS (f e) = entS e) : MapAt rM w b (L.map f) := by
  obtain ⟨h1, h2, D, h3, es, rfl, h4⟩ := h
  refine ⟨?_, ?_, _, ?_, es, rfl, ?_⟩
  · intro e he
    obtain ⟨a, ha, rfl⟩ := List.mem_map.1 he
    show I64 _
    rw [(hk a ha).1]
    exact h1 a ha
  · rw [List.pairwise_map]
    refine h2.imp_of_mem fun {a c} ha hc hne => ?_
    show (Lit.int .i64 _) ≠ Lit.int .i64 _
    rw [(hk a ha).1, (hk c hc).1]
    exact hne
  · rw [List.length_map]; exact h3
  · refine h4.trans (List.Perm.of_eq ?_)
    rw [List.map_map]
    refine List.map_congr_left fun e he => ?_
    show (Lit.int .i64 (e.en.at_ : Int), DataW.held (entS e)) = (Lit.int .i64 ((f e).en.at_ : Int), DataW.held (entS (f e)))
    rw [(hk e he).1, (hk e he).2]
theorem row1_ne {w : World} {a b : Nat} {e e' : TypeId} {xs ys : List Value} (h : Row1 w a e xs) (k : Row1 w b e' ys) (hne : e ≠ e') : a ≠ b := by
  rintro rfl
  unfold Row1 at h k
  rw [h] at k
  simp only [Option.some.injEq, Obj.cells.injEq] at k
  exact hne k.2.1
/-- an entry less so many times the new row. -/
def updE (q : Int) (rr : List Int) (k : Nat) (e : Ent) : Ent := ⟨⟨e.en.at_, lessL q e.en.row rr (nth e.en.row k)⟩, e.blk⟩
theorem updE_same (q : Int) (rr : List Int) (k : Nat) (e : Ent) : (updE q rr k e).en.at_ = e.en.at_ ∧ entS (updE q rr k e) = entS e := by
  refine ⟨rfl, ?_⟩
  unfold updE entS
  simp only [lessL_len]
theorem ens_put [DecidableEq Lit] (q : Int) (rr : List Int) (k b : Nat) (L : List Ent) : ens (⟨⟨k, rr⟩, b⟩ :: (L.map (updE q rr k)).filter fun c => decide (rM.key c ≠ rM.key (⟨⟨k, rr⟩, b⟩ : Ent))) = ⟨k, rr⟩ :: ((ens L).map fun p => (⟨p.at_, lessL q p.row rr (nth p.row k)⟩ : En)).filter fun p => decide (p.at_ ≠ k) := by
  show _ :: _ = _
  congr 1
  induction L with
  | nil => rfl
  | cons e L ih =>
    have hd : decide (rM.key (updE q rr k e) ≠ rM.key (⟨⟨k, rr⟩, b⟩ : Ent)) = decide (e.en.at_ ≠ k) := by
      have : rM.key (updE q rr k e) = rM.key (⟨⟨k, rr⟩, b⟩ : Ent) ↔ e.en.at_ = k := by
        show Lit.int .i64 (e.en.at_ : Int) = Lit.int .i64 (k : Int) ↔ _
        constructor
        · intro h
          have := (Lit.int.inj h).2
          omega
        · rintro rfl; rfl
      simp only [ne_eq, this]
    simp only [List.map_cons, List.filter_cons, hd]
    by_cases he : e.en.at_ ≠ k
    · simp only [decide_eq_true he, if_true, List.map_cons]
      rw [ih]
      rfl
    · simp only [decide_eq_false he]
      exact ih
set_option maxRecDepth 100000 in
set_option maxHeartbeats 4000000 in
theorem put_c (base gs gm W : Nat) (q : Int) (L : List Ent) (A : Option Addr) (row : List Int) (c : Nat) (w : World) (h : SpAt w base gs gm W q L) (hG : GoodS q W (ens L)) (hA : Cells w A (u64v row)) (hq : okm q = true) (hru : U64s row) (hl : row.length ≤ W) (hW : W ≤ 100000000) (hbase : base ≤ w.heap.size) [DecidableEq Lit] :
    Calls Tryd.prog 89 #[.pointer (some ⟨gs, 0, none⟩), .slice A row.length c] w fun e w' => e = .returned (.tuple #[]) ∧ ∃ L', ens L' = putL q (fun x => iVal x q) W (ens L) row ∧ SpAt w' base gs gm W q L' ∧ Below base w w' := by
  have HH := hid h
  have HG := hid hG
  have HQ := hid hq
  have hq1 := okm_pos hq
  have hq2 := okm_le hq
  have HLF := hid (left_c base gs gm W q L A row c w h hG hA hq hru (by omega) hW)
  have hmx : max W row.length = W := by omega
  have HLEN := hid (show (leftL q W (ens L) row).length = W by rw [leftL_len, hmx])
  have HRED := hid (leftL_red hq1 W (ens L) row)
  have HPUT := hid (show putL q (fun x => iVal x q) W (ens L) row = match firstL (leftL q W (ens L) row) with
    | none => ens L
    | some k => ⟨k, timesL q (leftL q W (ens L) row) (iVal (nth (leftL q W (ens L) row) k) q)⟩ :: ((ens L).map fun p => (⟨p.at_, lessL q p.row (timesL q (leftL q W (ens L) row) (iVal (nth (leftL q W (ens L) row) k) q)) (nth p.row k)⟩ : En)).filter fun p => decide (p.at_ ≠ k) from rfl)
  rw [hmx] at HLF
  clear h hG hA hq hru hmx
  generalize putL q (fun x => iVal x q) W (ens L) row = PP at *
  generalize leftL q W (ens L) row = o at *
  go_enter Tryd.func89, Tryd.ntmps89
  cases hf : firstL o with
  | none =>
    have hfi : firstI o = -1 := by unfold firstI; rw [hf]
    rw [hfi] at HLF
    rw [hf] at HPUT
    clear hf hfi
    go_wp2_with (fail)
    refine HLF.out.mono ?_
    rintro e w1 ⟨b0, rfl, hb0, hr1, hb1⟩
    go_wp2
    refine bodyPost_ret (results_none rfl _ _ _) rfl ?_
    exact ⟨rfl, L, HPUT.out.symm, HH.out.below hb1, hb1.mono hbase⟩
  | some k =>
    have hfi : firstI o = (k : Int) := by unfold firstI; rw [hf]
    obtain ⟨hk1, hk2⟩ := firstL_some hf
    rw [hfi] at HLF
    rw [hf] at HPUT
    have hkW : k < W := by have := HLEN.out; omega
    have hW0 := HLEN.out
    clear hf hfi hk2
    go_wp2_with (fail)
    refine HLF.out.mono ?_
    rintro e w1 ⟨b0, rfl, hb0, hr1, hb1⟩
    have H1 := hid (HH.out.below hb1)
    have HR1 := hid hr1
    have HB1 := hid hb1
    obtain ⟨x1, x2⟩ := (U64s.of_red HQ.out HRED.out).nth k
    have HIV := hid (iVal_range (a := nth o k) HQ.out)
    have HXK := hid (u64v_at hk1)
    clear HLF hr1 hb1
    generalize nth o k = x at *
    go_wp2_with (fail)
    refine Rgd.wp_region (l := [_, _, _, _, _, _, _, _, _, _, _, _, _, _]) (tail := []) (Rgd.keep w1 [] [(0, 0), (0, 0), (0, 0), (0, 0), (0, 0), (0, 0), (0, 0), (0, 0), (0, 0), (0, 0), (0, 0), (0, 0), (0, 0), (0, 0)]) [some 20, some 21, some 22, some 23, some 24, some 25, some 26, some 27, some 28, some 19, some 29, some 30, some 6, some 7] 73 rfl [[], [], [0, 1], [0, 1, 2], [], [4], [4, 5], [4, 5, 6], [0, 1, 2, 3, 4, 5, 6, 7], [0, 1, 2, 3, 4, 5, 6, 7, 8], [0, 1, 2, 3, 4, 5, 6, 7, 8, 9], [0, 1, 2, 3, 4, 5, 6, 7, 8, 9], [0, 1, 2, 3, 4, 5, 6, 7, 8, 9, 10], [0, 1, 2, 3, 4, 5, 6, 7, 8, 9, 10, 11, 12]] (by kernel_rfl) (by kernel_rfl) (by kernel_rfl) (by kernel_rfl) (by kernel_rfl) rfl (Rgd.keep_fair) (Rgd.keep_start _) ?_
    refine' Rgd.op_is _ [] 0 0 rfl rfl rfl (by kernel_rfl) ?_ ?_
    rotate_left
    · intro p wx hp1 hp2 hb
      obtain rfl : p = 0 := by omega
      refine Rgd.from_nil fun T hT => ?_
      go_wp2
      refine hT _ _ rfl (by first | exact Rgd.Keep.refl _ | exact below_of_dr hw2 | exact hw2 | exact (Below.refl _ _).alloc (Nat.le_refl _) _) ?_
      simp only [Rgd.last, List.getElem?_toArray, List.getElem?_cons_succ, List.getElem?_cons_zero, Option.getD_some]
      rfl
    refine' Rgd.op_is _ [] 0 0 rfl rfl rfl (by kernel_rfl) ?_ ?_
    rotate_left
    · intro p wx hp1 hp2 hb
      obtain rfl : p = 0 := by omega
      refine Rgd.from_nil fun T hT => ?_
      go_wp2
      refine hT _ _ rfl (by first | exact Rgd.Keep.refl _ | exact below_of_dr hw2 | exact hw2 | exact (Below.refl _ _).alloc (Nat.le_refl _) _) ?_
      simp only [Rgd.last, List.getElem?_toArray, List.getElem?_cons_succ, List.getElem?_cons_zero, Option.getD_some]
      rfl
    refine' Rgd.op_is _ [0, 1] 0 0 rfl rfl rfl (by kernel_rfl) ?_ ?_
    rotate_left
    · intro p wx hp1 hp2 hb
      obtain rfl : p = 0 := by omega
      refine Rgd.from_is (some 20) rfl rfl ?_
      refine Rgd.from_is (some 21) rfl rfl ?_
      refine Rgd.from_nil fun T hT => ?_
      go_wp2
      refine hT _ _ rfl (by first | exact Rgd.Keep.refl _ | exact below_of_dr hw2 | exact hw2 | exact (Below.refl _ _).alloc (Nat.le_refl _) _) ?_
      simp only [Rgd.last, List.getElem?_toArray, List.getElem?_cons_succ, List.getElem?_cons_zero, Option.getD_some]
      rfl
    refine Rgd.op_is (.int .u64 x) [2] 0 0 rfl rfl rfl (by kernel_rfl) ?_ ?_
    · intro p wx hp1 hp2 hb
      obtain rfl : p = 0 := by omega
      refine Rgd.from_is (some 22) rfl rfl ?_
      refine Rgd.from_nil fun T hT => ?_
      have q3 := (HR1.out.below hb).cell HXK.out
      go_wp2
      exact hT _ _ rfl (by first | exact Rgd.Keep.refl _ | exact below_of_dr hw2 | exact hw2 | exact (Below.refl _ _).alloc (Nat.le_refl _) _) (by first | rfl | exact congrArg _ (by decide))
    refine' Rgd.op_is _ [] 0 0 rfl rfl rfl (by kernel_rfl) ?_ ?_
    rotate_left
    · intro p wx hp1 hp2 hb
      obtain rfl : p = 0 := by omega
      refine Rgd.from_nil fun T hT => ?_
      go_wp2
      refine hT _ _ rfl (by first | exact Rgd.Keep.refl _ | exact below_of_dr hw2 | exact hw2 | exact (Below.refl _ _).alloc (Nat.le_refl _) _) ?_
      simp only [Rgd.last, List.getElem?_toArray, List.getElem?_cons_succ, List.getElem?_cons_zero, Option.getD_some]
      rfl
    refine' Rgd.op_is _ [4] 0 0 rfl rfl rfl (by kernel_rfl) ?_ ?_
    rotate_left
    · intro p wx hp1 hp2 hb
      obtain rfl : p = 0 := by omega
      refine Rgd.from_is (some 24) rfl rfl ?_
      refine Rgd.from_nil fun T hT => ?_
      go_wp2
      refine hT _ _ rfl (by first | exact Rgd.Keep.refl _ | exact below_of_dr hw2 | exact hw2 | exact (Below.refl _ _).alloc (Nat.le_refl _) _) ?_
      simp only [Rgd.last, List.getElem?_toArray, List.getElem?_cons_succ, List.getElem?_cons_zero, Option.getD_some]
      rfl
    refine' Rgd.op_is _ [5] 0 0 rfl rfl rfl (by kernel_rfl) ?_ ?_
    rotate_left
    · intro p wx hp1 hp2 hb
      obtain rfl : p = 0 := by omega
      refine Rgd.from_is (some 25) rfl rfl ?_
      refine Rgd.from_nil fun T hT => ?_
      go_wp2
      refine hT _ _ rfl (by first | exact Rgd.Keep.refl _ | exact below_of_dr hw2 | exact hw2 | exact (Below.refl _ _).alloc (Nat.le_refl _) _) ?_
      simp only [Rgd.last, List.getElem?_toArray, List.getElem?_cons_succ, List.getElem?_cons_zero, Option.getD_some]
      rfl
    refine Rgd.op_is (.int .u64 q) [6] 0 0 rfl rfl rfl (by kernel_rfl) ?_ ?_
    · intro p wx hp1 hp2 hb
      obtain rfl : p = 0 := by omega
      refine Rgd.from_is (some 26) rfl rfl ?_
      refine Rgd.from_nil fun T hT => ?_
      have q3 := (H1.out.row.below hb).cell (k := 0) rfl
      go_wp2
      exact hT _ _ rfl (by first | exact Rgd.Keep.refl _ | exact below_of_dr hw2 | exact hw2 | exact (Below.refl _ _).alloc (Nat.le_refl _) _) (by first | rfl | exact congrArg _ (by decide))
    refine Rgd.op_is (.tuple #[.int .u64 (iVal x q), .int .i64 (iErr x q)]) [3, 7] 0 0 rfl rfl rfl (by kernel_rfl) ?_ ?_
    · intro p wx hp1 hp2 hb
      obtain rfl : p = 0 := by omega
      refine Rgd.from_is (some 23) rfl rfl ?_
      refine Rgd.from_is (some 27) rfl rfl ?_
      refine Rgd.from_nil fun T hT => ?_
      go_wp2_with (fail)
      refine (inv_c x q ⟨x1, x2⟩ ⟨by omega, by omega⟩ _).mono ?_
      rintro e wy ⟨rfl, hk⟩
      go_wp2
      exact hT _ _ rfl (below_of_dr hk) (by simp [Rgd.last])
    refine Rgd.op_is (.tuple #[.int .u64 (iVal x q), .int .i64 (iErr x q)]) [8] 0 0 rfl rfl rfl (by kernel_rfl) ?_ ?_
    · intro p wx hp1 hp2 hb
      obtain rfl : p = 0 := by omega
      refine Rgd.from_is (some 28) rfl rfl ?_
      refine Rgd.from_nil fun T hT => ?_
      go_wp2
      exact hT _ _ rfl (by first | exact Rgd.Keep.refl _ | exact below_of_dr hw2 | exact hw2 | exact (Below.refl _ _).alloc (Nat.le_refl _) _) (by first | rfl | exact congrArg _ (by decide))
    refine Rgd.op_is (.int .u64 (iVal x q)) [9] 0 0 rfl rfl rfl (by kernel_rfl) ?_ ?_
    · intro p wx hp1 hp2 hb
      obtain rfl : p = 0 := by omega
      refine Rgd.from_is (some 19) rfl rfl ?_
      refine Rgd.from_nil fun T hT => ?_
      go_wp2
      exact hT _ _ rfl (by first | exact Rgd.Keep.refl _ | exact below_of_dr hw2 | exact hw2 | exact (Below.refl _ _).alloc (Nat.le_refl _) _) (by first | rfl | exact congrArg _ (by decide))
    refine Rgd.op_is (.int .i64 (iErr x q)) [9] 0 0 rfl rfl rfl (by kernel_rfl) ?_ ?_
    · intro p wx hp1 hp2 hb
      obtain rfl : p = 0 := by omega
      refine Rgd.from_is (some 19) rfl rfl ?_
      refine Rgd.from_nil fun T hT => ?_
      go_wp2
      exact hT _ _ rfl (by first | exact Rgd.Keep.refl _ | exact below_of_dr hw2 | exact hw2 | exact (Below.refl _ _).alloc (Nat.le_refl _) _) (by first | rfl | exact congrArg _ (by decide))
    refine Rgd.op_is (.int .u64 (iVal x q)) [10] 0 0 rfl rfl rfl (by kernel_rfl) ?_ ?_
    · intro p wx hp1 hp2 hb
      obtain rfl : p = 0 := by omega
      refine Rgd.from_is (some 29) rfl rfl ?_
      refine Rgd.from_nil fun T hT => ?_
      go_wp2
      exact hT _ _ rfl (by first | exact Rgd.Keep.refl _ | exact below_of_dr hw2 | exact hw2 | exact (Below.refl _ _).alloc (Nat.le_refl _) _) (by first | rfl | exact congrArg _ (by decide))
    refine Rgd.op_is (.int .i64 (iErr x q)) [11] 0 0 rfl rfl rfl (by kernel_rfl) ?_ ?_
    · intro p wx hp1 hp2 hb
      obtain rfl : p = 0 := by omega
      refine Rgd.from_is (some 30) rfl rfl ?_
      refine Rgd.from_nil fun T hT => ?_
      go_wp2
      exact hT _ _ rfl (by first | exact Rgd.Keep.refl _ | exact below_of_dr hw2 | exact hw2 | exact (Below.refl _ _).alloc (Nat.le_refl _) _) (by first | rfl | exact congrArg _ (by decide))
    refine Rgd.walk_nil [0, 1, 2, 3, 4, 5, 6, 7, 8, 9, 10, 11, 12, 13] (by kernel_rfl) ?_
    intro wx hb
    refine Rgd.from_is (some 20) rfl rfl ?_
    refine Rgd.from_is (some 21) rfl rfl ?_
    refine Rgd.from_is (some 22) rfl rfl ?_
    refine Rgd.from_is (some 23) rfl rfl ?_
    refine Rgd.from_is (some 24) rfl rfl ?_
    refine Rgd.from_is (some 25) rfl rfl ?_
    refine Rgd.from_is (some 26) rfl rfl ?_
    refine Rgd.from_is (some 27) rfl rfl ?_
    refine Rgd.from_is (some 28) rfl rfl ?_
    refine Rgd.from_is (some 19) rfl rfl ?_
    refine Rgd.from_is (some 29) rfl rfl ?_
    refine Rgd.from_is (some 30) rfl rfl ?_
    refine Rgd.from_is (some 6) rfl rfl ?_
    refine Rgd.from_is (some 7) rfl rfl ?_
    refine Rgd.from_nil ?_
    simp only [List.map, Act.put, List.setIfInBounds_toArray, List.set_cons_zero, List.set_cons_succ]
    have hb : Below w1.heap.size w1 wx := hb
    have H2 := hid (H1.out.below hb)
    have HR2 := hid (HR1.out.below hb)
    have HB2 := hid (below_next HB1.out HB1.out.size hb)
    obtain ⟨v1, v2⟩ := HIV.out
    generalize iVal x q = bk at *
    generalize iErr x q = er at *
    clear H1 HR1 HB1 hb HIV HXK
    have HTA := hid (timesK_all q o bk)
    have HTR := hid (show RedL q (timesL q o bk) from fun j => by
      by_cases hj : j < o.length
      · unfold timesL; rw [tabL_at hj]; exact ⟨Int.emod_nonneg _ (by omega), Int.emod_lt_of_pos _ hq1⟩
      · rw [nth_ge (by unfold timesL; rw [tabL_len]; omega)]; exact ⟨Int.le_refl 0, hq1⟩)
    have HTL := hid (show (timesL q o bk).length = W by unfold timesL; rw [tabL_len]; exact hW0)
    go_wp2
    go_loopw [33] (fun i wr => ∃ j : Nat, i = .int .i64 (j : Int) ∧ j ≤ W ∧ Hid (Row1 wr b0 23 (u64v (timesK q o bk j)) ∧ Below w.heap.size w wr)) (fun i _ => W - (intOf i).toNat)
    case atStart => exact ⟨0, rfl, by omega, hid ⟨by rw [timesK_zero]; exact HR2.out, HB2.out⟩⟩
    case round =>
      obtain ⟨j, rfl, hj, HI⟩ := hrel
      by_cases hlt : j < W
      · have HGr := hid ((HH.out.below HI.out.2).row)
        obtain ⟨y1, y2⟩ := (U64s.of_red HQ.out HRED.out).nth j
        have HX := hid (show (u64v (timesK q o bk j))[j]? = some (.int .u64 (nth o j)) by rw [u64v_at (by rw [timesK_len]; omega), timesK_at (by omega)])
        have HS := hid (timesK_set (q := q) (o := o) (b := bk) (k := j))
        have HMM := hid (show mMul (nth o j) bk q = nth o j * bk % q from mMul_ok HQ.out)
        generalize nth o j = y at *
        clear H2 HR2 HB2
        go_wp2_with (fail)
        refine Rgd.wp_region (l := [_, _, _, _, _, _, _, _, _, _, _, _, _]) (tail := [_]) (Rgd.keep wr [] [(0, 0), (0, 0), (0, 0), (0, 0), (0, 0), (0, 0), (0, 0), (0, 0), (0, 0), (0, 0), (0, 0), (0, 0), (0, 0)]) [some 36, some 37, some 38, some 39, some 40, some 41, some 42, some 43, some 44, some 45, some 46, some 47, some 48, none] 73 rfl [[], [], [], [], [2, 3], [2, 3, 4], [], [], [7], [7, 8], [7, 8, 9], [2, 3, 4, 5, 6, 7, 8, 9, 10], [0, 1, 2, 3, 4, 5, 6, 7, 8, 9, 10, 11]] (by kernel_rfl) (by kernel_rfl) (by kernel_rfl) (by kernel_rfl) (by kernel_rfl) rfl (Rgd.keep_fair) (Rgd.keep_start _) ?_
        refine' Rgd.op_is _ [] 0 0 rfl rfl rfl (by kernel_rfl) ?_ ?_
        rotate_left
        · intro p wx hp1 hp2 hb
          obtain rfl : p = 0 := by omega
          refine Rgd.from_nil fun T hT => ?_
          go_wp2
          refine hT _ _ rfl (by first | exact Rgd.Keep.refl _ | exact below_of_dr hw2 | exact hw2 | exact (Below.refl _ _).alloc (Nat.le_refl _) _) ?_
          simp only [Rgd.last, List.getElem?_toArray, List.getElem?_cons_succ, List.getElem?_cons_zero, Option.getD_some]
          rfl
        refine' Rgd.op_is _ [] 0 0 rfl rfl rfl (by kernel_rfl) ?_ ?_
        rotate_left
        · intro p wx hp1 hp2 hb
          obtain rfl : p = 0 := by omega
          refine Rgd.from_nil fun T hT => ?_
          go_wp2
          refine hT _ _ rfl (by first | exact Rgd.Keep.refl _ | exact below_of_dr hw2 | exact hw2 | exact (Below.refl _ _).alloc (Nat.le_refl _) _) ?_
          simp only [Rgd.last, List.getElem?_toArray, List.getElem?_cons_succ, List.getElem?_cons_zero, Option.getD_some]
          rfl
        refine' Rgd.op_is _ [] 0 0 rfl rfl rfl (by kernel_rfl) ?_ ?_
        rotate_left
        · intro p wx hp1 hp2 hb
          obtain rfl : p = 0 := by omega
          refine Rgd.from_nil fun T hT => ?_
          go_wp2
          refine hT _ _ rfl (by first | exact Rgd.Keep.refl _ | exact below_of_dr hw2 | exact hw2 | exact (Below.refl _ _).alloc (Nat.le_refl _) _) ?_
          simp only [Rgd.last, List.getElem?_toArray, List.getElem?_cons_succ, List.getElem?_cons_zero, Option.getD_some]
          rfl
        refine' Rgd.op_is _ [] 0 0 rfl rfl rfl (by kernel_rfl) ?_ ?_
        rotate_left
        · intro p wx hp1 hp2 hb
          obtain rfl : p = 0 := by omega
          refine Rgd.from_nil fun T hT => ?_
          go_wp2
          refine hT _ _ rfl (by first | exact Rgd.Keep.refl _ | exact below_of_dr hw2 | exact hw2 | exact (Below.refl _ _).alloc (Nat.le_refl _) _) ?_
          simp only [Rgd.last, List.getElem?_toArray, List.getElem?_cons_succ, List.getElem?_cons_zero, Option.getD_some]
          rfl
        refine' Rgd.op_is _ [2, 3] 0 0 rfl rfl rfl (by kernel_rfl) ?_ ?_
        rotate_left
        · intro p wx hp1 hp2 hb
          obtain rfl : p = 0 := by omega
          refine Rgd.from_is (some 38) rfl rfl ?_
          refine Rgd.from_is (some 39) rfl rfl ?_
          refine Rgd.from_nil fun T hT => ?_
          go_wp2
          refine hT _ _ rfl (by first | exact Rgd.Keep.refl _ | exact below_of_dr hw2 | exact hw2 | exact (Below.refl _ _).alloc (Nat.le_refl _) _) ?_
          simp only [Rgd.last, List.getElem?_toArray, List.getElem?_cons_succ, List.getElem?_cons_zero, Option.getD_some]
          rfl
        refine Rgd.op_is (.int .u64 y) [4] 0 0 rfl rfl rfl (by kernel_rfl) ?_ ?_
        · intro p wx hp1 hp2 hb
          obtain rfl : p = 0 := by omega
          refine Rgd.from_is (some 40) rfl rfl ?_
          refine Rgd.from_nil fun T hT => ?_
          have q3 := (HI.out.1.below hb).cell HX.out
          go_wp2
          exact hT _ _ rfl (by first | exact Rgd.Keep.refl _ | exact below_of_dr hw2 | exact hw2 | exact (Below.refl _ _).alloc (Nat.le_refl _) _) (by first | rfl | exact congrArg _ (by decide))
        refine' Rgd.op_is _ [] 0 0 rfl rfl rfl (by kernel_rfl) ?_ ?_
        rotate_left
        · intro p wx hp1 hp2 hb
          obtain rfl : p = 0 := by omega
          refine Rgd.from_nil fun T hT => ?_
          go_wp2
          refine hT _ _ rfl (by first | exact Rgd.Keep.refl _ | exact below_of_dr hw2 | exact hw2 | exact (Below.refl _ _).alloc (Nat.le_refl _) _) ?_
          simp only [Rgd.last, List.getElem?_toArray, List.getElem?_cons_succ, List.getElem?_cons_zero, Option.getD_some]
          rfl
        refine' Rgd.op_is _ [] 0 0 rfl rfl rfl (by kernel_rfl) ?_ ?_
        rotate_left
        · intro p wx hp1 hp2 hb
          obtain rfl : p = 0 := by omega
          refine Rgd.from_nil fun T hT => ?_
          go_wp2
          refine hT _ _ rfl (by first | exact Rgd.Keep.refl _ | exact below_of_dr hw2 | exact hw2 | exact (Below.refl _ _).alloc (Nat.le_refl _) _) ?_
          simp only [Rgd.last, List.getElem?_toArray, List.getElem?_cons_succ, List.getElem?_cons_zero, Option.getD_some]
          rfl
        refine' Rgd.op_is _ [7] 0 0 rfl rfl rfl (by kernel_rfl) ?_ ?_
        rotate_left
        · intro p wx hp1 hp2 hb
          obtain rfl : p = 0 := by omega
          refine Rgd.from_is (some 43) rfl rfl ?_
          refine Rgd.from_nil fun T hT => ?_
          go_wp2
          refine hT _ _ rfl (by first | exact Rgd.Keep.refl _ | exact below_of_dr hw2 | exact hw2 | exact (Below.refl _ _).alloc (Nat.le_refl _) _) ?_
          simp only [Rgd.last, List.getElem?_toArray, List.getElem?_cons_succ, List.getElem?_cons_zero, Option.getD_some]
          rfl
        refine' Rgd.op_is _ [8] 0 0 rfl rfl rfl (by kernel_rfl) ?_ ?_
        rotate_left
        · intro p wx hp1 hp2 hb
          obtain rfl : p = 0 := by omega
          refine Rgd.from_is (some 44) rfl rfl ?_
          refine Rgd.from_nil fun T hT => ?_
          go_wp2
          refine hT _ _ rfl (by first | exact Rgd.Keep.refl _ | exact below_of_dr hw2 | exact hw2 | exact (Below.refl _ _).alloc (Nat.le_refl _) _) ?_
          simp only [Rgd.last, List.getElem?_toArray, List.getElem?_cons_succ, List.getElem?_cons_zero, Option.getD_some]
          rfl
        refine Rgd.op_is (.int .u64 q) [9] 0 0 rfl rfl rfl (by kernel_rfl) ?_ ?_
        · intro p wx hp1 hp2 hb
          obtain rfl : p = 0 := by omega
          refine Rgd.from_is (some 45) rfl rfl ?_
          refine Rgd.from_nil fun T hT => ?_
          have q3 := (HGr.out.below hb).cell (k := 0) rfl
          go_wp2
          exact hT _ _ rfl (by first | exact Rgd.Keep.refl _ | exact below_of_dr hw2 | exact hw2 | exact (Below.refl _ _).alloc (Nat.le_refl _) _) (by first | rfl | exact congrArg _ (by decide))
        refine Rgd.op_is (.int .u64 (y * bk % q)) [5, 6, 10] 0 0 rfl rfl rfl (by kernel_rfl) ?_ ?_
        · intro p wx hp1 hp2 hb
          obtain rfl : p = 0 := by omega
          refine Rgd.from_is (some 41) rfl rfl ?_
          refine Rgd.from_is (some 42) rfl rfl ?_
          refine Rgd.from_is (some 46) rfl rfl ?_
          refine Rgd.from_nil fun T hT => ?_
          go_wp2_with (fail)
          refine (mul_c y bk q ⟨y1, y2⟩ ⟨by omega, by omega⟩ ⟨by omega, by omega⟩ _).mono ?_
          rintro e wy ⟨rfl, hk⟩
          rw [HMM.out]
          go_wp2
          exact hT _ _ rfl (below_of_dr hk) (by simp [Rgd.last])
        refine' Rgd.op_is _ [0, 1] 0 0 rfl rfl rfl (by kernel_rfl) ?_ ?_
        rotate_left
        · intro p wx hp1 hp2 hb
          obtain rfl : p = 0 := by omega
          refine Rgd.from_is (some 36) rfl rfl ?_
          refine Rgd.from_is (some 37) rfl rfl ?_
          refine Rgd.from_nil fun T hT => ?_
          go_wp2
          refine hT _ _ rfl (by first | exact Rgd.Keep.refl _ | exact below_of_dr hw2 | exact hw2 | exact (Below.refl _ _).alloc (Nat.le_refl _) _) ?_
          simp only [Rgd.last, List.getElem?_toArray, List.getElem?_cons_succ, List.getElem?_cons_zero, Option.getD_some]
          rfl
        refine Rgd.walk_nil [0, 1, 2, 3, 4, 5, 6, 7, 8, 9, 10, 11, 12] (by kernel_rfl) ?_
        intro wx hb
        refine Rgd.from_is (some 36) rfl rfl ?_
        refine Rgd.from_is (some 37) rfl rfl ?_
        refine Rgd.from_is (some 38) rfl rfl ?_
        refine Rgd.from_is (some 39) rfl rfl ?_
        refine Rgd.from_is (some 40) rfl rfl ?_
        refine Rgd.from_is (some 41) rfl rfl ?_
        refine Rgd.from_is (some 42) rfl rfl ?_
        refine Rgd.from_is (some 43) rfl rfl ?_
        refine Rgd.from_is (some 44) rfl rfl ?_
        refine Rgd.from_is (some 45) rfl rfl ?_
        refine Rgd.from_is (some 46) rfl rfl ?_
        refine Rgd.from_is (some 47) rfl rfl ?_
        refine Rgd.from_is (some 48) rfl rfl ?_
        refine Rgd.from_nil ?_
        simp only [List.map, Act.put, List.setIfInBounds_toArray, List.set_cons_zero, List.set_cons_succ]
        have hb : Below wr.heap.size wr wx := hb
        have hrx := HI.out.1.below hb
        have hfz := hrx.frozen j
        have hcx := hrx.cell HX.out
        have HN := hid (hrx.set j (.int .u64 (y * bk % q)))
        rw [HS.out] at HN
        have HBN := hid (below_set (k := j) (u := .int .u64 (y * bk % q)) (below_next HI.out.2 HI.out.2.size hb) hb0)
        clear hrx
        go_wp2
        go_roundw
        case rel => exact ⟨j + 1, by go_num, by omega, hid ⟨HN.out, HBN.out⟩⟩
        case measure => simp [intOf]; omega
      · obtain rfl : W = j := by omega
        rw [← hW0, HTA.out] at HI
        have HUR := hid (U64s.of_red HQ.out HTR.out)
        have HSP := hid (show PP = _ from HPUT.out)
        have HM1 := (HH.out.below HI.out.2).map
        have hgs0 := (HH.out.below HI.out.2).row
        have c2 := hgs0.cell (k := 2) rfl
        have hb0l := HI.out.1.lt
        have HI2 := hid (⟨HI.out.1, HI.out.2⟩ : _ ∧ _)
        have hLW : L.length ≤ W := by have := good_len HG.out; rwa [List.length_map] at this
        clear H2 HR2 HB2 HTA hlt hj HI HRED
        generalize timesL q o bk = rr at *
        have hrl := HTL.out
        clear HTL hW0 HLEN
        subst hrl
        go_wp2_with (at_range; refine wpList_range_rk _ rfl _ rfl rfl HM1 ?_; intro w2 cnt hrg2 hg2 hs2)
        go_frame
        have HB3 := hid (HI2.out.2.grown hg2 HI2.out.2.size fun j e => by cases e)
        have HR3 := hid (HI2.out.1.keep (hg2.block b0 hb0l fun e => by cases e))
        have H3 := hid (HH.out.below HB3.out)
        clear hg2 HM1 c2 hgs0
        obtain ⟨r, hr⟩ : ∃ r, wr.heap.size = r := ⟨_, rfl⟩
        have hbr : b0 < r := by omega
        rw [hr] at hrg2 ⊢
        clear hr hs2 hb0l HI2
        generalize wr = wo at *
        go_loopw [10] (fun _ wz => ∃ (rest : List Ent) (cnt : Nat) (pre : List Ent), RangeAt rM wz gm r L rest cnt ∧ Hid (L.Perm (pre ++ rest) ∧ (∀ e ∈ pre, Row1 wz e.blk 23 (u64v (updE q rr k e).en.row)) ∧ (∀ e ∈ rest, Row1 wz e.blk 23 (u64v e.en.row)) ∧ Row1 wz b0 23 (u64v rr) ∧ Row1 wz gs 84 (spV q rr.length gm) ∧ Below base w wz)) (fun _ wz => wz.rangeLeft gm r)
        case atStart => exact ⟨L, cnt, [], hrg2, hid ⟨.refl _, (fun e h => by cases h), H3.out.cells, HR3.out, H3.out.row, HB3.out.mono hbase⟩⟩
        case round =>
          obtain ⟨rest, cnt2, pre, hrg, HI⟩ := hrel
          have HL := hid hrg.left
          clear hrg2 HB3 HR3 H3
          go_wp2_with (at_next; refine wpList_next_rk _ rfl _ rfl rfl hrg ?_ ?_)
          · intro hr0
            have HALL := hid (show ∀ e ∈ L, Row1 wr e.blk 23 (u64v (updE q rr k e).en.row) from fun e he => by
              have hp := HI.out.1
              rw [hr0, List.append_nil] at hp
              exact HI.out.2.1 e (hp.mem_iff.1 he))
            have HMM := hrg.map.conv (updE q rr k) fun e _ => updE_same q rr k e
            have hgs := HI.out.2.2.2.2.1
            have c2 := hgs.cell (k := 2) rfl
            have HMH := hid HMM
            clear hrg hr0 HL
            go_wp2_with (at_mapUpdate; refine wpList_store_tab (M := rM) _ rfl _ _ _ 82 rfl 22 Tryd.underlying82 rfl HMM (by rw [List.length_map]; unfold maxLen; omega) (u := (⟨⟨k, rr⟩, b0⟩ : Ent)) (show I64 (k : Int) from ⟨by omega, by omega⟩) rfl rfl ?_; intro w4 hM4 hg4)
            go_end0
            have hgm := HMH.out.isMap
            refine ⟨rfl, _, ?_, ⟨hgs.but hg4 (HMH.out.ne_row hgs), hM4, ?_, ?_, ?_⟩, HI.out.2.2.2.2.2.grown hg4 (Nat.le_trans hbase HI.out.2.2.2.2.2.size) fun j e => by cases e; exact HH.out.lo.2.1⟩
            · rw [ens_put]; exact HPUT.out.symm
            · intro e he
              rcases List.mem_cons.1 he with rfl | he
              · exact HI.out.2.2.2.1.but hg4 (HMH.out.ne_row HI.out.2.2.2.1)
              · obtain ⟨e0, he0, rfl⟩ := List.mem_map.1 (List.mem_filter.1 he).1
                exact (HALL.out e0 he0).but hg4 (HMH.out.ne_row (HALL.out e0 he0))
            · refine List.pairwise_cons.2 ⟨fun e he => ?_, ?_⟩
              · obtain ⟨e0, he0, rfl⟩ := List.mem_map.1 (List.mem_filter.1 he).1
                have := (HH.out.cells e0 he0).lt
                show b0 ≠ e0.blk
                omega
              · refine List.Pairwise.filter _ ?_
                rw [List.pairwise_map]
                exact HH.out.nd
            · refine ⟨HH.out.lo.1, HH.out.lo.2.1, fun e he => ?_⟩
              rcases List.mem_cons.1 he with rfl | he
              · exact Nat.le_trans hbase hb0
              · obtain ⟨e0, he0, rfl⟩ := List.mem_map.1 (List.mem_filter.1 he).1
                exact HH.out.lo.2.2 e0 he0
          · intro x rest' w3 cnt3 hperm hx hrg3 hlt hg3 hs3 hen
            have HPM := hid hperm
            have hxS : x.en ∈ ens L := List.mem_map.2 ⟨x, hx, rfl⟩
            have hxl := HG.out.len _ hxS
            have HXU := hid (U64s.of_red HQ.out (HG.out.red _ hxS))
            have hxb : x.blk < w.heap.size := (HH.out.cells x hx).lt
            have hlt' : ∀ e ∈ L, e.blk < w.heap.size := fun e he => (HH.out.cells e he).lt
            have hne3 : ∀ (b : Nat) (ys : List Value) (ty : TypeId), Row1 wr b ty ys → b ≠ r → Row1 w3 b ty ys := fun b ys ty h hb => h.keep (hg3.block b h.lt fun e => hb (Option.some.inj e))
            have HPP := hid (show L.Perm ((pre ++ [x]) ++ rest') by
              rw [List.append_assoc]
              exact HI.out.1.trans (HPM.out.append_left pre))
            have HNDD := hid (show (pre ++ ([x] ++ rest')).Pairwise fun e e' => e.blk ≠ e'.blk by
              have := (HPP.out.pairwise_iff fun {_ _} hne => Ne.symm hne).1 HH.out.nd
              rwa [List.append_assoc] at this)
            have hc3 := hne3 _ _ _ (HI.out.2.2.1 x (HPM.out.mem_iff.2 (List.mem_cons_self ..))) (by omega)
            have hr3 := hne3 _ _ _ HI.out.2.2.2.1 (by omega)
            have hgs3 := hne3 _ _ _ HI.out.2.2.2.2.1 (by have := HH.out.row.lt; omega)
            have catx := hc3.cell (u64v_at (show k < x.en.row.length by omega))
            obtain ⟨tk, htk⟩ : ∃ z, nth x.en.row k = z := ⟨_, rfl⟩
            have HTU := hid (show U64 tk by rw [← htk]; exact HXU.out.nth _)
            have HUPD := hid (show lessL q x.en.row rr tk = (updE q rr k x).en.row by rw [← htk]; rfl)
            rw [htk] at catx
            clear htk
            have HLE := hid (less_c gs x.blk b0 gm rr.length q x.en.row rr tk w3 hgs3 hc3 hr3 (by omega) HQ.out HXU.out HUR.out HTU.out (by omega) (by omega))
            rw [hxl, HUPD.out] at HLE
            have HPRE := hid (show (∀ e ∈ pre, Row1 w3 e.blk 23 (u64v (updE q rr k e).en.row)) ∧ (∀ e ∈ rest', Row1 w3 e.blk 23 (u64v e.en.row)) from
              ⟨fun e he => hne3 _ _ _ (HI.out.2.1 e he) (by have := hlt' e (HI.out.1.mem_iff.2 (List.mem_append_left _ he)); omega),
               fun e he => hne3 _ _ _ (HI.out.2.2.1 e (HPM.out.mem_iff.2 (List.mem_cons_of_mem _ he))) (by have := hlt' e (HI.out.1.mem_iff.2 (List.mem_append_right _ (HPM.out.mem_iff.2 (List.mem_cons_of_mem _ he)))); omega)⟩)
            have HR4 := hid hr3
            have HGS4 := hid hgs3
            have HB4 := hid (HI.out.2.2.2.2.2.grown hg3 (Nat.le_trans hbase HI.out.2.2.2.2.2.size) fun j e => by cases e; omega)
            have hgm3 := hrg3.lt
            have hgmb : gm < w.heap.size := HH.out.map.lt
            have hgmx : x.blk ≠ gm := HH.out.map.ne_row (HH.out.cells x hx)
            have hgsx : gs ≠ x.blk := row1_ne HH.out.row (HH.out.cells x hx) (by decide)
            have hxlo := HH.out.lo.2.2 x hx
            clear hperm hs3 hg3 hrg hc3 hr3 hgs3 HI hne3 hlt'
            have HES := hid (show entS x = .slice (some ⟨x.blk, 0, none⟩) rr.length rr.length by unfold entS; rw [hxl])
            go_wp2_with (fail)
            rw [HES.out]
            refine HLE.out.mono ?_
            rintro e w4 ⟨rfl, hr4, hg4⟩
            have hrg4 := hrg3.keep (hg4.block gm hgm3.1 fun e => hgmx (Option.some.inj e).symm) (hg4.block r hgm3.2.1 fun e => by cases e; omega)
            have HNEW := hid (show (∀ e ∈ pre ++ [x], Row1 w4 e.blk 23 (u64v (updE q rr k e).en.row)) ∧ (∀ e ∈ rest', Row1 w4 e.blk 23 (u64v e.en.row)) ∧ Row1 w4 b0 23 (u64v rr) ∧ Row1 w4 gs 84 (spV q rr.length gm) ∧ Below base w w4 from by
              obtain ⟨n1, n2, n3⟩ := List.pairwise_append.1 HNDD.out
              refine ⟨fun e he => ?_, fun e he => ?_, HR4.out.but hg4 (by omega), HGS4.out.but hg4 hgsx, HB4.out.grown hg4 (Nat.le_trans hbase HB4.out.size) fun j e => by cases e; exact hxlo⟩
              · rcases List.mem_append.1 he with he | he
                · exact (HPRE.out.1 e he).but hg4 (n3 e he x (by simp))
                · obtain rfl := List.mem_singleton.1 he
                  exact hr4
              · exact (HPRE.out.2 e he).but hg4 (Ne.symm ((List.pairwise_cons.1 n2).1 e he)))
            clear HLE hr4 hg4 HB4 HR4 HGS4 HPRE HNDD catx hen
            go_wp2
            go_roundw
            case rel => exact ⟨rest', cnt3, pre ++ [x], hrg4, hid ⟨HPP.out, HNEW.out⟩⟩
            case measure => rw [HL.out, hrg4.left]; exact hlt
end Go.Proofs.YtgdfphcggjclkaaDoor
