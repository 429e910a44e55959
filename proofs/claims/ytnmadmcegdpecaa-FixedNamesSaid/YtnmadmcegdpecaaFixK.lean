/-
  A model's secrets.
-/
import Derived.Test.YtnmadmcegdpecaaFixJ
namespace Go.Proofs.Ytnmadmcegdpecaa
open Go.RowKit

/-- one row's secrets. -/
def sec1 (q : Int) (row : List Int) (s : Int) : List Int := mNums q row ++ [mNum s q]
def secretsS (p : Par) (W : List (List Int)) (b : List Int) : List Int := if mayB p W b = true then (List.zipWith (sec1 p.Q) W b).flatten else []

/-- a region in which one operation puts something behind a row of this call's own. -/
def turnWay (w0 : World) (base : Nat) (e : TypeId) (v0 : Value) (xs : List Value) (s : Nat) : Rg.Way :=
  ⟨Rg.Keep, fun w w' => (∀ k, k < w.heap.size → some k ≠ v0.ownBlock → w'.heap[k]? = w.heap[k]?) ∧ Below base w w', fun w => Below base w0 w, fun w => Own w base e v0 xs, s⟩
theorem turnWay_fair {w0 : World} {base : Nat} (h : base ≤ w0.heap.size) (e : TypeId) (v0 : Value) (xs : List Value) (s : Nat) : (turnWay w0 base e v0 xs s).Fair :=
  ⟨fun _ _ h1 h2 => h1.trans (Below.mono h2 (by have := h1.size; omega)), fun _ _ h1 h2 => h1.trans h2.2, fun _ _ h1 h2 => h1.below h2⟩
theorem below_drew (B : Nat) (w : World) : Below B w w.drew := ⟨rfl, rfl, rfl, Nat.le_refl _, fun _ _ => rfl⟩

theorem flatten_len : ∀ z : List (List Int), (∀ l ∈ z, l.length ≤ 5) → z.flatten.length ≤ 5 * z.length
  | [], _ => by simp
  | a :: z, h => by
    have h1 := h a (List.mem_cons_self ..)
    have h3 := flatten_len z fun l hl => h l (List.mem_cons_of_mem _ hl)
    simp only [List.flatten_cons, List.length_append, List.length_cons]
    omega

set_option maxRecDepth 100000 in
set_option maxHeartbeats 2000000 in
theorem fsecrets_c (p : Par) (hp : p.ok) (A B : Option Addr) (W : List (List Int)) (b : List Int) (c d : Nat) (w : World) (hA : GridI w A W) (hB : Cells w B (b.map (.int .i64)))
    (hl : W.length ≤ 9223372036854775807) (hl' : b.length ≤ 9223372036854775807) (hu : Ints W) (hu' : I64s b) :
    Calls Try.prog 39 #[pval p, mval A W.length c B b.length d] w (NewNums (secretsS p W b) w) := by
  go_enter Try.func39, Try.ntmps39
  go_wp2_with (fail)
  have hb2 := (below_alloc w (.cells (pcells p).toArray 40)).alloc (by simp) (.cells #[.slice A W.length c, .slice B b.length d] 44)
  have hP : Row1 ((w.alloc (.cells (pcells p).toArray 40)).alloc (.cells #[.slice A W.length c, .slice B b.length d] 44)) w.heap.size 40 (pcells p) := (row1_new w (pcells p) 40).alloc _
  have hM : Row1 ((w.alloc (.cells (pcells p).toArray 40)).alloc (.cells #[.slice A W.length c, .slice B b.length d] 44)) (w.heap.size + 1) 44 [.slice A W.length c, .slice B b.length d] := by
    have := row1_new (w.alloc (.cells (pcells p).toArray 40)) [.slice A W.length c, .slice B b.length d] 44
    simpa using this
  refine (fmay_c p _ _ _ _ _ _ _ (hA.below hb2) (hB.below hb2) hl (by omega) hu hu').mono ?_
  rintro e w1 ⟨rfl, hb3⟩
  have hb4 := below_next hb2 hb2.size hb3
  have hP1 := hP.below hb3
  have hM1 := hM.below hb3
  clear hP hM hb2 hb3
  have cW1 := hM1.cell (k := 0) rfl
  have hA1 := hA.below hb4
  have hB1 := hB.below hb4
  clear hA hB
  cases hm : mayB p W b with
  | false =>
    have HS := hid (show secretsS p W b = [] by simp [secretsS, hm])
    clear hm
    go_wp2
    go_ret
    refine ⟨_, rfl, ?_, hb4⟩
    rw [HS.out]
    exact Own.nil _ _ _
  | true =>
  have HF := hid ((mayB_iff p W b).1 hm)
  have HSC := hid (show secretsS p W b = (List.zipWith (sec1 p.Q) W b).flatten by simp [secretsS, hm])
  clear hm
  obtain ⟨sc, hsc⟩ : ∃ sc, List.zipWith (sec1 p.Q) W b = sc := ⟨_, rfl⟩
  rw [hsc] at HSC
  have hWb : W.length = b.length := by have := HF.out.lw; have := HF.out.lb; omega
  have hscl : sc.length = b.length := by rw [← hsc, List.length_zipWith]; omega
  have hsm : ∀ l ∈ sc, l.length ≤ 5 := by
    intro l hl
    rw [← hsc] at hl
    obtain ⟨i, hi⟩ := List.getElem?_of_mem hl
    rw [List.getElem?_zipWith] at hi
    cases h1 : W[i]? with
    | none => rw [h1] at hi; simp at hi
    | some row =>
      cases h2 : b[i]? with
      | none => rw [h1, h2] at hi; simp at hi
      | some s =>
        rw [h1, h2] at hi
        simp only [Option.some.injEq] at hi
        subst hi
        have := (HF.out.rows row (List.mem_of_getElem? h1)).1
        have := HF.out.fits.D
        simp [sec1, mNums]; omega
  have HX := hid (⟨hWb, hsc, hscl, hsm⟩ : _ ∧ _ ∧ _ ∧ _)
  clear hWb hsc hscl hsm
  go_wp2
  go_loopw [5, 6, 7, 15] (fun o _ _ i wr => ∃ k : Nat, i = .int .i64 k ∧ k ≤ W.length ∧ Own wr w1.heap.size 23 o ((sc.take k).flatten.map (.int .u64)) ∧ Below w1.heap.size w1 wr) (fun _ _ _ i _ => W.length - (intOf i).toNat)
  case atStart => exact ⟨0, rfl, by omega, by simpa using Own.nil w1 w1.heap.size 23, Below.refl _ _⟩
  case round =>
    obtain ⟨k, rfl, hk, hown, hbr⟩ := hrel
    rename_i wr
    by_cases hlt : k < W.length
    · obtain ⟨row, hrow⟩ := get_of_lt hlt
      have hltb : k < b.length := by have := HX.out.1; omega
      obtain ⟨s, hs⟩ := get_of_lt hltb
      obtain ⟨o1, off1, A', c', rfl, hc0, hcs, hln⟩ := hA1.at_ hrow
      obtain ⟨o2, off2, rfl, hcb⟩ := hB1.at_map hs
      have hc1 := (hbr.cell (lt_of_cell hc0)).trans hc0
      have hsck : sc[k]? = some (mNums p.Q row ++ [mNum s p.Q]) := by
        rw [← HX.out.2.1, List.getElem?_zipWith, hrow, hs]; rfl
      have hur := hu.at_ hrow
      have hus := hu'.at_ hs
      have hrl4 : row.length ≤ 4 := by
        have := (HF.out.rows row (List.mem_of_getElem? hrow)).1
        have := HF.out.fits.D
        omega
      have hxl : ((sc.take k).flatten.map (Value.int .u64)).length ≤ 10 := by
        have h2 : W.length ≤ 2 := by have := HF.out.lw; have := HF.out.fits.K; omega
        have h5 : ∀ l ∈ sc.take k, l.length ≤ 5 := fun l hl => HX.out.2.2.2 l (List.mem_of_mem_take hl)
        have h6 := flatten_len _ h5
        have h7 : (sc.take k).length ≤ k := by simp; omega
        rw [List.length_map]; omega
      have hfin : ((sc.take k).flatten.map (Value.int .u64) ++ (mNums p.Q row).map (.int .u64)) ++ [Value.int .u64 (mNum s p.Q)] = ((sc.take (k + 1)).flatten).map (.int .u64) := by
        rw [take_snoc' hsck]; simp
      have HFIN := hid hfin
      clear hfin hsck hc0 hs hrow
      go_wp2
      refine Rg.wp_region (l := [_, _, _, _, _, _, _, _, _, _, _, _, _, _, _]) (tail := [_, _]) (turnWay wr _ _ _ _ 5) [some 20, some 21, some 22, some 23, some 24, some 25, some 26, some 27, some 28, some 29, some 30, some 31, some 32, some 33, some 34, some 35, some 5] 38 (by kernel_rfl) (by kernel_rfl) (by kernel_rfl) rfl (turnWay_fair hbr.size _ _ _ _) (below_drew _ _) (hown) ?_
      refine' Rg.op_is _ [] rfl rfl (by kernel_rfl) ?_ ?_
      rotate_left
      · intro wx hb
        refine Rg.from_nil fun T hT => ?_
        go_wp2
        refine hT _ _ rfl (by first | exact Rg.Keep.refl _ | exact below_of_dr hw2 | exact hw2 | exact (Below.refl _ _).alloc (Nat.le_refl _) _) ?_
        simp only [Rg.last, List.getElem?_toArray, List.getElem?_cons_succ, List.getElem?_cons_zero, Option.getD_some]
        rfl
      refine' Rg.op_is _ [] rfl rfl (by kernel_rfl) ?_ ?_
      rotate_left
      · intro wx hb
        refine Rg.from_nil fun T hT => ?_
        go_wp2
        refine hT _ _ rfl (by first | exact Rg.Keep.refl _ | exact below_of_dr hw2 | exact hw2 | exact (Below.refl _ _).alloc (Nat.le_refl _) _) ?_
        simp only [Rg.last, List.getElem?_toArray, List.getElem?_cons_succ, List.getElem?_cons_zero, Option.getD_some]
        rfl
      refine Rg.op_is (.int .u64 p.Q) [1] rfl rfl (by kernel_rfl) ?_ ?_
      · intro wx hb
        refine Rg.from_is (some 21) rfl rfl ?_
        refine Rg.from_nil fun T hT => ?_
        have cQ := (hP1.below (hbr.trans hb)).cell (k := 1) (u := .int .u64 p.Q) rfl
        go_wp2
        exact hT _ _ rfl (by first | exact Rg.Keep.refl _ | exact below_of_dr hw2 | exact hw2 | exact (Below.refl _ _).alloc (Nat.le_refl _) _) (by first | rfl | exact congrArg _ (by decide))
      refine' Rg.op_is _ [] rfl rfl (by kernel_rfl) ?_ ?_
      rotate_left
      · intro wx hb
        refine Rg.from_nil fun T hT => ?_
        go_wp2
        refine hT _ _ rfl (by first | exact Rg.Keep.refl _ | exact below_of_dr hw2 | exact hw2 | exact (Below.refl _ _).alloc (Nat.le_refl _) _) ?_
        simp only [Rg.last, List.getElem?_toArray, List.getElem?_cons_succ, List.getElem?_cons_zero, Option.getD_some]
        rfl
      refine Rg.op_till (fun w' v => Own w' wr.heap.size 23 v ((mNums p.Q row).map (.int .u64))) [2, 3] rfl ?_ rfl (by kernel_rfl) ?_ ?_
      · exact fun w1 w2 v hk h => h.below hk
      · intro wx hb
        refine Rg.from_is (some 22) rfl rfl ?_
        refine Rg.from_is (some 23) rfl rfl ?_
        refine Rg.from_nil fun T hT => ?_
        go_wp2_with (fail)
        refine (fnumbers_c _ _ _ _ _ (hcs.below (hbr.trans hb)) (by omega) hur hp.Q).mono ?_
        rintro e w4 ⟨v, rfl, hown4, hb5⟩
        go_wp2
        exact hT _ _ rfl hb5 (hown4.from_ hb.size)
      refine Rg.op_turn (fun w' v => Own w' w1.heap.size 23 v ((sc.take k).flatten.map (.int .u64) ++ (mNums p.Q row).map (.int .u64))) [0, 4] rfl ?_ rfl (by kernel_rfl) ?_ ?_
      · exact fun w1 w2 v hk h => h.below hk
      · intro wx hb hb1
        refine Rg.from_is (some 20) rfl rfl ?_
        refine Rg.from_till (some 24) rfl rfl fun v24 h24 => ?_
        refine Rg.from_nil fun T hT => ?_
        refine wpList_pushes elt_u64 _ rfl _ _ rfl w1.heap.size hb1 rfl h24 rfl (fun u hu => by simp only [List.mem_map] at hu; obtain ⟨z, _, rfl⟩ := hu; rfl) (by simp [mNums] at hxl ⊢; omega) (by simp [mNums] at hxl ⊢; omega) (by have := hb.size; have := hbr.size; omega) ?_
        intro v' w' hown' hother hbel
        exact hT _ _ rfl ⟨hother, hbel⟩ hown'
      refine' Rg.op_is _ [] rfl rfl (by kernel_rfl) ?_ ?_
      rotate_left
      · intro wx hb
        refine Rg.from_nil fun T hT => ?_
        go_wp2
        refine hT _ _ rfl (by first | exact Rg.Keep.refl _ | exact below_of_dr hw2 | exact hw2 | exact (Below.refl _ _).alloc (Nat.le_refl _) _) ?_
        simp only [Rg.last, List.getElem?_toArray, List.getElem?_cons_succ, List.getElem?_cons_zero, Option.getD_some]
        rfl
      refine Rg.op_is (.slice (some ⟨o2, off2, none⟩) b.length d) [6] rfl rfl (by kernel_rfl) ?_ ?_
      · intro wx hb
        refine Rg.from_is (some 26) rfl rfl ?_
        refine Rg.from_nil fun T hT => ?_
        have cB := (hM1.below (hbr.trans hb)).cell (k := 1) (u := .slice (some ⟨o2, off2, none⟩) b.length d) rfl
        go_wp2
        exact hT _ _ rfl (by first | exact Rg.Keep.refl _ | exact below_of_dr hw2 | exact hw2 | exact (Below.refl _ _).alloc (Nat.le_refl _) _) (by first | rfl | exact congrArg _ (by decide))
      refine' Rg.op_is _ [] rfl rfl (by kernel_rfl) ?_ ?_
      rotate_left
      · intro wx hb
        refine Rg.from_nil fun T hT => ?_
        go_wp2
        refine hT _ _ rfl (by first | exact Rg.Keep.refl _ | exact below_of_dr hw2 | exact hw2 | exact (Below.refl _ _).alloc (Nat.le_refl _) _) ?_
        simp only [Rg.last, List.getElem?_toArray, List.getElem?_cons_succ, List.getElem?_cons_zero, Option.getD_some]
        rfl
      refine' Rg.op_is _ [7, 8] rfl rfl (by kernel_rfl) ?_ ?_
      rotate_left
      · intro wx hb
        refine Rg.from_is (some 27) rfl rfl ?_
        refine Rg.from_is (some 28) rfl rfl ?_
        refine Rg.from_nil fun T hT => ?_
        go_wp2
        refine hT _ _ rfl (by first | exact Rg.Keep.refl _ | exact below_of_dr hw2 | exact hw2 | exact (Below.refl _ _).alloc (Nat.le_refl _) _) ?_
        simp only [Rg.last, List.getElem?_toArray, List.getElem?_cons_succ, List.getElem?_cons_zero, Option.getD_some]
        rfl
      refine Rg.op_is (.int .i64 s) [9] rfl rfl (by kernel_rfl) ?_ ?_
      · intro wx hb
        refine Rg.from_is (some 29) rfl rfl ?_
        refine Rg.from_nil fun T hT => ?_
        have hcb' := ((hbr.trans hb).cell (lt_of_cell hcb)).trans hcb
        go_wp2
        exact hT _ _ rfl (by first | exact Rg.Keep.refl _ | exact below_of_dr hw2 | exact hw2 | exact (Below.refl _ _).alloc (Nat.le_refl _) _) (by first | rfl | exact congrArg _ (by decide))
      refine' Rg.op_is _ [] rfl rfl (by kernel_rfl) ?_ ?_
      rotate_left
      · intro wx hb
        refine Rg.from_nil fun T hT => ?_
        go_wp2
        refine hT _ _ rfl (by first | exact Rg.Keep.refl _ | exact below_of_dr hw2 | exact hw2 | exact (Below.refl _ _).alloc (Nat.le_refl _) _) ?_
        simp only [Rg.last, List.getElem?_toArray, List.getElem?_cons_succ, List.getElem?_cons_zero, Option.getD_some]
        rfl
      refine Rg.op_is (.int .u64 p.Q) [11] rfl rfl (by kernel_rfl) ?_ ?_
      · intro wx hb
        refine Rg.from_is (some 31) rfl rfl ?_
        refine Rg.from_nil fun T hT => ?_
        have cQ := (hP1.below (hbr.trans hb)).cell (k := 1) (u := .int .u64 p.Q) rfl
        go_wp2
        exact hT _ _ rfl (by first | exact Rg.Keep.refl _ | exact below_of_dr hw2 | exact hw2 | exact (Below.refl _ _).alloc (Nat.le_refl _) _) (by first | rfl | exact congrArg _ (by decide))
      refine Rg.op_is (.int .u64 (mNum s p.Q)) [10, 12] rfl rfl (by kernel_rfl) ?_ ?_
      · intro wx hb
        refine Rg.from_is (some 30) rfl rfl ?_
        refine Rg.from_is (some 32) rfl rfl ?_
        refine Rg.from_nil fun T hT => ?_
        go_wp2_with (go_at_call 27; refine (num_c s p.Q hus hp.Q _).mono ?_; rintro e w5 ⟨rfl, hw5⟩)
        exact hT _ _ rfl (below_of_dr hw5) rfl
      refine Rg.op_of (fun w' v => ∃ g, v = Value.slice (some ⟨g, 0, none⟩) 1 1 ∧ wr.heap.size ≤ g ∧ Row1 w' g 23 [.int .u64 (mNum s p.Q)]) [13] rfl ?_ ?_ rfl (by kernel_rfl) ?_ ?_
      · exact fun w1 w2 v hk ⟨g, e, h1, h2⟩ => ⟨g, e, h1, h2.below hk⟩
      · exact fun w1 w2 v hm ⟨g, e, h1, h2⟩ => ⟨g, e, h1, h2.keep (hm.1 g h2.lt (fun heq => by have := (hown.block g heq.symm).2; omega))⟩
      · intro wx hb
        refine Rg.from_is (some 33) rfl rfl ?_
        refine Rg.from_nil fun T hT => ?_
        go_wp2
        exact hT _ _ rfl (below_alloc _ _) ⟨wx.heap.size, rfl, hb.size, row1_new wx [.int .u64 (mNum s p.Q)] 23⟩
      refine Rg.walk_nil [0, 1, 2, 3, 4, 5, 6, 7, 8, 9, 10, 11, 12, 13, 14] (by kernel_rfl) ?_
      intro wx hb
      refine Rg.from_is (some 20) rfl rfl ?_
      refine Rg.from_is (some 21) rfl rfl ?_
      refine Rg.from_is (some 22) rfl rfl ?_
      refine Rg.from_is (some 23) rfl rfl ?_
      refine Rg.from_gone (some 24) rfl rfl fun v24 => ?_
      refine Rg.from_of (some 25) rfl rfl fun v25 h25 => ?_
      refine Rg.from_is (some 26) rfl rfl ?_
      refine Rg.from_is (some 27) rfl rfl ?_
      refine Rg.from_is (some 28) rfl rfl ?_
      refine Rg.from_is (some 29) rfl rfl ?_
      refine Rg.from_is (some 30) rfl rfl ?_
      refine Rg.from_is (some 31) rfl rfl ?_
      refine Rg.from_is (some 32) rfl rfl ?_
      refine Rg.from_is (some 33) rfl rfl ?_
      refine Rg.from_of (some 34) rfl rfl fun v34 h34 => ?_
      refine Rg.from_nil ?_
      simp only [List.map, Act.put, List.setIfInBounds_toArray, List.set_cons_zero, List.set_cons_succ]
      obtain ⟨g, rfl, hg, hrg⟩ := h34
      have hnew : Own wx w1.heap.size 23 (.slice (some ⟨g, 0, none⟩) 1 1) [.int .u64 (mNum s p.Q)] := by
        simpa using hrg.own (base := w1.heap.size) (by have := hbr.size; omega) (by simp)
      refine wpList_pushes elt_u64 wx rfl _ _ rfl w1.heap.size h25 rfl hnew rfl (fun u hu => by simp only [List.mem_singleton] at hu; subst hu; rfl) (by simp [mNums] at hxl ⊢; omega) (by simp [mNums] at hxl ⊢; omega) (by have := hb.size; have := hbr.size; omega) ?_
      intro v' w' hown' _ hbel
      rw [HFIN.out] at hown'
      have hbw : Below w1.heap.size w1 w' := (hbr.trans hb).trans hbel
      clear hbel hb hrg hnew h25 hown hbr
      go_wp2
      go_roundw
      case rel => exact ⟨k + 1, by go_num, by omega, hown', hbw⟩
      case measure => simp [intOf]; omega
    · obtain rfl : k = W.length := by omega
      go_wp2
      go_ret
      rw [HX.out.1, ← HX.out.2.2.1, List.take_length] at hown
      refine ⟨_, rfl, ?_, hb4.trans (hbr.mono hb4.size)⟩
      rw [HSC.out]
      exact hown.from_ hb4.size

end Go.Proofs.Ytnmadmcegdpecaa
