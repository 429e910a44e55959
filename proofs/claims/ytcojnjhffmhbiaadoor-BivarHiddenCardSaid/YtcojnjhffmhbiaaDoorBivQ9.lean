/-
  Parts of these texts that the statement needs: BvH, BvI.
-/
import Derived.Test.YtcojnjhffmhbiaaDoorBivQ8

section
namespace Go.Proofs.YtcojnjhffmhbiaaDoor
open Go Go.RowKit Go.Maps Go.Shelf Go.Proofs
/-- a root more, the value at 0 kept: while it is made. -/
def midZ (z : List Int) (b q : Int) (m : Nat) : List Int := (List.range (z.length + 1)).map fun j => if 1 ≤ j ∧ j ≤ m then mSub (z.getD j 0) (mMul (z.getD (j - 1) 0) b q) q else z.getD j 0
def stepZ (z : List Int) (b q : Int) : List Int := midZ z b q z.length
theorem midZ_len (z : List Int) (b q : Int) (m : Nat) : (midZ z b q m).length = z.length + 1 := by simp [midZ]
theorem midZ_zero (z : List Int) (b q : Int) : midZ z b q 0 = z ++ [0] := by
  unfold midZ
  apply List.ext_getElem (by simp)
  intro j h1 h2
  simp only [List.length_map, List.length_range] at h1
  simp only [List.getElem_map, List.getElem_range]
  rw [if_neg (by omega), List.getD_eq_getElem?_getD]
  rcases Nat.lt_or_ge j z.length with h | h
  · rw [List.getElem?_eq_getElem h, List.getElem_append_left h]; rfl
  · rw [List.getElem?_eq_none h, List.getElem_append_right h]; simp
theorem midZ_at {z : List Int} {b q : Int} {m : Nat} (_ : m < z.length) : (midZ z b q m)[m + 1]? = some (z.getD (m + 1) 0) := by
  unfold midZ
  rw [List.getElem?_map, List.getElem?_range (by omega)]
  simp only [Option.map_some]
  rw [if_neg (by omega)]
theorem midZ_set {z : List Int} {b q : Int} {m : Nat} (_ : m < z.length) : (midZ z b q m).set (m + 1) (mSub (z.getD (m + 1) 0) (mMul (z.getD m 0) b q) q) = midZ z b q (m + 1) := by
  apply List.ext_getElem (by rw [List.length_set, midZ_len, midZ_len])
  intro j h1 h2
  rw [List.length_set, midZ_len] at h1
  have g : ∀ m j (h : j < (midZ z b q m).length), (midZ z b q m)[j] = if 1 ≤ j ∧ j ≤ m then mSub (z.getD j 0) (mMul (z.getD (j - 1) 0) b q) q else z.getD j 0 := fun m j h => by simp [midZ]
  rw [List.getElem_set, g, g]
  by_cases e : m + 1 = j
  · subst e
    rw [if_pos rfl, if_pos ⟨by omega, by omega⟩, Nat.add_sub_cancel]
  · rw [if_neg e]
    by_cases h3 : 1 ≤ j ∧ j ≤ m
    · rw [if_pos h3, if_pos ⟨h3.1, by omega⟩]
    · rw [if_neg h3, if_neg (by omega)]
theorem midZ_u64 {z : List Int} {b q : Int} (hz : U64s z) (m : Nat) : U64s (midZ z b q m) := by
  intro y hy
  obtain ⟨j, _, rfl⟩ := List.mem_map.1 hy
  split
  · exact mSub_u64 ..
  · rcases getD_in z j with h | h
    · rw [h]; exact ⟨by decide, by decide⟩
    · exact hz _ h
/-- the polynomial that is 1 at 0, and 0 at places. -/
noncomputable def zF (xs : List Int) (q : Int) : List Int := xs.foldl (fun z x => stepZ z (iVal x q) q) [1 % q]
theorem zF_take {xs : List Int} {k : Nat} {x : Int} (h : xs[k]? = some x) (q : Int) : zF (xs.take (k + 1)) q = stepZ (zF (xs.take k) q) (iVal x q) q := by
  unfold zF
  rw [take_snocR h, List.foldl_append]; rfl
theorem zF_len (q : Int) (xs : List Int) : (zF xs q).length = xs.length + 1 := by
  have key : ∀ (l z : List Int), (l.foldl (fun z x => stepZ z (iVal x q) q) z).length = z.length + l.length := by
    intro l
    induction l with
    | nil => intro z; rfl
    | cons x l ih => intro z; rw [List.foldl_cons, ih, stepZ, midZ_len, List.length_cons]; omega
  unfold zF
  rw [key]
  simp only [List.length_cons, List.length_nil]; omega
theorem zF_u64 {q : Int} (hq : okm q = true) (xs : List Int) : U64s (zF xs q) := by
  have key : ∀ (l z : List Int), U64s z → U64s (l.foldl (fun z x => stepZ z (iVal x q) q) z) := by
    intro l
    induction l with
    | nil => intro z h; exact h
    | cons x l ih => intro z h; rw [List.foldl_cons]; exact ih _ (midZ_u64 h _)
  exact key xs _ fun z hz => by rw [List.mem_singleton.1 hz]; exact mod_u64 hq
theorem own_rowG {w : World} {base : Nat} {e : TypeId} {g n cap : Nat} {xs : List Value} (h : Own w base e (.slice (some ⟨g, 0, none⟩) n cap) xs) (hne : 0 < xs.length) :
    base ≤ g ∧ g < w.heap.size ∧ (∀ k u, xs[k]? = some u → w.cell? ⟨g, k, none⟩ = some u) ∧ (∀ k, w.frozen? ⟨g, k, none⟩ = false) ∧
      ∀ w' : World, w'.heap[g]? = w.heap[g]? → ∀ k u', k < xs.length → Own (w'.setCell ⟨g, k, none⟩ u') base e (.slice (some ⟨g, 0, none⟩) n cap) (xs.set k u') := by
  obtain ⟨g', cap', e1, h1, h2, h3, h4, h5⟩ := h.row hne
  simp only [Value.slice.injEq, Option.some.injEq, Addr.mk.injEq, and_true] at e1
  obtain ⟨rfl, rfl, rfl⟩ := e1
  exact ⟨h1, h2, h3, h4, h5⟩
set_option maxRecDepth 100000 in
set_option maxHeartbeats 1600000 in
theorem less06_c (A : Option Addr) (xs : List Int) (ca : Nat) (q : Int) (w : World) (hA : Cells w A (u64v xs)) (hl : xs.length ≤ 100) (hu : U64s xs) (hq : U64 q) (hok : okm q = true) :
    Calls Tryd.prog 54 #[.slice A xs.length ca, .int .u64 q] w fun e w' => ∃ A' c', e = .returned (.slice A' (zF xs q).length c') ∧ Cells w' A' (u64v (zF xs q)) ∧ Below w.heap.size w w' := by
  have hq0 := okm_pos hok
  have h1t : (1 : Int).tmod q = 1 % q := Int.tmod_eq_emod_of_nonneg (by omega)
  have HU := hid (fun xs => zF_u64 hok xs)
  clear hok
  go_enter Tryd.func54, Tryd.ntmps54
  go_wp2
  have hr0 := row1_new w [.int .u64 (1 % q)] 24
  have hb0 := below_alloc w (.cells [.int .u64 (1 % q)].toArray 24)
  simp only [List.toArray] at hr0 hb0
  go_loopw [5, 6, 7, 8, 9, 10] (fun zv i _ _ _ _ wr => ∃ k : Nat, i = .int .i64 k ∧ k ≤ xs.length ∧ (∃ A' c', zv = .slice A' (zF (xs.take k) q).length c' ∧ Cells wr A' (u64v (zF (xs.take k) q))) ∧ Below w.heap.size w wr) (fun _ i _ _ _ _ _ => xs.length - (intOf i).toNat)
  case atStart => exact ⟨0, rfl, by omega, ⟨_, 1, rfl, hr0.cells⟩, hb0⟩
  case round =>
    obtain ⟨k, rfl, hk, ⟨A', c', rfl, hz⟩, hw⟩ := hrel
    have hzl := zF_len q (xs.take k)
    have htk : (xs.take k).length = k := by rw [List.length_take]; omega
    rw [htk] at hzl
    by_cases hlt : k < xs.length
    · obtain ⟨x, hx⟩ := get_of_lt hlt
      obtain ⟨b1, o1, e1, hcx⟩ := (hA.below hw).at_map hx
      have hxu := hu x (List.mem_of_getElem? hx)
      have HZ := hid (zF_take hx q)
      have hzu := HU.out (xs.take k)
      subst e1
      clear hx htk
      generalize zF (xs.take k) q = z at *
      go_wp2_with (fail)
      refine (inv_c x q hxu hq wr).mono ?_
      rintro e w4 ⟨rfl, hd⟩
      replace hw := below_dr hw hd
      replace hz := hz.dr hd
      clear hd hcx
      have hbu := iVal_u64 x q
      generalize iVal x q = b at *
      have ho0 := (row1_new w4 [] 24).own (Nat.le_refl _) (by decide)
      have hb1 := below_alloc w4 (.cells [].toArray 24)
      simp only [List.toArray, List.length_nil] at ho0 hb1
      have lu : ∀ (l : List Int), (u64v l).length = l.length := fun l => by simp [u64v]
      have o1 : ∀ u ∈ u64v z, u.oneCell' = true := fun u hu => by
        obtain ⟨y, _, rfl⟩ := List.mem_map.1 hu
        rfl
      have HL := hid (⟨lu, o1, hzl⟩ : _ ∧ _ ∧ _)
      have hz12 : z.length ≤ 101 := by omega
      clear lu o1 hzl
      go_wp2_with (first
        | (at_builtin; refine wpList_more elt_u64 (w4.alloc (.cells #[] 24)) (by rfl) _ _ rfl w4.heap.size ho0 rfl (hz.below hb1) (by rw [HL.out.1]; rfl) HL.out.2.1 (by rw [HL.out.1]; simp; omega) (by rw [HL.out.1]; simp; omega) hb1.size ?_; intro v1 w7 ho1 hb2; replace hb2 := hb1.trans hb2; clear hb1 ho0)
        | (at_builtin; refine wpList_push elt_u64 w7 rfl _ _ rfl w4.heap.size ho1 rfl (.int .u64 0) rfl rfl (by rw [List.nil_append, HL.out.1]; omega) (by rw [List.nil_append, HL.out.1]; omega) hb2.size ?_; intro v2 w8 ho2 _ hb3; replace hb3 := hb2.trans hb3; clear hb2 ho1))
      have hm0 : [] ++ u64v z ++ [Value.int .u64 0] = u64v (midZ z b q 0) := by rw [midZ_zero]; simp [u64v]
      rw [hm0] at ho2
      clear hm0
      obtain ⟨g, cap, rfl, hg0, hg1, _, _, _⟩ := ho2.row (by rw [HL.out.1, midZ_len]; omega)
      have hml : (u64v (midZ z b q 0)).length = z.length + 1 := by rw [HL.out.1, midZ_len]
      rw [hml] at ho2 ⊢
      clear hml
      go_wp2
      go_loopw [10] (fun i w9 => ∃ m : Nat, i = .int .i64 m ∧ m ≤ z.length ∧ Own w9 w4.heap.size 24 (.slice (some ⟨g, 0, none⟩) (z.length + 1) cap) (u64v (midZ z b q m)) ∧ Below w4.heap.size w4 w9) (fun i _ => z.length - (intOf i).toNat)
      case atStart => exact ⟨0, rfl, by omega, ho2, hb3⟩
      case round =>
        obtain ⟨m, rfl, hm, ho, hw9⟩ := hrel
        by_cases hlt2 : m < z.length
        · obtain ⟨y, hy⟩ := get_of_lt hlt2
          have hyu := hzu y (List.mem_of_getElem? hy)
          obtain ⟨b3, o3, rfl, hcy⟩ := (hz.below hw9).at_map hy
          have hmz := midZ_at (b := b) (q := q) hlt2
          have hms := midZ_set (b := b) (q := q) hlt2
          rw [getD_in' hy] at hms
          have hnu : U64 (z.getD (m + 1) 0) := by
            rcases getD_in z (m + 1) with h | h
            · rw [h]; exact ⟨by decide, by decide⟩
            · exact hzu _ h
          have hle : m + 1 < (u64v (midZ z b q m)).length := by rw [HL.out.1, midZ_len]; omega
          obtain ⟨_, _, hc1, _, _⟩ := own_rowG ho (by omega)
          have hcn := hc1 (m + 1) (.int .u64 (z.getD (m + 1) 0)) (by unfold u64v; rw [List.getElem?_map, hmz]; rfl)
          clear hy hmz hc1
          generalize z.getD (m + 1) 0 = n at *
          have HMS := hid hms
          clear hms
          go_wp2
          refine Rg.wp_region (l := [_, _, _, _, _, _, _, _, _, _, _, _, _, _, _, _, _]) (tail := [_, _]) (Rg.grows _ 19) [some 40, some 41, some 42, some 43, some 44, some 45, some 46, some 47, some 48, some 49, some 50, some 51, some 52, some 53, some 54, some 55, some 56, some 57, none] 60 (by kernel_rfl) (by kernel_rfl) (by kernel_rfl) rfl (Rg.grows_fair _ _) (Rg.keep_drew _) (trivial) ?_
          refine' Rg.op_is _ [] rfl rfl (by kernel_rfl) ?_ ?_
          rotate_left
          · intro wx hb
            refine Rg.from_nil fun T hT => ?_
            go_wp2
            refine hT _ _ rfl (by first | exact Rg.Keep.refl _ | exact below_of_dr hw2 | exact hw2 | exact (Below.refl _ _).alloc (Nat.le_refl _) _) ?_
            simp only [Rg.last, List.getElem?_toArray, List.getElem?_cons_succ, List.getElem?_cons_zero, Option.getD_some]
            rfl
          refine' Rg.op_is _ [] rfl rfl (by kernel_rfl) ?_ ?_
          rotate_left
          · intro wx hb
            refine Rg.from_nil fun T hT => ?_
            go_wp2
            refine hT _ _ rfl (by first | exact Rg.Keep.refl _ | exact below_of_dr hw2 | exact hw2 | exact (Below.refl _ _).alloc (Nat.le_refl _) _) ?_
            simp only [Rg.last, List.getElem?_toArray, List.getElem?_cons_succ, List.getElem?_cons_zero, Option.getD_some]
            rfl
          refine Rg.op_is (.int .i64 ((m + 1 : Nat) : Int)) [1] rfl rfl (by kernel_rfl) ?_ ?_
          · intro wx hb
            refine Rg.from_is (some 41) rfl rfl ?_
            refine Rg.from_nil fun T hT => ?_
            go_wp2
            exact hT _ _ rfl (by first | exact Rg.Keep.refl _ | exact below_of_dr hw2 | exact hw2 | exact (Below.refl _ _).alloc (Nat.le_refl _) _) (by first | rfl | exact congrArg _ (by decide))
          refine' Rg.op_is _ [] rfl rfl (by kernel_rfl) ?_ ?_
          rotate_left
          · intro wx hb
            refine Rg.from_nil fun T hT => ?_
            go_wp2
            refine hT _ _ rfl (by first | exact Rg.Keep.refl _ | exact below_of_dr hw2 | exact hw2 | exact (Below.refl _ _).alloc (Nat.le_refl _) _) ?_
            simp only [Rg.last, List.getElem?_toArray, List.getElem?_cons_succ, List.getElem?_cons_zero, Option.getD_some]
            rfl
          refine' Rg.op_is _ [] rfl rfl (by kernel_rfl) ?_ ?_
          rotate_left
          · intro wx hb
            refine Rg.from_nil fun T hT => ?_
            go_wp2
            refine hT _ _ rfl (by first | exact Rg.Keep.refl _ | exact below_of_dr hw2 | exact hw2 | exact (Below.refl _ _).alloc (Nat.le_refl _) _) ?_
            simp only [Rg.last, List.getElem?_toArray, List.getElem?_cons_succ, List.getElem?_cons_zero, Option.getD_some]
            rfl
          refine Rg.op_is (.int .i64 ((m + 1 : Nat) : Int)) [4] rfl rfl (by kernel_rfl) ?_ ?_
          · intro wx hb
            refine Rg.from_is (some 44) rfl rfl ?_
            refine Rg.from_nil fun T hT => ?_
            go_wp2
            exact hT _ _ rfl (by first | exact Rg.Keep.refl _ | exact below_of_dr hw2 | exact hw2 | exact (Below.refl _ _).alloc (Nat.le_refl _) _) (by first | rfl | exact congrArg _ (by decide))
          refine' Rg.op_is _ [3, 5] rfl rfl (by kernel_rfl) ?_ ?_
          rotate_left
          · intro wx hb
            refine Rg.from_is (some 43) rfl rfl ?_
            refine Rg.from_is (some 45) rfl rfl ?_
            refine Rg.from_nil fun T hT => ?_
            go_wp2
            refine hT _ _ rfl (by first | exact Rg.Keep.refl _ | exact below_of_dr hw2 | exact hw2 | exact (Below.refl _ _).alloc (Nat.le_refl _) _) ?_
            simp only [Rg.last, List.getElem?_toArray, List.getElem?_cons_succ, List.getElem?_cons_zero, Option.getD_some]
            rfl
          refine Rg.op_is (.int .u64 n) [6] rfl rfl (by kernel_rfl) ?_ ?_
          · intro wx hb
            refine Rg.from_is (some 46) rfl rfl ?_
            refine Rg.from_nil fun T hT => ?_
            have hcn2 := (hb.cell (lt_of_cell hcn)).trans hcn
            go_wp2
            exact hT _ _ rfl (by first | exact Rg.Keep.refl _ | exact below_of_dr hw2 | exact hw2 | exact (Below.refl _ _).alloc (Nat.le_refl _) _) (by first | rfl | exact congrArg _ (by decide))
          refine' Rg.op_is _ [] rfl rfl (by kernel_rfl) ?_ ?_
          rotate_left
          · intro wx hb
            refine Rg.from_nil fun T hT => ?_
            go_wp2
            refine hT _ _ rfl (by first | exact Rg.Keep.refl _ | exact below_of_dr hw2 | exact hw2 | exact (Below.refl _ _).alloc (Nat.le_refl _) _) ?_
            simp only [Rg.last, List.getElem?_toArray, List.getElem?_cons_succ, List.getElem?_cons_zero, Option.getD_some]
            rfl
          refine' Rg.op_is _ [] rfl rfl (by kernel_rfl) ?_ ?_
          rotate_left
          · intro wx hb
            refine Rg.from_nil fun T hT => ?_
            go_wp2
            refine hT _ _ rfl (by first | exact Rg.Keep.refl _ | exact below_of_dr hw2 | exact hw2 | exact (Below.refl _ _).alloc (Nat.le_refl _) _) ?_
            simp only [Rg.last, List.getElem?_toArray, List.getElem?_cons_succ, List.getElem?_cons_zero, Option.getD_some]
            rfl
          refine' Rg.op_is _ [8, 9] rfl rfl (by kernel_rfl) ?_ ?_
          rotate_left
          · intro wx hb
            refine Rg.from_is (some 48) rfl rfl ?_
            refine Rg.from_is (some 49) rfl rfl ?_
            refine Rg.from_nil fun T hT => ?_
            go_wp2
            refine hT _ _ rfl (by first | exact Rg.Keep.refl _ | exact below_of_dr hw2 | exact hw2 | exact (Below.refl _ _).alloc (Nat.le_refl _) _) ?_
            simp only [Rg.last, List.getElem?_toArray, List.getElem?_cons_succ, List.getElem?_cons_zero, Option.getD_some]
            rfl
          refine Rg.op_is (.int .u64 y) [10] rfl rfl (by kernel_rfl) ?_ ?_
          · intro wx hb
            refine Rg.from_is (some 50) rfl rfl ?_
            refine Rg.from_nil fun T hT => ?_
            have hcy2 := (hb.cell (lt_of_cell hcy)).trans hcy
            go_wp2
            exact hT _ _ rfl (by first | exact Rg.Keep.refl _ | exact below_of_dr hw2 | exact hw2 | exact (Below.refl _ _).alloc (Nat.le_refl _) _) (by first | rfl | exact congrArg _ (by decide))
          refine' Rg.op_is _ [] rfl rfl (by kernel_rfl) ?_ ?_
          rotate_left
          · intro wx hb
            refine Rg.from_nil fun T hT => ?_
            go_wp2
            refine hT _ _ rfl (by first | exact Rg.Keep.refl _ | exact below_of_dr hw2 | exact hw2 | exact (Below.refl _ _).alloc (Nat.le_refl _) _) ?_
            simp only [Rg.last, List.getElem?_toArray, List.getElem?_cons_succ, List.getElem?_cons_zero, Option.getD_some]
            rfl
          refine' Rg.op_is _ [] rfl rfl (by kernel_rfl) ?_ ?_
          rotate_left
          · intro wx hb
            refine Rg.from_nil fun T hT => ?_
            go_wp2
            refine hT _ _ rfl (by first | exact Rg.Keep.refl _ | exact below_of_dr hw2 | exact hw2 | exact (Below.refl _ _).alloc (Nat.le_refl _) _) ?_
            simp only [Rg.last, List.getElem?_toArray, List.getElem?_cons_succ, List.getElem?_cons_zero, Option.getD_some]
            rfl
          refine Rg.op_is (.int .u64 (mMul y b q)) [11, 12, 13] rfl rfl (by kernel_rfl) ?_ ?_
          · intro wx hb
            refine Rg.from_is (some 51) rfl rfl ?_
            refine Rg.from_is (some 52) rfl rfl ?_
            refine Rg.from_is (some 53) rfl rfl ?_
            refine Rg.from_nil fun T hT => ?_
            go_wp2_with (go_at_call 29; refine (mul_c _ _ _ hyu hbu hq _).mono ?_; rintro e w5 ⟨rfl, hw5⟩)
            exact hT _ _ rfl (below_of_dr hw5) rfl
          refine' Rg.op_is _ [] rfl rfl (by kernel_rfl) ?_ ?_
          rotate_left
          · intro wx hb
            refine Rg.from_nil fun T hT => ?_
            go_wp2
            refine hT _ _ rfl (by first | exact Rg.Keep.refl _ | exact below_of_dr hw2 | exact hw2 | exact (Below.refl _ _).alloc (Nat.le_refl _) _) ?_
            simp only [Rg.last, List.getElem?_toArray, List.getElem?_cons_succ, List.getElem?_cons_zero, Option.getD_some]
            rfl
          refine Rg.op_is (.int .u64 (mSub n (mMul y b q) q)) [7, 14, 15] rfl rfl (by kernel_rfl) ?_ ?_
          · intro wx hb
            refine Rg.from_is (some 47) rfl rfl ?_
            refine Rg.from_is (some 54) rfl rfl ?_
            refine Rg.from_is (some 55) rfl rfl ?_
            refine Rg.from_nil fun T hT => ?_
            go_wp2_with (go_at_call 115; refine (sub_c _ _ _ hnu (mMul_u64 _ _ _) hq _).mono ?_; rintro e w5 ⟨rfl, hw5⟩)
            exact hT _ _ rfl (below_of_dr hw5) rfl
          refine Rg.walk_nil [0, 1, 2, 3, 4, 5, 6, 7, 8, 9, 10, 11, 12, 13, 14, 15, 16] (by kernel_rfl) ?_
          intro wx hb
          refine Rg.from_is (some 40) rfl rfl ?_
          refine Rg.from_is (some 41) rfl rfl ?_
          refine Rg.from_is (some 42) rfl rfl ?_
          refine Rg.from_is (some 43) rfl rfl ?_
          refine Rg.from_is (some 44) rfl rfl ?_
          refine Rg.from_is (some 45) rfl rfl ?_
          refine Rg.from_is (some 46) rfl rfl ?_
          refine Rg.from_is (some 47) rfl rfl ?_
          refine Rg.from_is (some 48) rfl rfl ?_
          refine Rg.from_is (some 49) rfl rfl ?_
          refine Rg.from_is (some 50) rfl rfl ?_
          refine Rg.from_is (some 51) rfl rfl ?_
          refine Rg.from_is (some 52) rfl rfl ?_
          refine Rg.from_is (some 53) rfl rfl ?_
          refine Rg.from_is (some 54) rfl rfl ?_
          refine Rg.from_is (some 55) rfl rfl ?_
          refine Rg.from_is (some 56) rfl rfl ?_
          refine Rg.from_nil ?_
          simp only [List.map, Act.put, List.setIfInBounds_toArray, List.set_cons_zero, List.set_cons_succ]
          have ho5 := ho.below hb
          obtain ⟨hg2, hg3, _, hf5, hset⟩ := own_rowG ho5 (by omega)
          have hc5 := (hb.cell (lt_of_cell hcn)).trans hcn
          have hf6 := hf5 (m + 1)
          have ho6 := hset _ rfl (m + 1) (.int .u64 (mSub n (mMul y b q) q)) hle
          have hb6 := (below_next hw9 hw9.size hb).setCell (p := ⟨g, m + 1, none⟩) hg2 (.int .u64 (mSub n (mMul y b q) q))
          have hsv : (u64v (midZ z b q m)).set (m + 1) (.int .u64 (mSub n (mMul y b q) q)) = u64v (midZ z b q (m + 1)) := by
            unfold u64v
            rw [← List.map_set, HMS.out]
          rw [hsv] at ho6
          clear hb ho5 ho hw9 hcn hcy hset hf5 hsv
          go_wp2
          go_roundw
          case rel => exact ⟨m + 1, by go_num, by omega, ho6, hb6⟩
          case measure => simp [intOf]; omega
        · obtain rfl : m = z.length := by omega
          obtain ⟨A9, c9, e9, hc9⟩ := ho.form
          rw [HL.out.1, midZ_len] at e9
          simp only [Value.slice.injEq, true_and] at e9
          obtain ⟨rfl, rfl⟩ := e9
          have hsz : (zF (xs.take (k + 1)) q).length = z.length + 1 := by rw [HZ.out, stepZ, midZ_len]
          have HSZ := hid (⟨hsz, HZ.out⟩ : _ ∧ _)
          clear hsz
          go_wp2
          go_roundw
          case rel => exact ⟨k + 1, by go_num, by omega, ⟨_, cap, by rw [HSZ.out.1], by rw [HSZ.out.2]; exact hc9⟩, below_next hw hw.size hw9⟩
          case measure => simp [intOf]; omega
    · obtain rfl : k = xs.length := by omega
      rw [List.take_length] at *
      have HZL := hid hzl
      clear hzl htk
      go_wp2
      go_ret
      exact ⟨A', c', rfl, hz, hw⟩
end Go.Proofs.YtcojnjhffmhbiaaDoor
end

section
namespace Go.Proofs.YtcojnjhffmhbiaaDoor
open Go Go.RowKit Go.Maps Go.Shelf Go.Proofs
theorem ev_shift (z : List Int) (X : Int) : ev ((List.range (z.length + 1)).map fun j => if j = 0 then 0 else z.getD (j - 1) 0) X = X * ev z X := by
  rw [List.range_succ_eq_map, List.map_cons, List.map_map, ev_cons, if_pos rfl]
  have e : ((List.range z.length).map ((fun j => if j = 0 then 0 else z.getD (j - 1) 0) ∘ Nat.succ)) = (List.range z.length).map fun j => z.getD j 0 := by
    apply List.map_congr_left
    intro j _
    simp
  rw [e, ev_pad z z.length X (Nat.le_refl _), Int.zero_add]
theorem ev_step {q : Int} (hq : okm q = true) (z : List Int) (b X : Int) : ev (stepZ z b q) X % q = (ev z X * (1 - X * b)) % q := by
  have h : (stepZ z b q).map (· % q) = ((List.range (z.length + 1)).map fun j => z.getD j 0 + (-b) * (if j = 0 then 0 else z.getD (j - 1) 0)).map (· % q) := by
    unfold stepZ midZ
    rw [List.map_map, List.map_map]
    apply List.map_congr_left
    intro j hj
    have := List.mem_range.1 hj
    simp only [Function.comp]
    by_cases h0 : j = 0
    · subst h0; simp
    · rw [if_pos ⟨by omega, by omega⟩, if_neg h0, mSub_ok hq, mMul_ok hq, Int.emod_emod, Int.sub_emod, Int.emod_emod, ← Int.sub_emod]
      congr 1
      grind
  rw [ev_congr rfl h, ev_two, ev_pad z _ X (by omega), ev_shift]
  congr 1
  grind
theorem zF_zero {q : Int} (hq : okm q = true) (xs : List Int) : ev (zF xs q) 0 % q = 1 % q := by
  have key : ∀ (l z : List Int), ev z 0 % q = 1 % q → ev (l.foldl (fun z x => stepZ z (iVal x q) q) z) 0 % q = 1 % q := by
    intro l
    induction l with
    | nil => intro z h; exact h
    | cons x l ih =>
      intro z h
      rw [List.foldl_cons]
      refine ih _ ?_
      rw [ev_step hq]
      simpa using h
  exact key xs _ (by simp [ev])
theorem zF_root {q : Int} (hq : okm q = true) {xs : List Int} {x : Int} (X : Int) (hx : x ∈ xs) (hu : Un x q) (he : X % q = x % q) : ev (zF xs q) X % q = 0 := by
  have key : ∀ (l z : List Int), ev z X % q = 0 → ev (l.foldl (fun z x => stepZ z (iVal x q) q) z) X % q = 0 := by
    intro l
    induction l with
    | nil => intro z h; exact h
    | cons y l ih =>
      intro z h
      rw [List.foldl_cons]
      refine ih _ ?_
      rw [ev_step hq, Int.mul_emod, h, Int.zero_mul, Int.zero_emod]
  have key2 : ∀ (l z : List Int), x ∈ l → ev (l.foldl (fun z x => stepZ z (iVal x q) q) z) X % q = 0 := by
    intro l
    induction l with
    | nil => intro z h; simp at h
    | cons y l ih =>
      intro z h
      rw [List.foldl_cons]
      rcases List.mem_cons.1 h with rfl | h
      · refine key l _ ?_
        have h1 : (X * iVal x q) % q = 1 % q := by rw [Int.mul_emod, he, ← Int.mul_emod, Int.mul_comm]; exact iVal_mul hq hu
        have h2 : (1 - X * iVal x q) % q = 0 := by rw [Int.sub_emod, h1, Int.sub_self, Int.zero_emod]
        rw [ev_step hq, Int.mul_emod, h2, Int.mul_zero, Int.zero_emod]
      · exact ih _ h
  exact key2 xs _ hx
/-- a row that hides: while it is made, and whole. -/
def hVal (z l : List Int) (more a q : Int) (j : Nat) : Int := if j < l.length then mAdd (mMul more (mMul a (z.getD j 0) q) q) (l.getD j 0) q else mMul more (mMul a (z.getD j 0) q) q
def hMid (z l : List Int) (more a q : Int) (m : Nat) : List Int := (List.range z.length).map fun j => if j < m then hVal z l more a q j else 0
def hRow (z l : List Int) (more a q : Int) : List Int := (List.range z.length).map (hVal z l more a q)
def hG (f : List (List Int)) (z : List Int) (more q : Int) : List (List Int) := (List.range z.length).map fun i => hRow z (f.getD i []) more (z.getD i 0) q
theorem hMid_len (z l : List Int) (more a q : Int) (m : Nat) : (hMid z l more a q m).length = z.length := by simp [hMid]
theorem hMid_zero (z l : List Int) (more a q : Int) : hMid z l more a q 0 = List.replicate z.length 0 := by
  apply List.ext_getElem (by simp [hMid])
  intro j h1 h2
  simp [hMid]
theorem hMid_all (z l : List Int) (more a q : Int) : hMid z l more a q z.length = hRow z l more a q := by
  apply List.map_congr_left
  intro j hj
  rw [if_pos (List.mem_range.1 hj)]
theorem hMid_set (z l : List Int) (more a q : Int) (m : Nat) : (hMid z l more a q m).set m (hVal z l more a q m) = hMid z l more a q (m + 1) := by
  apply List.ext_getElem (by simp [hMid])
  intro j h1 h2
  rw [List.getElem_set]
  simp only [hMid, List.getElem_map, List.getElem_range]
  by_cases e : m = j
  · subst e
    rw [if_pos rfl, if_pos (by omega)]
  · rw [if_neg e]
    by_cases h3 : j < m
    · rw [if_pos h3, if_pos (by omega)]
    · rw [if_neg h3, if_neg (by omega)]
theorem hVal_u64 (z l : List Int) (more a q : Int) (j : Nat) : U64 (hVal z l more a q j) := by
  unfold hVal
  split
  · exact mAdd_u64 ..
  · exact mMul_u64 ..
theorem hRow_len (z l : List Int) (more a q : Int) : (hRow z l more a q).length = z.length := by simp [hRow]
theorem hG_len (f : List (List Int)) (z : List Int) (more q : Int) : (hG f z more q).length = z.length := by simp [hG]
theorem hG_at {f : List (List Int)} {z : List Int} {more q : Int} {i : Nat} {l : List Int} {a : Int} (hl : f[i]? = some l) (ha : z[i]? = some a) : (hG f z more q)[i]? = some (hRow z l more a q) := by
  unfold hG
  rw [List.getElem?_map, List.getElem?_range (List.getElem?_eq_some_iff.1 ha).1, Option.map_some, List.getD_eq_getElem?_getD, hl, List.getD_eq_getElem?_getD, ha]
  rfl
theorem hG_words (f : List (List Int)) (z : List Int) (more q : Int) : Words (hG f z more q) := by
  intro l hl y hy
  obtain ⟨i, _, rfl⟩ := List.mem_map.1 hl
  obtain ⟨j, _, rfl⟩ := List.mem_map.1 hy
  exact hVal_u64 ..
theorem hG_wide (f : List (List Int)) (z : List Int) (more q : Int) : wide (hG f z more q) ≤ z.length := by
  refine wide_le fun l hl => ?_
  obtain ⟨i, _, rfl⟩ := List.mem_map.1 hl
  rw [hRow_len]; exact Nat.le_refl _
theorem ev_hRow {q : Int} (hq : okm q = true) {z l : List Int} (h : l.length ≤ z.length) (more a y : Int) : ev (hRow z l more a q) y % q = (ev l y + more * a * ev z y) % q := by
  have e : (hRow z l more a q).map (· % q) = ((List.range z.length).map fun j => l.getD j 0 + (more * a) * z.getD j 0).map (· % q) := by
    unfold hRow
    rw [List.map_map, List.map_map]
    apply List.map_congr_left
    intro j _
    simp only [Function.comp, hVal]
    have h1 : mMul more (mMul a (z.getD j 0) q) q % q = (more * a * z.getD j 0) % q := by
      rw [mMul_mod hq, mMul_ok hq, Int.mul_emod, Int.emod_emod, ← Int.mul_emod, Int.mul_assoc]
    split
    · rw [mAdd_mod hq, Int.add_emod, h1, ← Int.add_emod, Int.add_comm]
    · rename_i hj
      rw [h1, getD_of (Nat.le_of_not_lt hj), Int.zero_add]
  rw [ev_congr rfl e, ev_two, ev_pad l _ y h, ev_pad z _ y (Nat.le_refl _)]
theorem mAt_ev {q : Int} (hq : okm q = true) (f : List (List Int)) (x y : Int) : mAt f x y q = ev (f.map fun l => ev l y) x % q := by
  unfold mAt
  rw [mEval_ok hq]
  refine ev_congr rfl ?_
  unfold mCol
  rw [List.map_map, List.map_map]
  apply List.map_congr_left
  intro l _
  simp [mEval_ok hq]
theorem mAt_hG {q : Int} (hq : okm q = true) {f : List (List Int)} {z : List Int} (hl : f.length = z.length) (hw : ∀ l ∈ f, l.length ≤ z.length) (more x y : Int) :
    mAt (hG f z more q) x y q = (mAt f x y q + more * ev z x * ev z y) % q := by
  have e1 : ((hG f z more q).map fun l => ev l y).map (· % q) = ((List.range z.length).map fun i => ev (f.getD i []) y + (more * ev z y) * z.getD i 0).map (· % q) := by
    unfold hG
    rw [List.map_map, List.map_map, List.map_map]
    apply List.map_congr_left
    intro i hi
    have hi := List.mem_range.1 hi
    simp only [Function.comp]
    have hm : f.getD i [] ∈ f := by
      rw [List.getD_eq_getElem?_getD, List.getElem?_eq_getElem (by omega : i < f.length)]
      exact List.getElem_mem _
    rw [ev_hRow hq (hw _ hm)]
    congr 1
    grind
  have e2 : ((List.range z.length).map fun i => ev (f.getD i []) y) = f.map fun l => ev l y := by
    apply List.ext_getElem (by simp [hl])
    intro i h1 h2
    have h3 : i < f.length := by simpa using h2
    simp [h3]
  rw [mAt_ev hq, mAt_ev hq, ev_congr rfl e1, ev_two, e2, ev_pad z _ x (Nat.le_refl _), Int.emod_add_emod]
  congr 1
  grind
/-- what is hidden: the value at 0 and 0 is more; what is known is the same. -/
theorem hidden_zero {q : Int} (hq : okm q = true) {f : List (List Int)} {xs : List Int} (hl : f.length = (zF xs q).length) (hw : ∀ l ∈ f, l.length ≤ (zF xs q).length) (more : Int) :
    mAt (hG f (zF xs q) more q) 0 0 q = mAdd (mAt f 0 0 q) more q := by
  rw [mAt_hG hq hl hw, mAdd_ok hq, Int.add_emod, Int.mul_emod, zF_zero hq, ← Int.mul_emod, Int.mul_one, Int.mul_emod, zF_zero hq, ← Int.mul_emod, Int.mul_one, ← Int.add_emod]
theorem hidden_row {q : Int} (hq : okm q = true) {f : List (List Int)} {xs : List Int} (hl : f.length = (zF xs q).length) (hw : ∀ l ∈ f, l.length ≤ (zF xs q).length) (more : Int) {x : Int} (hx : x ∈ xs) (hu : Un x q) (y : Int) :
    mAt (hG f (zF xs q) more q) x y q = mAt f x y q ∧ mAt (hG f (zF xs q) more q) y x q = mAt f y x q := by
  have h0 := zF_root hq x hx hu rfl
  have hr : ∀ a b, mAt f a b q % q = mAt f a b q := fun a b => by rw [mAt_ev hq, Int.emod_emod]
  constructor
  · rw [mAt_hG hq hl hw, Int.add_emod, Int.mul_emod, Int.mul_emod more, h0, Int.mul_zero, Int.zero_emod, Int.zero_mul, Int.zero_emod, Int.add_zero, Int.emod_emod, hr]
  · rw [mAt_hG hq hl hw, Int.add_emod, Int.mul_emod _ (ev _ x), h0, Int.mul_zero, Int.zero_emod, Int.add_zero, Int.emod_emod, hr]
end Go.Proofs.YtcojnjhffmhbiaaDoor
end
