/-
  The document's Solve.
-/
import Derived.Test.YtlbhmoiicbhgkaaDoorRnkQ1
import Derived.Test.YtlbhmoiicbhgkaaDoorRnkQ2
import Derived.Test.YtlbhmoiicbhgkaaDoorRnkQ3
import Derived.Test.YtlbhmoiicbhgkaaDoorRnkQ4
import Derived.Test.YtlbhmoiicbhgkaaDoorRnkQ5
import Derived.Test.YtlbhmoiicbhgkaaDoorRnkQ6
import Derived.Test.YtlbhmoiicbhgkaaDoorRnkQ7
import Derived.Test.YtlbhmoiicbhgkaaDoorRnkQ8
import Derived.Test.YtlbhmoiicbhgkaaDoorTurA
namespace Go.Proofs.YtlbhmoiicbhgkaaDoor
open Go Go.RowKit Go.Maps Go.Shelf Go.Proofs Go.Lin Go.Psi

attribute [local go_sem] Oper.semAt_some

/-- rows that this call owns, with their room. -/
theorem OwnRows.room {w : World} {base : Nat} {v : Value} {f : List (List Int)} (h : OwnRows w base 23 24 v (f.map (·.map (.int .u64)))) : ∃ A c, v = .slice A f.length c ∧ Grid w A f ∧ f.length ≤ c ∧ c ≤ 9223372036854775807 := by
  obtain ⟨A, c, e, hg, _⟩ := h.grid
  subst e
  obtain ⟨vs, h1, h2, _⟩ := h
  rw [List.length_map] at h2
  refine ⟨A, c, rfl, hg, ?_, ?_⟩
  · rcases h1.2 with ⟨h3, h0⟩ | ⟨g', cap', cur, h3, _, _, hn, _⟩
    · injection h3 with _ h4 h5
      omega
    · injection h3 with _ _ h4
      omega
  · rcases h1.2 with ⟨h3, h0⟩ | ⟨g', cap', cur, h3, _, _, _, hm, _⟩
    · injection h3 with _ h4 h5
      omega
    · injection h3 with _ _ h4
      unfold maxLen at hm
      omega
theorem grid_take {w : World} {A : Option Addr} {f : List (List Int)} (h : Grid w A f) (k : Nat) : Grid w A (f.take k) := by
  obtain ⟨vs, h1, h2, h3⟩ := h
  refine ⟨vs.take k, cells_cut h1 k, by rw [List.length_take, List.length_take, h2], fun i l hi => ?_⟩
  rw [List.getElem?_take] at hi
  split at hi
  case isFalse => cases hi
  rename_i hik
  obtain ⟨v, hv, hr⟩ := h3 i l hi
  exact ⟨v, by rw [List.getElem?_take, if_pos hik]; exact hv, hr⟩
theorem colK_u64 {f : List (List Int)} (h : ∀ l ∈ f, U64s l) (j n : Nat) : U64s (colK f j n) := by
  intro z hz
  obtain ⟨i, _, rfl⟩ := List.mem_map.1 hz
  rw [List.getD_eq_getElem?_getD]
  cases hi : f[i]? with
  | none => exact ⟨by simp [nth], by simp [nth]⟩
  | some r => exact (h r (List.mem_of_getElem? hi)).nth j
theorem pl_far {w : World} {B : Option Addr} {c g j : Nat} {R : List Nat} {xs : List Int} {u : Value} (h : Pl w B c R) (k : Row1 w g 24 (u64v xs)) : Pl (w.setCell ⟨g, j, none⟩ u) B c R := by
  refine ⟨?_, h.lo, h.hi⟩
  rcases h.cells with h1 | ⟨b, off, rfl, h1⟩
  · exact .inl h1
  · by_cases hR : R = []
    · exact .inl (by rw [hR]; rfl)
    · have hne : b ≠ g := by
        rintro rfl
        obtain ⟨n, hn⟩ := get_of_lt (l := R) (k := 0) (by cases R with | nil => exact absurd rfl hR | cons _ _ => simp)
        have h2 := h1 0 _ (intv_at hn)
        have h3 : ∀ i v, w.cell? ⟨b, i, none⟩ = some v → ∃ x ∈ xs, v = .int .u64 x := fun i v hv => by
          unfold Row1 at k
          unfold World.cell? at hv
          rw [k] at hv
          simp at hv
          obtain ⟨x, hx, rfl⟩ := hv
          exact ⟨x, List.mem_of_getElem? hx, rfl⟩
        obtain ⟨x, _, hx⟩ := h3 _ _ h2
        cases hx
      refine .inr ⟨b, off, rfl, fun i v hv => ?_⟩
      rw [← h1 i v hv]
      exact World.cell?_of_block (Below.heap_setCell w ⟨g, j, none⟩ u b hne)
theorem withA_u64 {f : List (List Int)} {right : List Int} {q : Int} (hau : ∀ l ∈ f, U64s l) (hok : okm q = true) (p n : Nat) : ∀ l ∈ withA f right q p n, U64s l := by
  intro l hl z hz
  unfold withA at hl
  obtain ⟨i, _, rfl⟩ := List.mem_map.1 hl
  rcases List.mem_or_eq_of_mem_set hz with h | h
  · unfold tabL at h
    obtain ⟨j, _, rfl⟩ := List.mem_map.1 h
    rw [List.getD_eq_getElem?_getD]
    cases hi : f[i]? with
    | none => exact ⟨by simp [nth], by simp [nth]⟩
    | some r => exact (hau r (List.mem_of_getElem? hi)).nth j
  · rw [h]
    exact mod_u64 hok
theorem outK_u64 {N : Nat} [NeZero N] (f : List (List Int)) (right : List Int) (q : Int) (P R : List Nat) (bel : Int) : ∀ k, U64s (outK N f right q P R bel k)
  | 0 => fun z hz => by
    unfold outK at hz
    rw [(List.mem_replicate.1 hz).2]
    exact ⟨by decide, by decide⟩
  | k + 1 => fun z hz => by
    unfold outK at hz
    rcases List.mem_or_eq_of_mem_set hz with h | h
    · exact outK_u64 f right q P R bel k z h
    · rw [h]
      exact mMul_u64 _ _ _
/-- what lies in memory while the unknowns are found. -/
structure SolI (w0 : World) (bo : Nat) (O : List Int) (BP BR : Option Addr) (cP cR : Nat) (P R : List Nat) (wr : World) : Prop where
  out : Row1 wr bo 24 (u64v O)
  p : Pl wr BP cP P
  r : Pl wr BR cR R
  b : Below w0.heap.size w0 wr
theorem SolI.below {w0 w w' : World} {bo : Nat} {O : List Int} {BP BR : Option Addr} {cP cR : Nat} {P R : List Nat} (h : SolI w0 bo O BP BR cP cR P R w) (hb : Below w.heap.size w w') : SolI w0 bo O BP BR cP cR P R w' :=
  ⟨h.out.below hb, h.p.below hb, h.r.below hb, below_next h.b h.b.size hb⟩
theorem SolI.set {w0 w : World} {bo : Nat} {O : List Int} {BP BR : Option Addr} {cP cR : Nat} {P R : List Nat} (h : SolI w0 bo O BP BR cP cR P R w) (hbo : w0.heap.size ≤ bo) (j : Nat) (x : Int) : SolI w0 bo (O.set j x) BP BR cP cR P R (w.setCell ⟨bo, j, none⟩ (.int .u64 x)) := by
  refine ⟨?_, pl_far h.p h.out, pl_far h.r h.out, below_set h.b hbo⟩
  have := h.out.set j (.int .u64 x)
  unfold u64v at this ⊢
  rwa [List.map_set]
set_option maxRecDepth 100000 in
set_option maxHeartbeats 6400000 in
theorem solve04_c (A : Option Addr) (f : List (List Int)) (c : Nat) (A2 : Option Addr) (right : List Int) (c2 : Nat) (q : Int) (w : World) (hA : Grid w A f) (hal : f.length ≤ 20) (haw : wideL f ≤ 20) (hau : ∀ l ∈ f, U64s l) (hA2 : Cells w A2 (u64v right)) (hrl : right.length ≤ 1000) (hru : U64s right) (hq : U64 q) :
    Calls Tryd.prog 14 #[.slice A f.length c, .slice A2 right.length c2, .int .u64 q] w (NumsE (solveV f right q).1 (solveV f right q).2 w) := by
  have HM := hid (may04_c q hq w)
  cases hp : primeV q with
  | false =>
    rw [hp] at HM
    rw [show solveV f right q = ([], 1) by unfold solveV; rw [if_neg (by rw [hp]; simp)]]
    clear hA hA2 hp
    go_enter Tryd.func14, Tryd.ntmps14
    go_wp2_with (fail)
    refine HM.out.mono ?_
    rintro e w2 ⟨rfl, hb⟩
    go_wp2
    go_ret2
    exact ⟨_, rfl, Own.nil _ _ _, hb⟩
  | true =>
  rw [hp] at HM
  by_cases hrf : right.length ≤ f.length
  case neg =>
    rw [show solveV f right q = ([], 1) by unfold solveV; rw [if_neg (by rw [hp]; simp; omega)]]
    have hrf' : (right.length : Int) > (f.length : Int) := by omega
    clear hA hA2 hp
    go_enter Tryd.func14, Tryd.ntmps14
    go_wp2_with (fail)
    refine HM.out.mono ?_
    rintro e w2 ⟨rfl, hb⟩
    go_wp2
    go_ret2
    exact ⟨_, rfl, Own.nil _ _ _, hb⟩
  have hrf' : ¬ (right.length : Int) > (f.length : Int) := by omega
  obtain ⟨N, hN, hF⟩ := fq_of hp (prime_pr hp)
  obtain ⟨hok, hq2⟩ := okm_prime hp
  have HA := hid hA
  have HA2 := hid hA2
  have HU := hid (⟨hau, hru⟩ : _ ∧ _)
  have HF := hid (⟨hF, hp, hok, hq2, hrf⟩ : _ ∧ _ ∧ _ ∧ _ ∧ _)
  have HTUR := hid (fun (w' : World) (hb : Below w.heap.size w w') => turned_c A f c w' (hA.below hb) (by omega) (by omega))
  have HTA := hid (fun (j : Nat) (h : j < wideL f) => turnC_at h)
  have HTL := hid (turnC_len f)
  have HPIV := hid (fun n => pivL_succ f q n)
  obtain ⟨hg, hhg⟩ : ∃ hg : Nat → Bool, ∀ j, hangsV ((turnL f).take j) ((turnL f).getD j []) q = hg j := ⟨fun j => hangsV ((turnL f).take j) ((turnL f).getD j []) q, fun j => rfl⟩
  have HHANG := hid (fun (j : Nat) (hj : j < wideL f) (At A9 : Option Addr) (ct c9 : Nat) (w' : World) (hgr : Grid w' At (turnL f)) (hcs : Cells w' A9 ((colK f j f.length).map (.int .u64))) => (by
    have h := hangs04_c At ((turnL f).take j) ct A9 (colK f j f.length) c9 q w' (grid_take hgr j) (by rw [List.length_take, turnC_len]; omega) (wideL_most fun r hr => by
      have hmem : ∀ r ∈ turnL f, r.length ≤ 42 := fun r hr => by
        unfold turnL at hr
        obtain ⟨i, _, rfl⟩ := List.mem_map.1 hr
        simp; omega
      rcases List.mem_append.1 hr with h | h
      · exact hmem r (List.mem_of_mem_take h)
      · rw [List.mem_singleton.1 h, colK_len]; omega) (fun l hl => by
      have := List.mem_of_mem_take hl
      unfold turnL at this
      obtain ⟨i, _, rfl⟩ := List.mem_map.1 this
      exact colK_u64 hau i f.length) hcs (colK_u64 hau j f.length) (by rw [colK_len]; omega) hq
    rw [List.length_take, turnC_len, Nat.min_eq_left (by omega), colK_len] at h
    have e : colK f j f.length = (turnL f).getD j [] := by rw [List.getD_eq_getElem?_getD, turnC_at hj]; rfl
    rw [e, hhg j] at h
    exact h : Calls Tryd.prog 12 #[.slice At j ct, .slice A9 f.length c9, .int .u64 q] w' fun e w'' => e = .returned (.bool (hg j)) ∧ Below w'.heap.size w' w''))
  simp only [hhg] at HPIV
  clear hA hA2 hau hru hp hok hF
  go_enter Tryd.func14, Tryd.ntmps14
  go_wp2_with (fail)
  refine HM.out.mono ?_
  rintro e w1 ⟨rfl, hb1⟩
  have HB1 := hid hb1
  clear hb1 HM
  go_wp2_with (fail)
  refine (HTUR.out w1 HB1.out).mono ?_
  rintro e w2 ⟨v2, rfl, ho2, hb2⟩
  obtain ⟨At, ct, rfl, hgt, hct, hct2⟩ := ho2.room
  have HB2 := hid (below_next HB1.out HB1.out.size hb2)
  have HGT := hid hgt
  rw [HTL.out] at hct ⊢
  obtain ⟨W, hW⟩ : ∃ W, wideL f = W := ⟨_, rfl⟩
  have HWW := hid hW
  rw [hW] at hct haw HHANG HTA ⊢
  clear hb2 ho2 hgt HB1 HTUR hW
  go_wp2
  go_loopw [9, 10] (fun o x wr => ∃ j : Nat, x = .int .i64 (j : Int) ∧ j ≤ W ∧ Hid (Own wr w2.heap.size 3 o (intv (pivL f q j)) ∧ Below w2.heap.size w2 wr)) (fun _ x _ => W - (intOf x).toNat)
  case atStart => exact ⟨0, rfl, by omega, hid ⟨Own.nil _ _ _, Below.refl _ _⟩⟩
  case round =>
  obtain ⟨j, rfl, hj, HI⟩ := hrel
  by_cases hlt : j < W
  · have hlt' : (j : Int) < (W : Int) := by omega
    have hjc : (j : Int) ≤ (ct : Int) := by omega
    have HGW := hid (HGT.out.below HI.out.2)
    obtain ⟨bt, ot, A9, c9, hbt, hcl, hcs, _⟩ := HGW.out.at_ (HTA.out j hlt)
    subst hbt
    rw [colK_len] at hcl
    have HCL := hid (⟨hcl, hcs⟩ : _ ∧ _)
    have HCALL := hid (fun (w' : World) (hb : Below wr.heap.size wr w') => HHANG.out j hlt (some ⟨bt, ot, none⟩) A9 ct c9 w' (HGW.out.below hb) (HCL.out.2.below hb))
    clear hcl hcs
    go_upto_region 8 with (fail)
    refine Rg.wp_region (l := [_, _, _, _, _, _, _, _, _]) (tail := [_]) (Rg.grows _ 10) [some 41, some 42, some 43, some 44, some 45, some 46, some 47, some 48, some 49, some 50] 162 (by kernel_rfl) (by kernel_rfl) (by kernel_rfl) rfl (Rg.grows_fair _ _) (Rg.keep_drew _) (trivial) ?_
    refine' Rg.op_is _ [] rfl rfl (by kernel_rfl) ?_ ?_
    rotate_left
    · intro wx hb
      refine Rg.from_nil fun T hT => ?_
      go_wp2
      refine hT _ _ rfl (by first | exact Rg.Keep.refl _ | exact below_of_dr hw2 | exact hw2 | exact (Below.refl _ _).alloc (Nat.le_refl _) _) ?_
      simp only [Rg.last, List.getElem?_toArray, List.getElem?_cons_succ, List.getElem?_cons_zero, Option.getD_some]
      rfl
    refine' Rg.op_is _ [] rfl rfl (by kernel_rfl) ?_ ?_
    rotate_left
    · intro wx hb
      refine Rg.from_nil fun T hT => ?_
      go_wp2
      refine hT _ _ rfl (by first | exact Rg.Keep.refl _ | exact below_of_dr hw2 | exact hw2 | exact (Below.refl _ _).alloc (Nat.le_refl _) _) ?_
      simp only [Rg.last, List.getElem?_toArray, List.getElem?_cons_succ, List.getElem?_cons_zero, Option.getD_some]
      rfl
    refine Rg.op_is (.slice (some ⟨bt, ot, none⟩) j ct) [0, 1] rfl rfl (by kernel_rfl) ?_ ?_
    · intro wx hb
      refine Rg.from_is (some 41) rfl rfl ?_
      refine Rg.from_is (some 42) rfl rfl ?_
      refine Rg.from_nil fun T hT => ?_
      go_wp2
      exact hT _ _ rfl (by first | exact Rg.Keep.refl _ | exact below_of_dr hw2 | exact hw2 | exact (Below.refl _ _).alloc (Nat.le_refl _) _) (by first | rfl | exact congrArg _ (by decide))
    refine' Rg.op_is _ [] rfl rfl (by kernel_rfl) ?_ ?_
    rotate_left
    · intro wx hb
      refine Rg.from_nil fun T hT => ?_
      go_wp2
      refine hT _ _ rfl (by first | exact Rg.Keep.refl _ | exact below_of_dr hw2 | exact hw2 | exact (Below.refl _ _).alloc (Nat.le_refl _) _) ?_
      simp only [Rg.last, List.getElem?_toArray, List.getElem?_cons_succ, List.getElem?_cons_zero, Option.getD_some]
      rfl
    refine' Rg.op_is _ [] rfl rfl (by kernel_rfl) ?_ ?_
    rotate_left
    · intro wx hb
      refine Rg.from_nil fun T hT => ?_
      go_wp2
      refine hT _ _ rfl (by first | exact Rg.Keep.refl _ | exact below_of_dr hw2 | exact hw2 | exact (Below.refl _ _).alloc (Nat.le_refl _) _) ?_
      simp only [Rg.last, List.getElem?_toArray, List.getElem?_cons_succ, List.getElem?_cons_zero, Option.getD_some]
      rfl
    refine' Rg.op_is _ [3, 4] rfl rfl (by kernel_rfl) ?_ ?_
    rotate_left
    · intro wx hb
      refine Rg.from_is (some 44) rfl rfl ?_
      refine Rg.from_is (some 45) rfl rfl ?_
      refine Rg.from_nil fun T hT => ?_
      go_wp2
      refine hT _ _ rfl (by first | exact Rg.Keep.refl _ | exact below_of_dr hw2 | exact hw2 | exact (Below.refl _ _).alloc (Nat.le_refl _) _) ?_
      simp only [Rg.last, List.getElem?_toArray, List.getElem?_cons_succ, List.getElem?_cons_zero, Option.getD_some]
      rfl
    refine Rg.op_is (.slice A9 f.length c9) [5] rfl rfl (by kernel_rfl) ?_ ?_
    · intro wx hb
      refine Rg.from_is (some 46) rfl rfl ?_
      refine Rg.from_nil fun T hT => ?_
      have cx := (hb.cell (lt_of_cell HCL.out.1)).trans HCL.out.1
      go_wp2
      exact hT _ _ rfl (by first | exact Rg.Keep.refl _ | exact below_of_dr hw2 | exact hw2 | exact (Below.refl _ _).alloc (Nat.le_refl _) _) (by first | rfl | exact congrArg _ (by decide))
    refine' Rg.op_is _ [] rfl rfl (by kernel_rfl) ?_ ?_
    rotate_left
    · intro wx hb
      refine Rg.from_nil fun T hT => ?_
      go_wp2
      refine hT _ _ rfl (by first | exact Rg.Keep.refl _ | exact below_of_dr hw2 | exact hw2 | exact (Below.refl _ _).alloc (Nat.le_refl _) _) ?_
      simp only [Rg.last, List.getElem?_toArray, List.getElem?_cons_succ, List.getElem?_cons_zero, Option.getD_some]
      rfl
    refine Rg.op_is (.bool (hg j)) [2, 6, 7] rfl rfl (by kernel_rfl) ?_ ?_
    · intro wx hb
      refine Rg.from_is (some 43) rfl rfl ?_
      refine Rg.from_is (some 47) rfl rfl ?_
      refine Rg.from_is (some 48) rfl rfl ?_
      refine Rg.from_nil fun T hT => ?_
      go_wp2_with (go_at_call 12; refine (HCALL.out wx hb).mono ?_; rintro e w9 ⟨rfl, hb9⟩)
      exact hT _ _ rfl hb9 rfl
    refine Rg.walk_nil [0, 1, 2, 3, 4, 5, 6, 7, 8] (by kernel_rfl) ?_
    intro wx hb
    refine Rg.from_is (some 41) rfl rfl ?_
    refine Rg.from_is (some 42) rfl rfl ?_
    refine Rg.from_is (some 43) rfl rfl ?_
    refine Rg.from_is (some 44) rfl rfl ?_
    refine Rg.from_is (some 45) rfl rfl ?_
    refine Rg.from_is (some 46) rfl rfl ?_
    refine Rg.from_is (some 47) rfl rfl ?_
    refine Rg.from_is (some 48) rfl rfl ?_
    refine Rg.from_is (some 49) rfl rfl ?_
    refine Rg.from_nil ?_
    simp only [List.map, Act.put, List.setIfInBounds_toArray, List.set_cons_zero, List.set_cons_succ]
    have HBX := hid (below_next HI.out.2 HI.out.2.size hb)
    have HOX := hid (HI.out.1.below hb)
    have HPJ := hid (HPIV.out j)
    have hjl : (pivL f q j).length ≤ j := Nat.le_trans (List.length_filter_le _ _) (by simp)
    obtain ⟨bb, hbb⟩ : ∃ bb, hg j = bb := ⟨_, rfl⟩
    rw [hbb] at HPJ ⊢
    clear hbb hb HCALL HCL HGW HI
    cases bb with
    | true =>
      have HN := hid (show Own wx w2.heap.size 3 u9 (intv (pivL f q (j + 1))) ∧ Below w2.heap.size w2 wx from ⟨by rw [HPJ.out, if_pos rfl, List.append_nil]; exact HOX.out, HBX.out⟩)
      clear HOX HBX HPJ
      go_wp2
      go_roundw
      case rel => exact ⟨j + 1, by go_num, by omega, HN⟩
      case measure => simp [intOf]; omega
    | false =>
      go_wp2_with (first | (at_builtin; refine wpList_pushN elt_int' wx (by rfl) _ _ rfl w2.heap.size HOX.out rfl (.int .i64 (j : Int)) rfl rfl (by rw [intv_len]; omega) (by rw [intv_len]; omega) HBX.out.size ?_; intro v4 w4 ho4 hk4 hb4 hn4) | fail)
      have HN := hid (show Own w4 w2.heap.size 3 v4 (intv (pivL f q (j + 1))) ∧ Below w2.heap.size w2 w4 from ⟨by rw [HPJ.out, if_neg (by decide), intv_app]; exact ho4, HBX.out.trans hb4⟩)
      clear HOX HBX HPJ ho4 hk4 hb4 hn4
      go_wp2
      go_roundw
      case rel => exact ⟨j + 1, by go_num, by omega, HN⟩
      case measure => simp [intOf]; omega
  obtain rfl : W = j := by omega
  have hlt' : ¬ (W : Int) < (W : Int) := by omega
  obtain ⟨hF, hp, hok, hq2, _⟩ := HF.out
  have hPok : PivL N f (pivL f q W) := by have := pivL_ok hF hp f; rwa [HWW.out] at this
  obtain ⟨R, hR⟩ := piv_minor hF hp (prime_pr hp) hPok
  have HEND := hid (fun (o : List Int) => solve04_end (o := o) hp (prime_pr hp) f right hrf hF (R := R) (by rw [HWW.out]; exact hR))
  rw [HWW.out] at HEND
  obtain ⟨BP, cP, rfl, hPl⟩ := pl_own HI.out.1
  obtain ⟨P, hPP⟩ : ∃ P, pivL f q W = P := ⟨_, rfl⟩
  rw [hPP] at hPok hR HEND hPl ⊢
  have hPlen : P.length ≤ 20 := by
    have := rise_len P 0 W hPok.1 fun x hx => by have := hPok.2.1 x hx; rw [HWW.out] at this; omega
    omega
  have HBI := hid (below_next HB2.out HB2.out.size HI.out.2)
  have HPL := hid hPl
  have HPO := hid hPok
  obtain ⟨hRm, hRd⟩ := minorV_some hR
  have hRlen : R.length = P.length := ((subL_mem _ _ _ _).1 hRm).1
  have HDO := hid (⟨fun i hi => by have := ((subL_mem _ _ _ _).1 hRm).2.2 i hi; omega, hRlen, by omega⟩ : DetOk f R P)
  have HMC := hid (fun (w' : World) (hb : Below wr.heap.size wr w') => minor_c (N := N) A f c q hF.eq hok hq2 (by omega) HU.out.1 P BP cP w' ((HA.out.below HBI.out).below hb) (HPL.out.below hb) (by omega))
  have HDC := hid (fun (w' : World) (F : List (List Int)) (AF : Option Addr) (cF : Nat) (BR : Option Addr) (cR : Nat) (hG : Grid w' AF F) (hFu : ∀ l ∈ F, U64s l) (hFl : F.length = f.length) (hp : Pl w' BP cP P) (hr : Pl w' BR cR R) => det_c (N := N) AF F cF q hF.eq hok hq2 (by omega) hFu R P BR BP cR cP w' hG hr hp ⟨fun i hi => by have := HDO.out.rows i hi; omega, hRlen, by omega⟩)
  have HMS := hid (hR)
  rw [hR] at HMC
  clear hPl hPok hR hRm hRd HI hPP HGT HHANG HTA HPIV hRlen
  go_wp2_with (first | (at_make; refine wpList_make_row elt_u64 _ rfl _ _ rfl .i64 .i64 (W : Int) (W : Int) W rfl rfl rfl rfl (by omega) (by omega) ?_; intro w3 hr3 hs3 hb3) | fail)
  refine (HMC.out w3 hb3).mono ?_
  rintro e w4 ⟨v4, rfl, hv4, hb4⟩
  obtain ⟨BR, cR, rfl, hPR⟩ := hv4 R rfl
  have HS4 := hid (show SolI w wr.heap.size (List.replicate W 0) BP BR cP cR P R w4 from ⟨by have := hr3.below hb4; rwa [show u64v (List.replicate W (0 : Int)) = List.replicate W (Value.int .u64 0) by simp [u64v]], (HPL.out.below hb3).below hb4, hPR, below_next (below_next HBI.out HBI.out.size hb3) (Nat.le_trans HBI.out.size hb3.size) hb4⟩)
  clear hr3 hs3 hb3 hv4 hPR hb4 HMC
  have HD4 := hid (HDC.out w4 f A c BR cR (HA.out.below HS4.out.b) HU.out.1 rfl HS4.out.p HS4.out.r)
  go_wp2_with (fail)
  refine HD4.out.mono ?_
  rintro e w5 ⟨d, rfl, hd, hb5⟩
  have hdv : d = ((dt R (colsV N f P)).val : Int) := by
    rw [← hd.out.2.2, tf_val, ← hF.eq, Int.emod_eq_of_lt hd.out.1 hd.out.2.1]
  have hdu : U64 d := ⟨hd.out.1, by have := hd.out.2.1; have := okm_le hok; omega⟩
  have HS5 := hid (HS4.out.below hb5)
  have HDV := hid hdv
  clear hd hb5 hdv HD4 HS4
  go_wp2_with (fail)
  refine (rinv_c d q hdu hq w5).mono ?_
  rintro e w6 ⟨rfl, hd6⟩
  have HS6 := hid (HS5.out.below (below_of_dr hd6))
  have hbu : U64 (iVal d q) := by have := iVal_range (a := d) hok; have := okm_le hok; exact ⟨by omega, by omega⟩
  obtain ⟨bel, hbel⟩ : ∃ bel, iVal d q = bel := ⟨_, rfl⟩
  rw [hbel] at hbu ⊢
  rw [HDV.out] at hbel
  rw [hbel] at HEND
  have HBU := hid hbu
  generalize iErr d q = er at *
  have hlen0 : (List.replicate W (0 : Int)) = outK N f right q P R bel 0 := by unfold outK; rw [HWW.out]
  rw [hlen0] at HS6
  clear hd6 HS5 hdu HDV hbel hlen0 hbu
  have HBO := hid (show w.heap.size ≤ wr.heap.size from HBI.out.size)
  obtain ⟨bo, hbo⟩ : ∃ bo, wr.heap.size = bo := ⟨_, rfl⟩
  rw [hbo] at HS6 HBO ⊢
  clear hbo HBI HPL HDO HMS
  go_wp2
  generalize wr = wo at *
  go_loopw [16] (fun x wr => ∃ k : Nat, x = .int .i64 (k : Int) ∧ k ≤ P.length ∧ Hid (SolI w bo (outK N f right q P R bel k) BP BR cP cR P R wr)) (fun x _ => P.length - (intOf x).toNat)
  case atStart => exact ⟨0, rfl, by omega, HS6⟩
  case round =>
  obtain ⟨k, rfl, hk, HI⟩ := hrel
  clear HS6
  by_cases hltk : k < P.length
  · have hltk' : (k : Int) < (P.length : Int) := by omega
    obtain ⟨p, hpk⟩ := get_of_lt hltk
    have HPK := hid hpk
    have hpW : (p : Int) < (W : Int) := by have := HPO.out.2.1 p (List.mem_of_getElem? hpk); rw [HWW.out] at this; omega
    have hpW' : p < W := by omega
    generalize wr = w7 at *
    clear hpk
    go_wp2
    go_loopw [17, 18] (fun o x wr => ∃ i : Nat, x = .int .i64 (i : Int) ∧ i ≤ f.length ∧ Hid (OwnRows wr w7.heap.size 23 24 o ((withA f right q p i).map (·.map (.int .u64))) ∧ Below w7.heap.size w7 wr)) (fun _ x _ => f.length - (intOf x).toNat)
    case atStart => exact ⟨0, rfl, by omega, hid ⟨OwnRows.nil _ _ _ _, Below.refl _ _⟩⟩
    case round =>
    obtain ⟨i, rfl, hi, HJ⟩ := hrel
    by_cases hlti : i < f.length
    · have hlti' : (i : Int) < (f.length : Int) := by omega
      obtain ⟨l, hl⟩ := get_of_lt hlti
      have hbw := below_next HI.out.b HI.out.b.size HJ.out.2
      obtain ⟨b1, o1, A1, c1, rfl, hcl0, hcs, hln⟩ := (HA.out.below hbw).at_ hl
      have hlW : l.length ≤ W := by have := wideL_le f l (List.mem_of_getElem? hl); rw [HWW.out] at this; exact this
      have HWS := hid (withA_succ f right q p i)
      rw [(getD_of hl).1, HWW.out] at HWS
      have HBW := hid hbw
      have HCL := hid hcs
      have HP7 := hid (HI.out.p.below HJ.out.2)
      obtain ⟨vs, p1, p2, p3⟩ := HJ.out.1
      have hvi : vs.length = i := by rw [p2]; simp only [List.length_map, withA_len]
      have HP := hid (⟨p1, p2, p3, HJ.out.2⟩ : _ ∧ _ ∧ _ ∧ _)
      clear hl hbw hcs p1 p2 p3 HJ
      go_upto_region 22 with (first
        | (at_make; refine wpList_make_row elt_u64 _ rfl _ _ rfl .i64 .i64 (W : Int) (W : Int) W rfl rfl rfl rfl (by omega) (by omega) ?_; intro w3 hr3 hs3 hb3; have hcl1 := (hb3.cell (lt_of_cell hcl0)).trans hcl0)
        | (refine wpList_copy_splice (by rfl) (.tmp 90) (.tmp 94) 23 23 (by rfl) 24 Tryd.underlying23 (by kernel_rfl) _ _ W W l.length c1 rfl rfl wr.heap.size 0 (List.replicate W (Value.int .u64 0)) 24 hr3 (u64v l) (by show (u64v l).length = min l.length W; rw [List.length_map]; omega) (copy_pos HCL.out hb3) (by rw [List.length_map, List.length_replicate]; omega) (u64_one l) wr.heap.size wr hb3 (Nat.le_refl _) ?_; intro w4 hr4 hb4))
      have hrow4 : Row1 w4 wr.heap.size 24 (u64v (tabL W (nth l))) := by rw [← splice_row W l (by omega)]; exact hr4.out
      obtain ⟨bp, op, hbp, hcp⟩ := (HP7.out.below hb4).cells.at_ (intv_at HPK.out)
      subst hbp
      have HC4 := hid (⟨hcp, hrow4, hb4, HA2.out.below (below_next HBW.out HBW.out.size hb4)⟩ : _ ∧ _ ∧ _ ∧ _)
      have hrl9 : right.length ≤ 9223372036854775807 := by omega
      have hqp : 0 < q := by omega
      clear hr3 hs3 hb3 hr4 hcl1 hcl0 hrow4 hcp hb4
      refine Rg.wp_region (l := [_, _, _, _, _, _, _, _, _, _]) (tail := [_]) (Rg.grows _ 11) [some 96, some 97, some 98, some 99, some 100, some 101, some 102, some 103, some 104, some 105, none] 162 (by kernel_rfl) (by kernel_rfl) (by kernel_rfl) rfl (Rg.grows_fair _ _) (Rg.keep_drew _) (trivial) ?_
      refine' Rg.op_is _ [] rfl rfl (by kernel_rfl) ?_ ?_
      rotate_left
      · intro wx hb
        refine Rg.from_nil fun T hT => ?_
        go_wp2
        refine hT _ _ rfl (by first | exact Rg.Keep.refl _ | exact below_of_dr hw2 | exact hw2 | exact (Below.refl _ _).alloc (Nat.le_refl _) _) ?_
        simp only [Rg.last, List.getElem?_toArray, List.getElem?_cons_succ, List.getElem?_cons_zero, Option.getD_some]
        rfl
      refine' Rg.op_is _ [] rfl rfl (by kernel_rfl) ?_ ?_
      rotate_left
      · intro wx hb
        refine Rg.from_nil fun T hT => ?_
        go_wp2
        refine hT _ _ rfl (by first | exact Rg.Keep.refl _ | exact below_of_dr hw2 | exact hw2 | exact (Below.refl _ _).alloc (Nat.le_refl _) _) ?_
        simp only [Rg.last, List.getElem?_toArray, List.getElem?_cons_succ, List.getElem?_cons_zero, Option.getD_some]
        rfl
      refine' Rg.op_is _ [] rfl rfl (by kernel_rfl) ?_ ?_
      rotate_left
      · intro wx hb
        refine Rg.from_nil fun T hT => ?_
        go_wp2
        refine hT _ _ rfl (by first | exact Rg.Keep.refl _ | exact below_of_dr hw2 | exact hw2 | exact (Below.refl _ _).alloc (Nat.le_refl _) _) ?_
        simp only [Rg.last, List.getElem?_toArray, List.getElem?_cons_succ, List.getElem?_cons_zero, Option.getD_some]
        rfl
      refine' Rg.op_is _ [1, 2] rfl rfl (by kernel_rfl) ?_ ?_
      rotate_left
      · intro wx hb
        refine Rg.from_is (some 97) rfl rfl ?_
        refine Rg.from_is (some 98) rfl rfl ?_
        refine Rg.from_nil fun T hT => ?_
        go_wp2
        refine hT _ _ rfl (by first | exact Rg.Keep.refl _ | exact below_of_dr hw2 | exact hw2 | exact (Below.refl _ _).alloc (Nat.le_refl _) _) ?_
        simp only [Rg.last, List.getElem?_toArray, List.getElem?_cons_succ, List.getElem?_cons_zero, Option.getD_some]
        rfl
      refine Rg.op_is (.int .i64 (p : Int)) [3] rfl rfl (by kernel_rfl) ?_ ?_
      · intro wx hb
        refine Rg.from_is (some 99) rfl rfl ?_
        refine Rg.from_nil fun T hT => ?_
        have cx := (hb.cell (lt_of_cell HC4.out.1)).trans HC4.out.1
        go_wp2
        exact hT _ _ rfl (by first | exact Rg.Keep.refl _ | exact below_of_dr hw2 | exact hw2 | exact (Below.refl _ _).alloc (Nat.le_refl _) _) (by first | rfl | exact congrArg _ (by decide))
      refine' Rg.op_is _ [] rfl rfl (by kernel_rfl) ?_ ?_
      rotate_left
      · intro wx hb
        refine Rg.from_nil fun T hT => ?_
        go_wp2
        refine hT _ _ rfl (by first | exact Rg.Keep.refl _ | exact below_of_dr hw2 | exact hw2 | exact (Below.refl _ _).alloc (Nat.le_refl _) _) ?_
        simp only [Rg.last, List.getElem?_toArray, List.getElem?_cons_succ, List.getElem?_cons_zero, Option.getD_some]
        rfl
      refine' Rg.op_is _ [] rfl rfl (by kernel_rfl) ?_ ?_
      rotate_left
      · intro wx hb
        refine Rg.from_nil fun T hT => ?_
        go_wp2
        refine hT _ _ rfl (by first | exact Rg.Keep.refl _ | exact below_of_dr hw2 | exact hw2 | exact (Below.refl _ _).alloc (Nat.le_refl _) _) ?_
        simp only [Rg.last, List.getElem?_toArray, List.getElem?_cons_succ, List.getElem?_cons_zero, Option.getD_some]
        rfl
      refine' Rg.op_is _ [] rfl rfl (by kernel_rfl) ?_ ?_
      rotate_left
      · intro wx hb
        refine Rg.from_nil fun T hT => ?_
        go_wp2
        refine hT _ _ rfl (by first | exact Rg.Keep.refl _ | exact below_of_dr hw2 | exact hw2 | exact (Below.refl _ _).alloc (Nat.le_refl _) _) ?_
        simp only [Rg.last, List.getElem?_toArray, List.getElem?_cons_succ, List.getElem?_cons_zero, Option.getD_some]
        rfl
      refine Rg.op_is (.int .u64 (nth right i % q)) [5, 6, 7] rfl rfl (by kernel_rfl) ?_ ?_
      · intro wx hb
        refine Rg.from_is (some 101) rfl rfl ?_
        refine Rg.from_is (some 102) rfl rfl ?_
        refine Rg.from_is (some 103) rfl rfl ?_
        refine Rg.from_nil fun T hT => ?_
        go_wp2_with (go_at_call 50; refine (at04_c A2 right c2 i q _ (HC4.out.2.2.2.below hb) hrl9 HU.out.2 hqp).mono ?_; rintro e w9 ⟨rfl, rfl⟩)
        exact hT _ _ rfl (by first | exact Rg.Keep.refl _ | exact below_of_dr hw2 | exact hw2 | exact (Below.refl _ _).alloc (Nat.le_refl _) _) (by first | rfl | exact congrArg _ (by decide))
      refine' Rg.op_is _ [0, 4] rfl rfl (by kernel_rfl) ?_ ?_
      rotate_left
      · intro wx hb
        refine Rg.from_is (some 96) rfl rfl ?_
        refine Rg.from_is (some 100) rfl rfl ?_
        refine Rg.from_nil fun T hT => ?_
        go_wp2
        refine hT _ _ rfl (by first | exact Rg.Keep.refl _ | exact below_of_dr hw2 | exact hw2 | exact (Below.refl _ _).alloc (Nat.le_refl _) _) ?_
        simp only [Rg.last, List.getElem?_toArray, List.getElem?_cons_succ, List.getElem?_cons_zero, Option.getD_some]
        rfl
      refine Rg.walk_nil [0, 1, 2, 3, 4, 5, 6, 7, 8, 9] (by kernel_rfl) ?_
      intro wx hb
      refine Rg.from_is (some 96) rfl rfl ?_
      refine Rg.from_is (some 97) rfl rfl ?_
      refine Rg.from_is (some 98) rfl rfl ?_
      refine Rg.from_is (some 99) rfl rfl ?_
      refine Rg.from_is (some 100) rfl rfl ?_
      refine Rg.from_is (some 101) rfl rfl ?_
      refine Rg.from_is (some 102) rfl rfl ?_
      refine Rg.from_is (some 103) rfl rfl ?_
      refine Rg.from_is (some 104) rfl rfl ?_
      refine Rg.from_is (some 105) rfl rfl ?_
      refine Rg.from_nil ?_
      simp only [List.map, Act.put, List.setIfInBounds_toArray, List.set_cons_zero, List.set_cons_succ]
      obtain ⟨xx, hxx⟩ : ∃ xx, nth right i % q = xx := ⟨_, rfl⟩
      rw [hxx] at HWS ⊢
      have hrow := HC4.out.2.1.below hb
      have hset := hrow.set p (.int .u64 xx)
      have hfz := hrow.frozen p
      have hcx := hrow.cell (u64v_at (l := tabL W (nth l)) (j := p) (by rw [tabL_len]; omega))
      have HR5 := hid (show Row1 (wx.setCell ⟨wr.heap.size, p, none⟩ (.int .u64 xx)) wr.heap.size 24 (u64v ((tabL W (nth l)).set p xx)) by unfold u64v at hset ⊢; rwa [List.map_set])
      have HB5 := hid (show Below wr.heap.size wr (wx.setCell ⟨wr.heap.size, p, none⟩ (.int .u64 xx)) from below_set (below_next HC4.out.2.2.1 HC4.out.2.2.1.size hb) (Nat.le_refl _))
      have hown5 := HP.out.1.below HB5.out
      have HSZ := hid (show (wx.setCell ⟨wr.heap.size, p, none⟩ (.int .u64 xx)).heap.size = wx.heap.size by simp [World.setCell])
      clear hrow hset hb hxx
      go_wp2_with (first
        | (at_builtin; refine wpList_pushN elt_rows (wx.setCell ⟨wr.heap.size, p, none⟩ (.int .u64 xx)) (by rfl) _ _ rfl w7.heap.size hown5 rfl (.slice (some ⟨wr.heap.size, 0, none⟩) W W) (by rw [HSZ.out]; rfl) rfl (by omega) (by omega) (Nat.le_trans HP.out.2.2.2.size HB5.out.size) ?_; intro v6 w6' ho6 hk6 hb6 hn6)
        | fail)
      have hrt := (HR5.out.own (base := w7.heap.size) HP.out.2.2.2.size (by simp [u64v, tabL_len]; omega)).rowT
      rw [show (u64v ((tabL W (nth l)).set p xx)).length = W by simp [u64v, tabL_len]] at hrt
      have hN := OwnRows.push (by decide) HP.out.2.1 (fun j u xs h1 h2 => (HP.out.2.2.1 j u xs h1 h2).below HB5.out) hown5 hrt ho6 hk6
      have HN := hid (show OwnRows w6' w7.heap.size 23 24 v6 ((withA f right q p (i + 1)).map (·.map (.int .u64))) ∧ Below w7.heap.size w7 w6' from
        ⟨by rw [HWS.out, List.map_append]; exact hN, (below_next HP.out.2.2.2 HP.out.2.2.2.size HB5.out).trans hb6⟩)
      clear hN hrt ho6 hk6 hb6 hn6 hown5 HP HC4 HWS
      go_wp2
      go_roundw
      case rel => exact ⟨i + 1, by go_num, by omega, HN⟩
      case measure => simp [intOf]; omega
    obtain rfl : i = f.length := by omega
    have hlti' : ¬ (f.length : Int) < (f.length : Int) := by omega
    obtain ⟨A8, c8, e8, hg8, _, _⟩ := HJ.out.1.room
    rw [withA_len] at e8
    subst e8
    have HS8 := hid (HI.out.below HJ.out.2)
    have HG8 := hid hg8
    obtain ⟨DK, hDK⟩ : ∃ DK, ((dt R ((colsV N f P).set k (rtV N f right))).val : Int) = DK := ⟨_, rfl⟩
    have hDu : U64 DK := by
      have h1 := (dt R ((colsV N f P).set k (rtV N f right))).isLt
      have h2 := hF.eq
      have h3 := okm_le hok
      exact ⟨by omega, by omega⟩
    have HXK := hid (show xK N f right q P R bel k = mMul DK bel q by unfold xK; rw [hDK])
    have HCALL := hid (fun (w' : World) (hb : Below wr.heap.size wr w') => (by
      have h := HDC.out w' (withA f right q p f.length) A8 c8 BR cR (HG8.out.below hb) (withA_u64 HU.out.1 hok p f.length) (withA_len ..) (HS8.out.p.below hb) (HS8.out.r.below hb)
      rw [withA_len] at h
      refine h.mono ?_
      rintro e w9 ⟨d, rfl, hd, hb9⟩
      refine ⟨?_, hb9⟩
      have h2 : d = DK := by
        rw [← hDK, ← withA_cols hF.eq f right HPO.out.1 HPO.out.2.1 HPK.out, ← hd.out.2.2, tf_val, ← hF.eq, Int.emod_eq_of_lt hd.out.1 hd.out.2.1]
      rw [h2] : Calls Tryd.prog 49 #[.slice A8 f.length c8, .slice BR R.length cR, .slice BP P.length cP, .int .u64 q] w' fun e w'' => e = .returned (.int .u64 DK) ∧ Below w'.heap.size w' w''))
    obtain ⟨bp, op, rfl, hcp⟩ := HS8.out.p.cells.at_ (intv_at HPK.out)
    have HCP := hid hcp
    have HOL := hid (outK_len (N := N) f right q P R bel k)
    have HOS := hid (show outK N f right q P R bel (k + 1) = (outK N f right q P R bel k).set p (xK N f right q P R bel k) by
      conv => lhs; unfold outK
      rw [show P.getD k 0 = p by rw [List.getD_eq_getElem?_getD, HPK.out]; rfl])
    obtain ⟨O, hO⟩ : ∃ O, outK N f right q P R bel k = O := ⟨_, rfl⟩
    rw [hO] at HOL HOS HS8
    rw [HXK.out] at HOS
    clear hDK hg8 hcp HJ HI hO HXK hi hlti hlti'
    go_upto_region 24 with (fail)
    refine Rg.wp_region (l := [_, _, _, _, _, _, _, _, _, _, _, _, _, _]) (tail := [_]) (Rg.grows _ 15) [some 110, some 111, some 112, some 113, some 114, some 115, some 116, some 117, some 118, some 119, some 120, some 121, some 122, some 123, none] 162 (by kernel_rfl) (by kernel_rfl) (by kernel_rfl) rfl (Rg.grows_fair _ _) (Rg.keep_drew _) (trivial) ?_
    refine' Rg.op_is _ [] rfl rfl (by kernel_rfl) ?_ ?_
    rotate_left
    · intro wx hb
      refine Rg.from_nil fun T hT => ?_
      go_wp2
      refine hT _ _ rfl (by first | exact Rg.Keep.refl _ | exact below_of_dr hw2 | exact hw2 | exact (Below.refl _ _).alloc (Nat.le_refl _) _) ?_
      simp only [Rg.last, List.getElem?_toArray, List.getElem?_cons_succ, List.getElem?_cons_zero, Option.getD_some]
      rfl
    refine' Rg.op_is _ [] rfl rfl (by kernel_rfl) ?_ ?_
    rotate_left
    · intro wx hb
      refine Rg.from_nil fun T hT => ?_
      go_wp2
      refine hT _ _ rfl (by first | exact Rg.Keep.refl _ | exact below_of_dr hw2 | exact hw2 | exact (Below.refl _ _).alloc (Nat.le_refl _) _) ?_
      simp only [Rg.last, List.getElem?_toArray, List.getElem?_cons_succ, List.getElem?_cons_zero, Option.getD_some]
      rfl
    refine' Rg.op_is _ [] rfl rfl (by kernel_rfl) ?_ ?_
    rotate_left
    · intro wx hb
      refine Rg.from_nil fun T hT => ?_
      go_wp2
      refine hT _ _ rfl (by first | exact Rg.Keep.refl _ | exact below_of_dr hw2 | exact hw2 | exact (Below.refl _ _).alloc (Nat.le_refl _) _) ?_
      simp only [Rg.last, List.getElem?_toArray, List.getElem?_cons_succ, List.getElem?_cons_zero, Option.getD_some]
      rfl
    refine' Rg.op_is _ [1, 2] rfl rfl (by kernel_rfl) ?_ ?_
    rotate_left
    · intro wx hb
      refine Rg.from_is (some 111) rfl rfl ?_
      refine Rg.from_is (some 112) rfl rfl ?_
      refine Rg.from_nil fun T hT => ?_
      go_wp2
      refine hT _ _ rfl (by first | exact Rg.Keep.refl _ | exact below_of_dr hw2 | exact hw2 | exact (Below.refl _ _).alloc (Nat.le_refl _) _) ?_
      simp only [Rg.last, List.getElem?_toArray, List.getElem?_cons_succ, List.getElem?_cons_zero, Option.getD_some]
      rfl
    refine Rg.op_is (.int .i64 (p : Int)) [3] rfl rfl (by kernel_rfl) ?_ ?_
    · intro wx hb
      refine Rg.from_is (some 113) rfl rfl ?_
      refine Rg.from_nil fun T hT => ?_
      have cx := (hb.cell (lt_of_cell HCP.out)).trans HCP.out
      go_wp2
      exact hT _ _ rfl (by first | exact Rg.Keep.refl _ | exact below_of_dr hw2 | exact hw2 | exact (Below.refl _ _).alloc (Nat.le_refl _) _) (by first | rfl | exact congrArg _ (by decide))
    refine' Rg.op_is _ [] rfl rfl (by kernel_rfl) ?_ ?_
    rotate_left
    · intro wx hb
      refine Rg.from_nil fun T hT => ?_
      go_wp2
      refine hT _ _ rfl (by first | exact Rg.Keep.refl _ | exact below_of_dr hw2 | exact hw2 | exact (Below.refl _ _).alloc (Nat.le_refl _) _) ?_
      simp only [Rg.last, List.getElem?_toArray, List.getElem?_cons_succ, List.getElem?_cons_zero, Option.getD_some]
      rfl
    refine' Rg.op_is _ [] rfl rfl (by kernel_rfl) ?_ ?_
    rotate_left
    · intro wx hb
      refine Rg.from_nil fun T hT => ?_
      go_wp2
      refine hT _ _ rfl (by first | exact Rg.Keep.refl _ | exact below_of_dr hw2 | exact hw2 | exact (Below.refl _ _).alloc (Nat.le_refl _) _) ?_
      simp only [Rg.last, List.getElem?_toArray, List.getElem?_cons_succ, List.getElem?_cons_zero, Option.getD_some]
      rfl
    refine' Rg.op_is _ [] rfl rfl (by kernel_rfl) ?_ ?_
    rotate_left
    · intro wx hb
      refine Rg.from_nil fun T hT => ?_
      go_wp2
      refine hT _ _ rfl (by first | exact Rg.Keep.refl _ | exact below_of_dr hw2 | exact hw2 | exact (Below.refl _ _).alloc (Nat.le_refl _) _) ?_
      simp only [Rg.last, List.getElem?_toArray, List.getElem?_cons_succ, List.getElem?_cons_zero, Option.getD_some]
      rfl
    refine' Rg.op_is _ [] rfl rfl (by kernel_rfl) ?_ ?_
    rotate_left
    · intro wx hb
      refine Rg.from_nil fun T hT => ?_
      go_wp2
      refine hT _ _ rfl (by first | exact Rg.Keep.refl _ | exact below_of_dr hw2 | exact hw2 | exact (Below.refl _ _).alloc (Nat.le_refl _) _) ?_
      simp only [Rg.last, List.getElem?_toArray, List.getElem?_cons_succ, List.getElem?_cons_zero, Option.getD_some]
      rfl
    refine Rg.op_is (.int .u64 DK) [5, 6, 7, 8] rfl rfl (by kernel_rfl) ?_ ?_
    · intro wx hb
      refine Rg.from_is (some 115) rfl rfl ?_
      refine Rg.from_is (some 116) rfl rfl ?_
      refine Rg.from_is (some 117) rfl rfl ?_
      refine Rg.from_is (some 118) rfl rfl ?_
      refine Rg.from_nil fun T hT => ?_
      go_wp2_with (go_at_call 49; refine (HCALL.out wx hb).mono ?_; rintro e w9 ⟨rfl, hb9⟩)
      exact hT _ _ rfl hb9 rfl
    refine' Rg.op_is _ [] rfl rfl (by kernel_rfl) ?_ ?_
    rotate_left
    · intro wx hb
      refine Rg.from_nil fun T hT => ?_
      go_wp2
      refine hT _ _ rfl (by first | exact Rg.Keep.refl _ | exact below_of_dr hw2 | exact hw2 | exact (Below.refl _ _).alloc (Nat.le_refl _) _) ?_
      simp only [Rg.last, List.getElem?_toArray, List.getElem?_cons_succ, List.getElem?_cons_zero, Option.getD_some]
      rfl
    refine' Rg.op_is _ [] rfl rfl (by kernel_rfl) ?_ ?_
    rotate_left
    · intro wx hb
      refine Rg.from_nil fun T hT => ?_
      go_wp2
      refine hT _ _ rfl (by first | exact Rg.Keep.refl _ | exact below_of_dr hw2 | exact hw2 | exact (Below.refl _ _).alloc (Nat.le_refl _) _) ?_
      simp only [Rg.last, List.getElem?_toArray, List.getElem?_cons_succ, List.getElem?_cons_zero, Option.getD_some]
      rfl
    refine Rg.op_is (.int .u64 (mMul DK bel q)) [9, 10, 11] rfl rfl (by kernel_rfl) ?_ ?_
    · intro wx hb
      refine Rg.from_is (some 119) rfl rfl ?_
      refine Rg.from_is (some 120) rfl rfl ?_
      refine Rg.from_is (some 121) rfl rfl ?_
      refine Rg.from_nil fun T hT => ?_
      go_wp2_with (go_at_call 51; refine (rmul_c DK bel q hDu HBU.out hq wx).mono ?_; rintro e w9 ⟨rfl, hd9⟩)
      exact hT _ _ rfl (below_of_dr hd9) rfl
    refine' Rg.op_is _ [0, 4] rfl rfl (by kernel_rfl) ?_ ?_
    rotate_left
    · intro wx hb
      refine Rg.from_is (some 110) rfl rfl ?_
      refine Rg.from_is (some 114) rfl rfl ?_
      refine Rg.from_nil fun T hT => ?_
      go_wp2
      refine hT _ _ rfl (by first | exact Rg.Keep.refl _ | exact below_of_dr hw2 | exact hw2 | exact (Below.refl _ _).alloc (Nat.le_refl _) _) ?_
      simp only [Rg.last, List.getElem?_toArray, List.getElem?_cons_succ, List.getElem?_cons_zero, Option.getD_some]
      rfl
    refine Rg.walk_nil [0, 1, 2, 3, 4, 5, 6, 7, 8, 9, 10, 11, 12, 13] (by kernel_rfl) ?_
    intro wx hb
    refine Rg.from_is (some 110) rfl rfl ?_
    refine Rg.from_is (some 111) rfl rfl ?_
    refine Rg.from_is (some 112) rfl rfl ?_
    refine Rg.from_is (some 113) rfl rfl ?_
    refine Rg.from_is (some 114) rfl rfl ?_
    refine Rg.from_is (some 115) rfl rfl ?_
    refine Rg.from_is (some 116) rfl rfl ?_
    refine Rg.from_is (some 117) rfl rfl ?_
    refine Rg.from_is (some 118) rfl rfl ?_
    refine Rg.from_is (some 119) rfl rfl ?_
    refine Rg.from_is (some 120) rfl rfl ?_
    refine Rg.from_is (some 121) rfl rfl ?_
    refine Rg.from_is (some 122) rfl rfl ?_
    refine Rg.from_is (some 123) rfl rfl ?_
    refine Rg.from_nil ?_
    simp only [List.map, Act.put, List.setIfInBounds_toArray, List.set_cons_zero, List.set_cons_succ]
    obtain ⟨xk, hxk⟩ : ∃ xk, mMul DK bel q = xk := ⟨_, rfl⟩
    rw [hxk] at HOS ⊢
    have hS := HS8.out.below hb
    have hfz := hS.out.frozen p
    have hOx : ∃ y, O[p]? = some y := ⟨O[p]'(by rw [HOL.out, HWW.out]; omega), List.getElem?_eq_getElem _⟩
    obtain ⟨y, hy⟩ := hOx
    have hcx := hS.out.cell (show (u64v O)[p]? = some (.int .u64 y) by unfold u64v; rw [List.getElem?_map, hy]; rfl)
    have HN := hid (show SolI w bo (outK N f right q P R bel (k + 1)) (some ⟨bp, op, none⟩) BR cP cR P R (wx.setCell ⟨bo, p, none⟩ (.int .u64 xk)) by rw [HOS.out]; exact hS.set HBO.out p xk)
    clear hxk hS hy hb HCALL HCP HOS
    go_wp2
    go_roundw
    case rel => exact ⟨k + 1, by go_num, by omega, HN⟩
    case measure => simp [intOf]; omega
  obtain rfl : k = P.length := by omega
  have hltk' : ¬ (P.length : Int) < (P.length : Int) := by omega
  obtain ⟨O, hO⟩ : ∃ O, outK N f right q P R bel P.length = O := ⟨_, rfl⟩
  have hOlen : O.length = W := by rw [← hO, outK_len, HWW.out]
  have HOU := hid (show U64s O by rw [← hO]; exact outK_u64 f right q P R bel P.length)
  have hSI := HI.out
  rw [hO] at hSI
  have HS8 := hid hSI
  have HE := hid (HEND.out O hO.symm)
  have HOL := hid hOlen
  have HRow := hid (fun i (r : List Int) (h : f[i]? = some r) => (show r.length ≤ W by have := wideL_le f r (List.mem_of_getElem? h); rwa [HWW.out] at this))
  have hrl9 : right.length ≤ 9223372036854775807 := by omega
  have hqp : 0 < q := by omega
  clear hO hSI HI HEND HDC HPO HBU hOlen
  generalize wr = w8 at *
  generalize solveV f right q = V at *
  go_wp2
  go_loopw [20] (fun x wr => ∃ i : Nat, x = .int .i64 (i : Int) ∧ i ≤ f.length ∧ Hid ((∀ i' r, i' < i → f[i']? = some r → dotL r O q = nth right i' % q) ∧ Below w8.heap.size w8 wr)) (fun x _ => f.length - (intOf x).toNat)
  case atStart => exact ⟨0, rfl, by omega, hid ⟨fun i' r h => absurd h (by omega), Below.refl _ _⟩⟩
  case round =>
  obtain ⟨i, rfl, hi, HI⟩ := hrel
  by_cases hlti : i < f.length
  case neg =>
    obtain rfl : i = f.length := by omega
    have hlti' : ¬ (f.length : Int) < (f.length : Int) := by omega
    have hV : V = (O, 0) := HE.out.1 fun i' r h => HI.out.1 i' r (List.getElem?_eq_some_iff.1 h).1 h
    subst hV
    have hd := HI.out.2
    have ho := (HS8.out.out.below hd).own (base := w.heap.size) HBO.out (by simp [u64v, HOL.out]; omega)
    rw [show (u64v O).length = W by simp [u64v, HOL.out]] at ho
    have HO2 := hid (⟨ho, below_next HS8.out.b HS8.out.b.size hd⟩ : _ ∧ _)
    clear hd ho HI
    go_wp2
    go_ret2
    exact ⟨_, rfl, HO2.out.1, HO2.out.2⟩
  have hlti' : (i : Int) < (f.length : Int) := by omega
  obtain ⟨l, hl⟩ := get_of_lt hlti
  have HLI := hid hl
  have hlW := HRow.out i l hl
  have hul := HU.out.1 l (List.mem_of_getElem? hl)
  have HUL := hid hul
  clear hl hul
  go_wp2
  generalize wr = w9 at *
  go_loopw [21, 22] (fun s x wr => ∃ j : Nat, s = .int .u64 (dotK l O q j) ∧ x = .int .i64 (j : Int) ∧ j ≤ l.length ∧ Hid (Below w8.heap.size w8 wr)) (fun _ x _ => l.length - (intOf x).toNat)
  case atStart => exact ⟨0, rfl, rfl, by omega, hid HI.out.2⟩
  case round =>
  obtain ⟨j, rfl, rfl, hj, HJ⟩ := hrel
  obtain ⟨b1, o1, A1, c1, rfl, hcl, hcs, hln⟩ := ((HA.out.below HS8.out.b).below HJ.out).at_ HLI.out
  by_cases hltj : j < l.length
  · have hltj' : (j : Int) < (l.length : Int) := by omega
    have hjW : (j : Int) < (W : Int) := by omega
    obtain ⟨x, hx⟩ := get_of_lt hltj
    obtain ⟨y, hy⟩ := get_of_lt (l := O) (k := j) (by rw [HOL.out]; omega)
    obtain ⟨b2, o2, rfl, hcx⟩ := hcs.at_map hx
    have hcy := (HS8.out.out.below HJ.out).cell (show (u64v O)[j]? = some (.int .u64 y) by unfold u64v; rw [List.getElem?_map, hy]; rfl)
    have hux := HUL.out x (List.mem_of_getElem? hx)
    have hS := dotK_u64 l O q j
    have HST := hid (show dotK l O q (j + 1) = mAdd (dotK l O q j) (mMul x y q) q by
      conv => lhs; unfold dotK
      rw [show nth l j = x by unfold nth; rw [List.getD_eq_getElem?_getD, hx]; rfl, show nth O j = y by unfold nth; rw [List.getD_eq_getElem?_getD, hy]; rfl])
    have huy : U64 y := HOU.out y (List.mem_of_getElem? hy)
    obtain ⟨S, hSS⟩ : ∃ S, dotK l O q j = S := ⟨_, rfl⟩
    rw [hSS] at HST hS ⊢
    clear hx hy hcs hSS
    have HXY := hid (⟨hcl, hcx, hcy⟩ : _ ∧ _ ∧ _)
    go_upto_region 32 with (fail)
    clear hcl hcx hcy
    refine Rg.wp_region (l := [_, _, _, _, _, _, _, _, _, _, _, _, _, _, _, _]) (tail := [_]) (Rg.grows _ 17) [some 139, some 140, some 141, some 142, some 143, some 144, some 145, some 146, some 147, some 148, some 149, some 150, some 151, some 152, some 153, some 154, some 21] 162 (by kernel_rfl) (by kernel_rfl) (by kernel_rfl) rfl (Rg.grows_fair _ _) (Rg.keep_drew _) (trivial) ?_
    refine' Rg.op_is _ [] rfl rfl (by kernel_rfl) ?_ ?_
    rotate_left
    · intro wx hb
      refine Rg.from_nil fun T hT => ?_
      go_wp2
      refine hT _ _ rfl (by first | exact Rg.Keep.refl _ | exact below_of_dr hw2 | exact hw2 | exact (Below.refl _ _).alloc (Nat.le_refl _) _) ?_
      simp only [Rg.last, List.getElem?_toArray, List.getElem?_cons_succ, List.getElem?_cons_zero, Option.getD_some]
      rfl
    refine' Rg.op_is _ [] rfl rfl (by kernel_rfl) ?_ ?_
    rotate_left
    · intro wx hb
      refine Rg.from_nil fun T hT => ?_
      go_wp2
      refine hT _ _ rfl (by first | exact Rg.Keep.refl _ | exact below_of_dr hw2 | exact hw2 | exact (Below.refl _ _).alloc (Nat.le_refl _) _) ?_
      simp only [Rg.last, List.getElem?_toArray, List.getElem?_cons_succ, List.getElem?_cons_zero, Option.getD_some]
      rfl
    refine' Rg.op_is _ [] rfl rfl (by kernel_rfl) ?_ ?_
    rotate_left
    · intro wx hb
      refine Rg.from_nil fun T hT => ?_
      go_wp2
      refine hT _ _ rfl (by first | exact Rg.Keep.refl _ | exact below_of_dr hw2 | exact hw2 | exact (Below.refl _ _).alloc (Nat.le_refl _) _) ?_
      simp only [Rg.last, List.getElem?_toArray, List.getElem?_cons_succ, List.getElem?_cons_zero, Option.getD_some]
      rfl
    refine' Rg.op_is _ [1, 2] rfl rfl (by kernel_rfl) ?_ ?_
    rotate_left
    · intro wx hb
      refine Rg.from_is (some 140) rfl rfl ?_
      refine Rg.from_is (some 141) rfl rfl ?_
      refine Rg.from_nil fun T hT => ?_
      go_wp2
      refine hT _ _ rfl (by first | exact Rg.Keep.refl _ | exact below_of_dr hw2 | exact hw2 | exact (Below.refl _ _).alloc (Nat.le_refl _) _) ?_
      simp only [Rg.last, List.getElem?_toArray, List.getElem?_cons_succ, List.getElem?_cons_zero, Option.getD_some]
      rfl
    refine Rg.op_is (.slice (some ⟨b2, o2, none⟩) l.length c1) [3] rfl rfl (by kernel_rfl) ?_ ?_
    · intro wx hb
      refine Rg.from_is (some 142) rfl rfl ?_
      refine Rg.from_nil fun T hT => ?_
      have cx := (hb.cell (lt_of_cell HXY.out.1)).trans HXY.out.1
      go_wp2
      exact hT _ _ rfl (by first | exact Rg.Keep.refl _ | exact below_of_dr hw2 | exact hw2 | exact (Below.refl _ _).alloc (Nat.le_refl _) _) (by first | rfl | exact congrArg _ (by decide))
    refine' Rg.op_is _ [] rfl rfl (by kernel_rfl) ?_ ?_
    rotate_left
    · intro wx hb
      refine Rg.from_nil fun T hT => ?_
      go_wp2
      refine hT _ _ rfl (by first | exact Rg.Keep.refl _ | exact below_of_dr hw2 | exact hw2 | exact (Below.refl _ _).alloc (Nat.le_refl _) _) ?_
      simp only [Rg.last, List.getElem?_toArray, List.getElem?_cons_succ, List.getElem?_cons_zero, Option.getD_some]
      rfl
    refine' Rg.op_is _ [4, 5] rfl rfl (by kernel_rfl) ?_ ?_
    rotate_left
    · intro wx hb
      refine Rg.from_is (some 143) rfl rfl ?_
      refine Rg.from_is (some 144) rfl rfl ?_
      refine Rg.from_nil fun T hT => ?_
      go_wp2
      refine hT _ _ rfl (by first | exact Rg.Keep.refl _ | exact below_of_dr hw2 | exact hw2 | exact (Below.refl _ _).alloc (Nat.le_refl _) _) ?_
      simp only [Rg.last, List.getElem?_toArray, List.getElem?_cons_succ, List.getElem?_cons_zero, Option.getD_some]
      rfl
    refine Rg.op_is (.int .u64 x) [6] rfl rfl (by kernel_rfl) ?_ ?_
    · intro wx hb
      refine Rg.from_is (some 145) rfl rfl ?_
      refine Rg.from_nil fun T hT => ?_
      have cx := (hb.cell (lt_of_cell HXY.out.2.1)).trans HXY.out.2.1
      go_wp2
      exact hT _ _ rfl (by first | exact Rg.Keep.refl _ | exact below_of_dr hw2 | exact hw2 | exact (Below.refl _ _).alloc (Nat.le_refl _) _) (by first | rfl | exact congrArg _ (by decide))
    refine' Rg.op_is _ [] rfl rfl (by kernel_rfl) ?_ ?_
    rotate_left
    · intro wx hb
      refine Rg.from_nil fun T hT => ?_
      go_wp2
      refine hT _ _ rfl (by first | exact Rg.Keep.refl _ | exact below_of_dr hw2 | exact hw2 | exact (Below.refl _ _).alloc (Nat.le_refl _) _) ?_
      simp only [Rg.last, List.getElem?_toArray, List.getElem?_cons_succ, List.getElem?_cons_zero, Option.getD_some]
      rfl
    refine' Rg.op_is _ [] rfl rfl (by kernel_rfl) ?_ ?_
    rotate_left
    · intro wx hb
      refine Rg.from_nil fun T hT => ?_
      go_wp2
      refine hT _ _ rfl (by first | exact Rg.Keep.refl _ | exact below_of_dr hw2 | exact hw2 | exact (Below.refl _ _).alloc (Nat.le_refl _) _) ?_
      simp only [Rg.last, List.getElem?_toArray, List.getElem?_cons_succ, List.getElem?_cons_zero, Option.getD_some]
      rfl
    refine' Rg.op_is _ [8, 9] rfl rfl (by kernel_rfl) ?_ ?_
    rotate_left
    · intro wx hb
      refine Rg.from_is (some 147) rfl rfl ?_
      refine Rg.from_is (some 148) rfl rfl ?_
      refine Rg.from_nil fun T hT => ?_
      go_wp2
      refine hT _ _ rfl (by first | exact Rg.Keep.refl _ | exact below_of_dr hw2 | exact hw2 | exact (Below.refl _ _).alloc (Nat.le_refl _) _) ?_
      simp only [Rg.last, List.getElem?_toArray, List.getElem?_cons_succ, List.getElem?_cons_zero, Option.getD_some]
      rfl
    refine Rg.op_is (.int .u64 y) [10] rfl rfl (by kernel_rfl) ?_ ?_
    · intro wx hb
      refine Rg.from_is (some 149) rfl rfl ?_
      refine Rg.from_nil fun T hT => ?_
      have cx := (hb.cell (lt_of_cell HXY.out.2.2)).trans HXY.out.2.2
      go_wp2
      exact hT _ _ rfl (by first | exact Rg.Keep.refl _ | exact below_of_dr hw2 | exact hw2 | exact (Below.refl _ _).alloc (Nat.le_refl _) _) (by first | rfl | exact congrArg _ (by decide))
    refine' Rg.op_is _ [] rfl rfl (by kernel_rfl) ?_ ?_
    rotate_left
    · intro wx hb
      refine Rg.from_nil fun T hT => ?_
      go_wp2
      refine hT _ _ rfl (by first | exact Rg.Keep.refl _ | exact below_of_dr hw2 | exact hw2 | exact (Below.refl _ _).alloc (Nat.le_refl _) _) ?_
      simp only [Rg.last, List.getElem?_toArray, List.getElem?_cons_succ, List.getElem?_cons_zero, Option.getD_some]
      rfl
    refine Rg.op_is (.int .u64 (mMul x y q)) [7, 11, 12] rfl rfl (by kernel_rfl) ?_ ?_
    · intro wx hb
      refine Rg.from_is (some 146) rfl rfl ?_
      refine Rg.from_is (some 150) rfl rfl ?_
      refine Rg.from_is (some 151) rfl rfl ?_
      refine Rg.from_nil fun T hT => ?_
      go_wp2_with (go_at_call 51; refine (rmul_c x y q hux huy hq wx).mono ?_; rintro e w9' ⟨rfl, hd9⟩)
      exact hT _ _ rfl (below_of_dr hd9) rfl
    refine' Rg.op_is _ [] rfl rfl (by kernel_rfl) ?_ ?_
    rotate_left
    · intro wx hb
      refine Rg.from_nil fun T hT => ?_
      go_wp2
      refine hT _ _ rfl (by first | exact Rg.Keep.refl _ | exact below_of_dr hw2 | exact hw2 | exact (Below.refl _ _).alloc (Nat.le_refl _) _) ?_
      simp only [Rg.last, List.getElem?_toArray, List.getElem?_cons_succ, List.getElem?_cons_zero, Option.getD_some]
      rfl
    refine Rg.op_is (.int .u64 (mAdd S (mMul x y q) q)) [0, 13, 14] rfl rfl (by kernel_rfl) ?_ ?_
    · intro wx hb
      refine Rg.from_is (some 139) rfl rfl ?_
      refine Rg.from_is (some 152) rfl rfl ?_
      refine Rg.from_is (some 153) rfl rfl ?_
      refine Rg.from_nil fun T hT => ?_
      go_wp2_with (go_at_call 52; refine (radd_c S (mMul x y q) q hS (mMul_u64 _ _ _) hq wx).mono ?_; rintro e w9' ⟨rfl, hd9⟩)
      exact hT _ _ rfl (below_of_dr hd9) rfl
    refine Rg.walk_nil [0, 1, 2, 3, 4, 5, 6, 7, 8, 9, 10, 11, 12, 13, 14, 15] (by kernel_rfl) ?_
    intro wx hb
    refine Rg.from_is (some 139) rfl rfl ?_
    refine Rg.from_is (some 140) rfl rfl ?_
    refine Rg.from_is (some 141) rfl rfl ?_
    refine Rg.from_is (some 142) rfl rfl ?_
    refine Rg.from_is (some 143) rfl rfl ?_
    refine Rg.from_is (some 144) rfl rfl ?_
    refine Rg.from_is (some 145) rfl rfl ?_
    refine Rg.from_is (some 146) rfl rfl ?_
    refine Rg.from_is (some 147) rfl rfl ?_
    refine Rg.from_is (some 148) rfl rfl ?_
    refine Rg.from_is (some 149) rfl rfl ?_
    refine Rg.from_is (some 150) rfl rfl ?_
    refine Rg.from_is (some 151) rfl rfl ?_
    refine Rg.from_is (some 152) rfl rfl ?_
    refine Rg.from_is (some 153) rfl rfl ?_
    refine Rg.from_is (some 154) rfl rfl ?_
    refine Rg.from_nil ?_
    simp only [List.map, Act.put, List.setIfInBounds_toArray, List.set_cons_zero, List.set_cons_succ]
    have HN := hid (below_next HJ.out HJ.out.size hb)
    rw [← HST.out]
    clear hb HJ HXY HST hS
    go_wp2
    go_roundw
    case rel => exact ⟨j + 1, rfl, by go_num, by omega, HN⟩
    case measure => simp [intOf]; omega
  obtain rfl : j = l.length := by omega
  have hltj' : ¬ (l.length : Int) < (l.length : Int) := by omega
  have HAT := hid (at04_c A2 right c2 i q wr ((HA2.out.below HS8.out.b).below HJ.out) hrl9 HU.out.2 hqp)
  have hdl : dotK l O q l.length = dotL l O q := by unfold dotL; rw [HOL.out, Nat.min_eq_left hlW]
  rw [hdl]
  have hred : dotL l O q % q = dotL l O q := by unfold dotL; exact dotK_red hok _
  have HRX := hid (show nth right i % q = nth right i % q from rfl)
  obtain ⟨xx, hxx⟩ : ∃ xx, nth right i % q = xx := ⟨_, rfl⟩
  rw [hxx] at HAT
  have HXX := hid hxx
  clear hxx HRX
  by_cases he : dotL l O q = xx
  · have hne : (dotL l O q != xx) = false := by simpa using he
    have HN := hid (show (∀ i' r, i' < i + 1 → f[i']? = some r → dotL r O q = nth right i' % q) ∧ Below w8.heap.size w8 wr from ⟨fun i' r h1 h2 => by
      by_cases e : i' = i
      · subst e
        rw [HLI.out] at h2
        rw [← Option.some.inj h2, HXX.out]; exact he
      · exact HI.out.1 i' r (by omega) h2, HJ.out⟩)
    generalize dotL l O q = S at *
    clear he hred hdl HI HJ hcs
    go_wp2_with (fail)
    refine HAT.out.mono ?_
    rintro e w10 ⟨rfl, rfl⟩
    go_wp2
    go_roundw
    case rel => exact ⟨i + 1, by go_num, by omega, HN⟩
    case measure => simp [intOf]; omega
  · have hne : (dotL l O q != xx) = true := by simpa using he
    have hV : V = ([], 5) := HE.out.2 i l HLI.out (by rw [HXX.out]; exact he)
    subst hV
    have HBL := hid (below_next HS8.out.b HS8.out.b.size HJ.out)
    generalize dotL l O q = S at *
    clear he hred hdl HI HJ hcs
    go_wp2_with (fail)
    refine HAT.out.mono ?_
    rintro e w10 ⟨rfl, rfl⟩
    go_wp2
    go_ret2
    exact ⟨_, rfl, Own.nil _ _ _, HBL.out⟩
end Go.Proofs.YtlbhmoiicbhgkaaDoor
