/-
  The document's Decode: the first set of points through which a polynomial goes.
-/
import Derived.Test.YtlbhmoiicbhgkaaDoorRobQ1
import Derived.Test.YtlbhmoiicbhgkaaDoorRobQ2
import Derived.Test.YtlbhmoiicbhgkaaDoorRobQ3
import Derived.Test.YtlbhmoiicbhgkaaDoorRobQ4
import Derived.Test.YtlbhmoiicbhgkaaDoorRobQ5
import Derived.Test.YtlbhmoiicbhgkaaDoorRobQ6
import Derived.Test.YtlbhmoiicbhgkaaDoorRobQ7
import Derived.Test.YtlbhmoiicbhgkaaDoorRobQ8
import Derived.Test.YtlbhmoiicbhgkaaDoorRobQ9
import Derived.Test.YtlbhmoiicbhgkaaDoorRobQ10
import Derived.Test.YtlbhmoiicbhgkaaDoorRobQ11
import Derived.Test.YtlbhmoiicbhgkaaDoorRoT
import Derived.Test.YtlbhmoiicbhgkaaDoorRpA
namespace Go.Proofs.YtlbhmoiicbhgkaaDoor
open Go Go.RowKit Go.Maps Go.Shelf Go.Proofs

attribute [local go_sem] Oper.semAt_some

theorem allV_pick {xs ys : List Int} {t : Nat} {q : Int} {s : List Nat} (h0 : tErr (pick xs (s.take (t + 1))) (pick ys (s.take (t + 1))) q = 0) : allV (pick xs s) (pick ys s) t q = allS xs ys t q s := by
  have h1 : ∀ (X : List Int) (i j : Nat), s[i]? = some j → (pick X s).getD i 0 = X.getD j 0 := by
    intro X i j hi
    rw [List.getD_eq_getElem?_getD, pick, List.getElem?_map, hi]
    rfl
  have h2 : ∀ (X : List Int), (pick X s).take (t + 1) = pick X (s.take (t + 1)) := fun X => by unfold pick; rw [List.map_take]
  unfold allV allS
  rw [h2, h2, pick_len]
  generalize tVal (pick xs (s.take (t + 1))) (pick ys (s.take (t + 1))) q = V
  have e : (tErr (pick xs (s.take (t + 1))) (pick ys (s.take (t + 1))) q = 0 ∧ ∀ i, i < s.length → mEval V ((pick xs s).getD i 0) q = (pick ys s).getD i 0 % q) ↔ (s.all (fun i => onB xs ys V q i) = true) := by
    rw [List.all_eq_true]
    constructor
    · rintro ⟨_, h⟩ j hj
      obtain ⟨i, hi⟩ := List.mem_iff_getElem?.1 hj
      have := h i (List.getElem?_eq_some_iff.1 hi).1
      rw [h1 xs i j hi, h1 ys i j hi] at this
      exact onB_iff.2 this
    · intro h
      refine ⟨h0, fun i hi => ?_⟩
      have hj := List.getElem?_eq_getElem hi
      rw [h1 xs i _ hj, h1 ys i _ hj]
      exact onB_iff.1 (h _ (List.getElem_mem hi))
  by_cases h : s.all (fun i => onB xs ys V q i) = true
  · rw [if_pos (e.2 h), if_pos h]
  · rw [if_neg (fun k => h (e.1 k)), if_neg h]
theorem findSome_same {α β : Type} {f g : α → Option β} : ∀ {l : List α}, (∀ a ∈ l, f a = g a) → l.findSome? f = l.findSome? g
  | [], _ => rfl
  | a :: l, h => by
    rw [List.findSome?_cons, List.findSome?_cons, h a (by simp), findSome_same fun b hb => h b (by simp [hb])]
/-- the sets that begin by some points. -/
noncomputable def fstV (xs ys : List Int) (t : Nat) (q : Int) (s : List Nat) (k fr : Nat) : Option (List Int) := (setsL k fr xs.length).findSome? fun r => allV (pick xs (s ++ r)) (pick ys (s ++ r)) t q
theorem fstV_zero (xs ys : List Int) (t : Nat) (q : Int) (s : List Nat) (fr : Nat) : fstV xs ys t q s 0 fr = allV (pick xs s) (pick ys s) t q := by
  unfold fstV
  rw [setsL, List.findSome?_cons, List.append_nil]
  cases allV (pick xs s) (pick ys s) t q <;> rfl
theorem fstV_step (xs ys : List Int) (t : Nat) (q : Int) (s : List Nat) (k : Nat) {i : Nat} (h : i < xs.length) : fstV xs ys t q s (k + 1) i = (fstV xs ys t q (s ++ [i]) k (i + 1)).or (fstV xs ys t q s (k + 1) (i + 1)) := by
  unfold fstV
  rw [setsL_step, if_pos h, List.findSome?_append, List.findSome?_map]
  congr 2
  funext r
  simp only [Function.comp, List.append_assoc, List.singleton_append]
theorem fstV_end (xs ys : List Int) (t : Nat) (q : Int) (s : List Nat) (k : Nat) : fstV xs ys t q s (k + 1) xs.length = none := by
  unfold fstV
  rw [setsL_step, if_neg (Nat.lt_irrefl _)]
  rfl
theorem pick_put {l : List Int} {s : List Nat} {i : Nat} {x : Int} (h : l[i]? = some x) : pick l (s ++ [i]) = pick l s ++ [x] := by
  unfold pick
  rw [List.map_append, List.map_singleton, List.getD_eq_getElem?_getD, h]
  rfl
theorem fstV_all {X Y : List Int} {t : Nat} {q : Int} (ht : t ≤ 2) (hp : primeV q = true) (ha : Apart X q) (hl : X.length ≤ 7) : fstV X Y t q [] (2 * t + 1) 0 = (setsL (2 * t + 1) 0 X.length).findSome? (allS X Y t q) := by
  obtain ⟨hq, h2⟩ := okm_prime hp
  unfold fstV
  refine findSome_same fun s hs => ?_
  obtain ⟨k1, k2, k3, _⟩ := sets_take hs
  obtain ⟨v0, _⟩ := tVal_spec (ys := Y) hq h2 ha (by omega) k2 k3 (by omega)
  exact allV_pick v0
set_option maxRecDepth 100000 in
set_option maxHeartbeats 3200000 in
theorem first05_c (A B : Option Addr) (xs ys : List Int) (ca cb t : Nat) (q : Int) (hlm : xs.length = ys.length) (ht : t ≤ 2) (hl : xs.length ≤ 1000) (hu : U64s xs) (hu' : U64s ys) (hq : U64 q) (hq0 : 0 < q) : ∀ (k : Nat) (P Q : Option Addr) (s : List Nat) (cp cq fr : Nat) (w : World), s.length + k = 2 * t + 1 → fr ≤ xs.length →
    Cells w A (xs.map (.int .u64)) → Cells w B (ys.map (.int .u64)) → Cells w P ((pick xs s).map (.int .u64)) → Cells w Q ((pick ys s).map (.int .u64)) → (pick xs s).length ≤ cp → (pick ys s).length ≤ cq → cp ≤ 9223372036854775807 → cq ≤ 9223372036854775807 →
    Calls Tryd.prog 65 #[.slice A xs.length ca, .slice B ys.length cb, .slice P (pick xs s).length cp, .slice Q (pick ys s).length cq, .int .i64 (fr : Int), .int .i64 (t : Int), .int .u64 q] w (AllR (fstV xs ys t q s k fr) w) := by
  have HU := hid hu
  have HU' := hid hu'
  have HLM := hid hlm
  clear hu hu' hlm
  intro k
  induction k with
  | zero =>
    intro P Q s cp cq fr w hs hfr hA hB hP hQ hcp hcq hcp2 hcq2
    have hx1 := pick_len xs s
    have hy1 := pick_len ys s
    have HAL := hid (all05_c P Q (pick xs s) (pick ys s) cp cq t q w hP hQ (by omega) (by omega) (by omega) (by omega) hcp hcq hcp2 hcq2 (pick_u64 HU.out s) (pick_u64 HU'.out s) hq hq0)
    rw [fstV_zero]
    generalize allV (pick xs s) (pick ys s) t q = R at *
    generalize pick xs s = X at *
    generalize pick ys s = Y at *
    have hX : (X.length : Int) = 2 * (t : Int) + 1 := by omega
    clear hA hB hP hQ hx1 hy1
    go_enter Tryd.func65, Tryd.ntmps65
    go_wp2_with (fail)
    refine HAL.out.mono ?_
    rintro e w9 ⟨v9, rfl, o9, n9, b9⟩
    go_wp2
    go_ret2
    exact ⟨_, rfl, o9, n9, b9⟩
  | succ k ih =>
    intro P Q s cp cq fr w hs hfr hA hB hP hQ hcp hcq hcp2 hcq2
    have HA := hid hA
    have HB := hid hB
    have HP := hid hP
    have HQ := hid hQ
    have hx1 := pick_len xs s
    have hy1 := pick_len ys s
    have IH := hid ih
    have HV := hid (show fstV xs ys t q s (k + 1) fr = fstV xs ys t q s (k + 1) fr from rfl)
    have HPX := hid (fun (i : Nat) (x : Int) (h : xs[i]? = some x) => pick_put (s := s) h)
    have HPY := hid (fun (i : Nat) (x : Int) (h : ys[i]? = some x) => pick_put (s := s) h)
    generalize hR : fstV xs ys t q s (k + 1) fr = R at *
    have HVR := hid hR
    generalize pick xs s = X at *
    generalize pick ys s = Y at *
    have hX : ((X.length : Int) == 2 * (t : Int) + 1) = false := by rw [beq_eq_false_iff_ne]; omega
    have hXl : X.length ≤ 5 := by omega
    have hYl : Y.length ≤ 5 := by omega
    clear hA hB hP hQ ih HV hR hx1 hy1
    go_enter Tryd.func65, Tryd.ntmps65
    go_wp2
    go_loopw [16] (fun i wr => ∃ n : Nat, i = .int .i64 (n : Int) ∧ n ≤ xs.length ∧ Hid (fstV xs ys t q s (k + 1) n = R ∧ Below w.heap.size w wr)) (fun i _ => xs.length - (intOf i).toNat)
    case atStart => exact ⟨fr, rfl, hfr, hid ⟨HVR.out, Below.refl _ _⟩⟩
    case round =>
    obtain ⟨n, rfl, hn, HI⟩ := hrel
    by_cases hlt : n < xs.length
    case neg =>
      obtain rfl : n = xs.length := by omega
      have hlt' : ¬ (xs.length : Int) < (xs.length : Int) := by omega
      have hR : R = none := by rw [← HI.out.1]; exact fstV_end _ _ _ _ _ _
      subst hR
      go_wp2
      go_ret2
      exact ⟨_, rfl, fun C h => (by cases h), fun _ => rfl, HI.out.2⟩
    have hlt' : (n : Int) < (xs.length : Int) := by omega
    have hlty : (n : Int) < (ys.length : Int) := by have := HLM.out; omega
    obtain ⟨x, hx⟩ := get_of_lt hlt
    obtain ⟨y, hy⟩ := get_of_lt (l := ys) (k := n) (by have := HLM.out; omega)
    have hbl := HI.out.2
    have HA1 := hid (HA.out.below hbl)
    have HB1 := hid (HB.out.below hbl)
    obtain ⟨bx, ox, hbx, cx0⟩ := HA1.out.at_map hx
    obtain ⟨by_, oy, hby, cy0⟩ := HB1.out.at_map hy
    subst hbx
    subst hby
    have HCX := hid cx0
    have HCY := hid cy0
    have HP1 := hid (HP.out.below hbl)
    have HQ1 := hid (HQ.out.below hbl)
    have HST := hid (fstV_step xs ys t q s k hlt)
    rw [HI.out.1] at HST
    have HPXn := hid (HPX.out n x hx)
    have HPYn := hid (HPY.out n y hy)
    clear hx hy hbl cx0 cy0
    go_upto_region 6 with (fail)
    refine Rgi.wp_region (l := [_, _, _, _, _, _, _, _, _]) (tail := [_]) (⟨PushB wr (X.map (.int .u64)) (.int .u64 x), [0, 2, 7, 8]⟩) [some 41, some 42, some 43, some 44, some 45, some 46, some 47, some 48, some 49, some 17] 73 rfl (by kernel_rfl) (by kernel_rfl) rfl (PushB.start _ _ _) ?_
    refine Rgi.op_sp [] rfl rfl (by kernel_rfl) ?_ ?_
    · intro g wx hb hg
      refine Rgi.from_nil fun T hT => ?_
      go_wp2
      exact hT _ _ rfl (PushB.new hb hg)
    refine Rgi.op_is (.slice P X.length cp) [] rfl rfl (by kernel_rfl) ?_ ?_
    · intro g wx hb
      refine Rgi.from_nil fun T hT => ?_
      go_wp2
      exact hT _ _ rfl hb (by first | rfl | exact congrArg _ (by decide))
    refine Rgi.op_sp [0, 1] rfl rfl (by kernel_rfl) ?_ ?_
    · intro g wx hb hg
      refine Rgi.from_sp (some 41) rfl rfl rfl fun v41 h41 => ?_
      refine Rgi.from_is (some 42) rfl rfl ?_
      refine Rgi.from_nil fun T hT => ?_
      have ho := PushB.lit hb _ h41 hg
      at_builtin
      refine wpList_moreG elt_u64 _ rfl _ _ rfl wr.heap.size ho rfl (HP1.out.below (PushB.b hb)) (by rw [List.length_map]; rfl) (u64_ones _) (by simp; omega) (by simp; omega) (PushB.b hb).size ?_
      intro v' w' ho' hw'
      rw [List.nil_append] at ho'
      go_wp2
      exact hT _ _ rfl (PushB.put1 hb hg h41 hw' ho')
    refine' Rgi.op_is _ [] rfl rfl (by kernel_rfl) ?_ ?_
    rotate_left
    · intro g wx hb
      refine Rgi.from_nil fun T hT => ?_
      go_wp2
      refine hT _ _ rfl hb ?_
      simp only [Rgi.last, List.getElem?_toArray, List.getElem?_cons_succ, List.getElem?_cons_zero, Option.getD_some]
      rfl
    refine' Rgi.op_is _ [] rfl rfl (by kernel_rfl) ?_ ?_
    rotate_left
    · intro g wx hb
      refine Rgi.from_nil fun T hT => ?_
      go_wp2
      refine hT _ _ rfl hb ?_
      simp only [Rgi.last, List.getElem?_toArray, List.getElem?_cons_succ, List.getElem?_cons_zero, Option.getD_some]
      rfl
    refine' Rgi.op_is _ [3, 4] rfl rfl (by kernel_rfl) ?_ ?_
    rotate_left
    · intro g wx hb
      refine Rgi.from_is (some 44) rfl rfl ?_
      refine Rgi.from_is (some 45) rfl rfl ?_
      refine Rgi.from_nil fun T hT => ?_
      go_wp2
      refine hT _ _ rfl hb ?_
      simp only [Rgi.last, List.getElem?_toArray, List.getElem?_cons_succ, List.getElem?_cons_zero, Option.getD_some]
      rfl
    refine Rgi.op_is (.int .u64 x) [5] rfl rfl (by kernel_rfl) ?_ ?_
    · intro g wx hb
      refine Rgi.from_is (some 46) rfl rfl ?_
      refine Rgi.from_nil fun T hT => ?_
      have cx := ((PushB.b hb).cell (lt_of_cell HCX.out)).trans HCX.out
      go_wp2
      exact hT _ _ rfl hb (by first | rfl | exact congrArg _ (by decide))
    refine Rgi.op_sp [6] rfl rfl (by kernel_rfl) ?_ ?_
    · intro g wx hb hg
      refine Rgi.from_is (some 47) rfl rfl ?_
      refine Rgi.from_nil fun T hT => ?_
      go_wp2
      exact hT _ _ rfl (PushB.lay hb hg)
    refine Rgi.op_sp [2, 7] rfl rfl (by kernel_rfl) ?_ ?_
    · intro g wx hb hg
      refine Rgi.from_sp (some 43) rfl rfl rfl fun v43 h43 => ?_
      refine Rgi.from_sp (some 48) rfl rfl rfl fun v48 h48 => ?_
      refine Rgi.from_nil fun T hT => ?_
      have ho := PushB.two hb _ h43 hg
      obtain ⟨k7, e7, c7, _, _⟩ := PushB.one hb _ h48 hg
      subst e7
      at_builtin
      refine wpList_moreG elt_u64 _ rfl _ _ rfl wr.heap.size ho rfl (A := some ⟨k7, 0, none⟩) (c := 1) (news := [.int .u64 x]) (cells_one c7) rfl (fun u hu => by (rw [List.mem_singleton] at hu; subst hu; rfl)) (by simp; omega) (by simp; omega) (PushB.b hb).size ?_
      intro v' w' ho' hw'
      go_wp2
      exact hT _ _ rfl (PushB.put2 hb h43 h48 ho hw' ho')
    refine Rgi.walk_nil [0, 1, 2, 3, 4, 5, 6, 7, 8] (by kernel_rfl) ?_
    intro g wx hb
    refine Rgi.from_sp (some 41) rfl rfl rfl fun v41 h41 => ?_
    refine Rgi.from_is (some 42) rfl rfl ?_
    refine Rgi.from_sp (some 43) rfl rfl rfl fun v43 h43 => ?_
    refine Rgi.from_is (some 44) rfl rfl ?_
    refine Rgi.from_is (some 45) rfl rfl ?_
    refine Rgi.from_is (some 46) rfl rfl ?_
    refine Rgi.from_is (some 47) rfl rfl ?_
    refine Rgi.from_sp (some 48) rfl rfl rfl fun v48 h48 => ?_
    refine Rgi.from_sp (some 49) rfl rfl rfl fun v49 h49 => ?_
    refine Rgi.from_nil ?_
    simp only [List.map, Act.put, List.setIfInBounds_toArray, List.set_cons_zero, List.set_cons_succ]
    have hX6 : Own wx wr.heap.size 24 v49 ((X ++ [x]).map (.int .u64)) := by rw [List.map_append]; exact PushB.all hb _ h49
    have hb6 : Below wr.heap.size wr wx := PushB.b hb
    have HCY6 := hid ((hb6.cell (lt_of_cell HCY.out)).trans HCY.out)
    have HQ6 := hid (HQ1.out.below hb6)
    clear h41 h43 h48 h49 hb
    generalize wx = w6 at *
    have HX6 := hid hX6
    have HB6 := hid hb6
    clear hX6 hb6
    go_upto_region 7 with (fail)
    refine Rgi.wp_region (l := [_, _, _, _, _, _, _, _, _]) (tail := [_]) (⟨PushB w6 (Y.map (.int .u64)) (.int .u64 y), [0, 2, 7, 8]⟩) [some 50, some 51, some 52, some 53, some 54, some 55, some 56, some 57, some 58, some 18] 73 rfl (by kernel_rfl) (by kernel_rfl) rfl (PushB.start _ _ _) ?_
    refine Rgi.op_sp [] rfl rfl (by kernel_rfl) ?_ ?_
    · intro g wx hb hg
      refine Rgi.from_nil fun T hT => ?_
      go_wp2
      exact hT _ _ rfl (PushB.new hb hg)
    refine Rgi.op_is (.slice Q Y.length cq) [] rfl rfl (by kernel_rfl) ?_ ?_
    · intro g wx hb
      refine Rgi.from_nil fun T hT => ?_
      go_wp2
      exact hT _ _ rfl hb (by first | rfl | exact congrArg _ (by decide))
    refine Rgi.op_sp [0, 1] rfl rfl (by kernel_rfl) ?_ ?_
    · intro g wx hb hg
      refine Rgi.from_sp (some 50) rfl rfl rfl fun v50 h50 => ?_
      refine Rgi.from_is (some 51) rfl rfl ?_
      refine Rgi.from_nil fun T hT => ?_
      have ho := PushB.lit hb _ h50 hg
      at_builtin
      refine wpList_moreG elt_u64 _ rfl _ _ rfl w6.heap.size ho rfl (HQ6.out.below (PushB.b hb)) (by rw [List.length_map]; rfl) (u64_ones _) (by simp; omega) (by simp; omega) (PushB.b hb).size ?_
      intro v' w' ho' hw'
      rw [List.nil_append] at ho'
      go_wp2
      exact hT _ _ rfl (PushB.put1 hb hg h50 hw' ho')
    refine' Rgi.op_is _ [] rfl rfl (by kernel_rfl) ?_ ?_
    rotate_left
    · intro g wx hb
      refine Rgi.from_nil fun T hT => ?_
      go_wp2
      refine hT _ _ rfl hb ?_
      simp only [Rgi.last, List.getElem?_toArray, List.getElem?_cons_succ, List.getElem?_cons_zero, Option.getD_some]
      rfl
    refine' Rgi.op_is _ [] rfl rfl (by kernel_rfl) ?_ ?_
    rotate_left
    · intro g wx hb
      refine Rgi.from_nil fun T hT => ?_
      go_wp2
      refine hT _ _ rfl hb ?_
      simp only [Rgi.last, List.getElem?_toArray, List.getElem?_cons_succ, List.getElem?_cons_zero, Option.getD_some]
      rfl
    refine' Rgi.op_is _ [3, 4] rfl rfl (by kernel_rfl) ?_ ?_
    rotate_left
    · intro g wx hb
      refine Rgi.from_is (some 53) rfl rfl ?_
      refine Rgi.from_is (some 54) rfl rfl ?_
      refine Rgi.from_nil fun T hT => ?_
      go_wp2
      refine hT _ _ rfl hb ?_
      simp only [Rgi.last, List.getElem?_toArray, List.getElem?_cons_succ, List.getElem?_cons_zero, Option.getD_some]
      rfl
    refine Rgi.op_is (.int .u64 y) [5] rfl rfl (by kernel_rfl) ?_ ?_
    · intro g wx hb
      refine Rgi.from_is (some 55) rfl rfl ?_
      refine Rgi.from_nil fun T hT => ?_
      have cx := ((PushB.b hb).cell (lt_of_cell HCY6.out)).trans HCY6.out
      go_wp2
      exact hT _ _ rfl hb (by first | rfl | exact congrArg _ (by decide))
    refine Rgi.op_sp [6] rfl rfl (by kernel_rfl) ?_ ?_
    · intro g wx hb hg
      refine Rgi.from_is (some 56) rfl rfl ?_
      refine Rgi.from_nil fun T hT => ?_
      go_wp2
      exact hT _ _ rfl (PushB.lay hb hg)
    refine Rgi.op_sp [2, 7] rfl rfl (by kernel_rfl) ?_ ?_
    · intro g wx hb hg
      refine Rgi.from_sp (some 52) rfl rfl rfl fun v52 h52 => ?_
      refine Rgi.from_sp (some 57) rfl rfl rfl fun v57 h57 => ?_
      refine Rgi.from_nil fun T hT => ?_
      have ho := PushB.two hb _ h52 hg
      obtain ⟨k7, e7, c7, _, _⟩ := PushB.one hb _ h57 hg
      subst e7
      at_builtin
      refine wpList_moreG elt_u64 _ rfl _ _ rfl w6.heap.size ho rfl (A := some ⟨k7, 0, none⟩) (c := 1) (news := [.int .u64 y]) (cells_one c7) rfl (fun u hu => by (rw [List.mem_singleton] at hu; subst hu; rfl)) (by simp; omega) (by simp; omega) (PushB.b hb).size ?_
      intro v' w' ho' hw'
      go_wp2
      exact hT _ _ rfl (PushB.put2 hb h52 h57 ho hw' ho')
    refine Rgi.walk_nil [0, 1, 2, 3, 4, 5, 6, 7, 8] (by kernel_rfl) ?_
    intro g wx hb
    refine Rgi.from_sp (some 50) rfl rfl rfl fun v50 h50 => ?_
    refine Rgi.from_is (some 51) rfl rfl ?_
    refine Rgi.from_sp (some 52) rfl rfl rfl fun v52 h52 => ?_
    refine Rgi.from_is (some 53) rfl rfl ?_
    refine Rgi.from_is (some 54) rfl rfl ?_
    refine Rgi.from_is (some 55) rfl rfl ?_
    refine Rgi.from_is (some 56) rfl rfl ?_
    refine Rgi.from_sp (some 57) rfl rfl rfl fun v57 h57 => ?_
    refine Rgi.from_sp (some 58) rfl rfl rfl fun v58 h58 => ?_
    refine Rgi.from_nil ?_
    simp only [List.map, Act.put, List.setIfInBounds_toArray, List.set_cons_zero, List.set_cons_succ]
    have hY7 : Own wx w6.heap.size 24 v58 ((Y ++ [y]).map (.int .u64)) := by rw [List.map_append]; exact PushB.all hb _ h58
    have hb7 : Below w6.heap.size w6 wx := PushB.b hb
    clear h50 h52 h57 h58 hb
    generalize wx = w7 at *
    have hX7 := HX6.out.below hb7
    have hb67 := below_next HB6.out HB6.out.size hb7
    have hbw7 := below_next HI.out.2 HI.out.2.size hb67
    obtain ⟨B7, c7, e7, hXc⟩ := hX7.form
    obtain ⟨B8, c8, e8, hYc⟩ := hY7.form
    rw [List.length_map] at e7 e8
    subst e7
    subst e8
    obtain ⟨g7, rfl, _, l71, l72, _⟩ := own_slice hX7 (by simp)
    obtain ⟨g8, rfl, _, l81, l82, _⟩ := own_slice hY7 (by simp)
    have hp := IH.out _ _ (s ++ [n]) c7 c8 (n + 1) w7 (by simp; omega) (by omega) (HA1.out.below hb67) (HB1.out.below hb67) (by rw [HPXn.out]; exact hXc) (by rw [HPYn.out]; exact hYc) (by rw [HPXn.out]; exact l71) (by rw [HPYn.out]; exact l81) l72 l82
    rw [HPXn.out, HPYn.out] at hp
    have HR := hid hp
    have HBW := hid hbw7
    clear hp hX7 hY7 hXc hYc hb67 hbw7 hb7 HX6 HB6
    generalize fstV xs ys t q (s ++ [n]) k (n + 1) = R9 at *
    generalize X ++ [x] = X8 at *
    generalize Y ++ [y] = Y8 at *
    go_wp2_with (fail)
    rw [show ((n + 1 : Nat) : Int) = (n : Int) + 1 by omega] at HR
    refine HR.out.mono ?_
    rintro e w9 ⟨v9, rfl, o9, n9, b9⟩
    have hb9 := below_next HBW.out HBW.out.size b9
    have hs9 : w.heap.size ≤ w7.heap.size := HBW.out.size
    cases R9 with
    | some C9 =>
      have hR : R = some C9 := HST.out
      subst hR
      have o9' := o9 C9 rfl
      clear o9 n9 b9
      go_wp2
      go_ret2
      exact ⟨_, rfl, fun C h => (by obtain rfl := Option.some.inj h; exact o9'.from_ hs9), fun h => (by cases h), hb9⟩
    | none =>
      have HN := hid (show fstV xs ys t q s (k + 1) (n + 1) = R ∧ Below w.heap.size w w9 from ⟨HST.out.symm, hb9⟩)
      clear o9 n9 b9 hb9
      go_wp2
      go_roundw
      case rel => exact ⟨n + 1, by go_num, by omega, HN⟩
      case measure => simp [intOf]; omega
end Go.Proofs.YtlbhmoiicbhgkaaDoor
