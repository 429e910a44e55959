/-
  Parts of these texts that the statement needs: BvJ.
-/
import Derived.Test.YtcojnjhffmhbiaaDoorBivQ9

section
namespace Go.Proofs.YtcojnjhffmhbiaaDoor
open Go Go.RowKit Go.Maps Go.Shelf Go.Proofs
/-- a row that some slice holds. -/
def RowU (w : World) (v : Value) (l : List Int) : Prop := ∃ A c, v = .slice A l.length c ∧ Cells w A (u64v l)
theorem RowU.below {w w' : World} {v : Value} {l : List Int} (h : RowU w v l) (hb : Below w.heap.size w w') : RowU w' v l := by
  obtain ⟨A, c, h1, h2⟩ := h
  exact ⟨A, c, h1, h2.below hb⟩
theorem rowU_own {w : World} {base : Nat} {v : Value} {l : List Int} (h : Own w base 24 v (l.map (.int .u64))) : RowU w v l := by
  obtain ⟨A, c, h1, h2⟩ := h.form
  rw [List.length_map] at h1
  exact ⟨A, c, h1, h2⟩
set_option maxRecDepth 100000 in
set_option maxHeartbeats 1600000 in
theorem bivarHidden_c (A : Option Addr) (f : List (List Int)) (ca : Nat) (B : Option Addr) (xs : List Int) (cb : Nat) (more q : Int) (w : World)
    (hA : Grid w A f) (lf : f.length ≤ 9223372036854775807) (uf : Words f) (hB : Cells w B (u64v xs)) (lx : xs.length ≤ 9223372036854775807) (ux : U64s xs) (hm : U64 more)
    (hq : U64 q) (hT : Tabs w) (hp : ∀ {q : Int}, primeV q = true → Go.Psi.Pr q.toNat) :
    Calls Tryd.prog 11 #[.slice A f.length ca, .slice B xs.length cb, .int .u64 more, .int .u64 q] w fun e w' => e = .returned (.bool true) ∧ Below w.heap.size w w' := by
  go_enter Tryd.func11, Tryd.ntmps11
  go_wp2_with (fail)
  refine (works06_c w).mono ?_
  rintro e w1 ⟨rfl, hb2⟩
  by_cases hx6 : xs.length ≤ 6
  case neg =>
    go_wp2_with (fail)
    refine (works06_c w1).mono ?_
    rintro e wz ⟨rfl, hbz⟩
    go_wp2
    go_ret
    exact ⟨rfl, below_next hb2 hb2.size hbz⟩
  by_cases hlen : f.length = xs.length + 1
  case neg =>
    have hne : ((f.length : Int) != (xs.length : Int) + 1) = true := by simp; omega
    go_wp2_with (fail)
    refine (works06_c w1).mono ?_
    rintro e wz ⟨rfl, hbz⟩
    go_wp2
    go_ret
    exact ⟨rfl, below_next hb2 hb2.size hbz⟩
  have hne : ((f.length : Int) != (xs.length : Int) + 1) = false := by simp; omega
  have hx6' : decide (6 < (xs.length : Int)) = false := by simp; omega
  have HLEN := hid hlen
  have hf7 : f.length ≤ 7 := by omega
  clear hlen
  go_wp2_with (fail)
  have hr0 := row1_new w1 [.slice A f.length ca] 22
  simp only [List.toArray] at hr0
  have hb0 := below_next hb2 hb2.size (below_alloc w1 (.cells #[.slice A f.length ca] 22))
  refine (large06_c w1.heap.size A f ca _ hr0 (hA.below hb0) lf).mono ?_
  rintro e w2 ⟨rfl, hd2⟩
  replace hb2 := below_dr hb0 hd2
  clear hr0 hb0 hd2
  cases hL : largeF f with
  | true =>
    clear hL
    go_wp2_with (fail)
    refine (works06_c w2).mono ?_
    rintro e wz ⟨rfl, hbz⟩
    go_wp2
    go_ret
    exact ⟨rfl, below_next hb2 hb2.size hbz⟩
  | false =>
    obtain ⟨hl20, hw20⟩ := largeF_le hL
    clear hL hl20
    by_cases hq61 : q ≤ 2305843009213693952
    case neg =>
      go_wp2_with (fail)
      refine (works06_c w2).mono ?_
      rintro e wz ⟨rfl, hbz⟩
      go_wp2
      go_ret
      exact ⟨rfl, below_next hb2 hb2.size hbz⟩
    have hq61' : decide (2305843009213693952 < q) = false := by simp; omega
    go_wp2_with (fail)
    refine (prime_c q hq w2 (hT.below hb2)).mono ?_
    rintro e w3 ⟨rfl, hd⟩
    replace hb2 := below_dr hb2 hd
    clear hd
    cases hpv : primeV q with
    | false =>
      go_wp2_with (fail)
      refine (works06_c w3).mono ?_
      rintro e wz ⟨rfl, hbz⟩
      go_wp2
      go_ret
      exact ⟨rfl, below_next hb2 hb2.size hbz⟩
    | true =>
      obtain ⟨hok, hq2⟩ := okm_prime hpv
      have hpr := hp hpv
      clear hpv hp hT
      have hr0 := row1_new w3 [.int .u64 0] 24
      have hb0 := below_next hb2 hb2.size (below_alloc w3 (.cells [.int .u64 0].toArray 24))
      have ho0 := hr0.own (Nat.le_refl _) (by decide)
      have hb1 := below_alloc w3 (.cells [.int .u64 0].toArray 24)
      simp only [List.toArray, List.length_cons, List.length_nil, Nat.zero_add] at hr0 hb0 ho0 hb1
      have o1 : ∀ u ∈ u64v xs, u.oneCell' = true := fun u hu => by
        obtain ⟨y, _, rfl⟩ := List.mem_map.1 hu
        rfl
      have lu : (u64v xs).length = xs.length := by simp [u64v]
      have HL := hid (⟨lu, o1⟩ : _ ∧ _)
      clear lu o1 hr0
      go_wp2_with (at_builtin; refine wpList_more elt_u64 (w3.alloc (.cells #[.int .u64 0] 24)) (by rfl) _ _ rfl w3.heap.size ho0 rfl (hB.below hb0) (by rw [HL.out.1]; rfl) HL.out.2 (by rw [HL.out.1]; simp; omega) (by rw [HL.out.1]; simp; omega) hb1.size ?_; intro v1 w7 ho1 hb3; replace hb2 := below_next hb2 hb2.size (hb1.trans hb3); clear hb3 hb1 hb0 ho0)
      have e01 : [Value.int .u64 0] ++ u64v xs = u64v (0 :: xs) := rfl
      rw [e01] at ho1
      obtain ⟨A7, c7, rfl, hc7⟩ := ho1.form
      have lu1 : (u64v (0 :: xs)).length = (0 :: xs).length := by simp [u64v]
      rw [lu1]
      have hap := apart06_c A7 (0 :: xs) c7 q w7 hc7 (by simp; omega) (fun y hy => by
        rcases List.mem_cons.1 hy with rfl | hy
        · exact ⟨by decide, by decide⟩
        · exact ux y hy) hq (by omega)
      clear e01 lu1 hc7 ho1
      have HAP := hid hap
      clear hap
      go_wp2_with (fail)
      refine HAP.out.mono ?_
      rintro e w4 ⟨⟨b, rfl, htwo⟩, hb⟩
      replace hb2 := below_next hb2 hb2.size hb
      clear hb HAP
      cases b with
      | false =>
        clear htwo
        go_wp2_with (fail)
        refine (works06_c w4).mono ?_
        rintro e wz ⟨rfl, hbz⟩
        go_wp2
        go_ret
        exact ⟨rfl, below_next hb2 hb2.size hbz⟩
      | true =>
        have htw := htwo rfl
        have hun : ∀ x ∈ xs, Un x q := fun x hx => un_of_pr hq2 hpr fun e => (List.pairwise_cons.1 htw).1 x hx (by rw [e, Int.zero_emod])
        have hzu := zF_u64 hok xs
        have hzl := zF_len q xs
        have hh0 := fun (hl : f.length = (zF xs q).length) (hw : ∀ l ∈ f, l.length ≤ (zF xs q).length) => hidden_zero hok hl hw more
        have hh1 := fun (hl : f.length = (zF xs q).length) (hw : ∀ l ∈ f, l.length ≤ (zF xs q).length) x (hx : x ∈ xs) y => hidden_row hok hl hw more hx (hun x hx) y
        have hless := less06_c B xs cb q w4 (hB.below hb2) (by omega) ux hq hok
        generalize zF xs q = z at *
        have HZ := hid (⟨hzl, hh0, hh1, hless⟩ : _ ∧ _ ∧ _ ∧ _)
        clear hzl hh0 hh1 hless hun htwo htw hpr
        go_wp2_with (fail)
        refine HZ.out.2.2.2.mono ?_
        rintro e w5 ⟨A5, c5, rfl, hz5, hb5⟩
        have hz7 : z.length ≤ 7 := by have := HZ.out.1; omega
        have hz1 : 1 ≤ z.length := by have := HZ.out.1; omega
        have hfz : f.length = z.length := by rw [HZ.out.1, HLEN.out]
        have hA5 := (hA.below hb2).below hb5
        have hB5 := (hB.below hb2).below hb5
        replace hb2 := below_next hb2 hb2.size hb5
        clear hb5 hA hB
        have HFZ := hid hfz
        clear hfz
        go_wp2
        go_loopw [10, 11, 12, 13] (fun o i _ _ w6 => ∃ k : Nat, i = .int .i64 k ∧ k ≤ z.length ∧ (∀ l ∈ f.take k, l.length ≤ z.length) ∧ OwnRows w6 w5.heap.size 23 24 o (rowsU6 ((hG f z more q).take k)) ∧ Below w5.heap.size w5 w6) (fun _ i _ _ _ => z.length - (intOf i).toNat)
        case atStart => exact ⟨0, rfl, by omega, by simp, (OwnRows.nil w5 w5.heap.size 23 24), Below.refl _ _⟩
        case round =>
          obtain ⟨k, rfl, hk, htk, ⟨vs, hown, hvl, hvr⟩, hb⟩ := hrel
          by_cases hlt : k < z.length
          · obtain ⟨a, ha⟩ := get_of_lt hlt
            obtain ⟨l, hl⟩ := get_of_lt (l := f) (by rw [HFZ.out]; exact hlt)
            have hgk := hG_at (more := more) (q := q) hl ha
            have hvl' : vs.length = k := by rw [hvl]; simp [rowsU6, hG_len]; omega
            have HV := hid (⟨hgk, hvl, hvl', hvr, htk⟩ : _ ∧ _ ∧ _ ∧ _ ∧ _)
            have hau := hzu a (List.mem_of_getElem? ha)
            have hul := uf l (List.mem_of_getElem? hl)
            obtain ⟨ba, oa, e1, hca⟩ := (hz5.below hb).at_map ha
            obtain ⟨b1, o1, A8, c8, e2, hcl, hcs, hln⟩ := (hA5.below hb).at_ hl
            have HTK := hid (fun (h : l.length ≤ z.length) => mem_takeN (P := fun l : List Int => l.length ≤ z.length) hl htk h)
            subst e1 e2
            clear hgk hvl hvl' hvr htk ha hl
            have hkf : k < f.length := by rw [HFZ.out]; exact hlt
            go_wp2_with (at_make; refine wpList_make_row elt_u64 _ rfl _ _ rfl .i64 .i64 _ _ z.length rfl rfl rfl rfl (by omega) (by omega) ?_; intro w8 hr8 hs8 hb8)
            generalize wr = wo at *
            rw [show List.replicate z.length (Value.int .u64 0) = u64v (hMid z l more a q 0) by rw [hMid_zero]; simp [u64v]] at hr8
            have hml := hMid_len z l more a q
            have hms := hMid_set z l more a q
            have hma := hMid_all z l more a q
            have lu : ∀ (l : List Int), (u64v l).length = l.length := fun l => by simp [u64v]
            have HM := hid (⟨hml, hms, hma, lu⟩ : _ ∧ _ ∧ _ ∧ _)
            have HOWN := hid hown
            clear hml hms hma lu hown
            go_wp2
            go_loopw [13] (fun j w9 => ∃ m : Nat, j = .int .i64 m ∧ m ≤ z.length ∧ (m = 0 ∨ l.length ≤ z.length) ∧ Row1 w9 wo.heap.size 24 (u64v (hMid z l more a q m)) ∧ Below wo.heap.size wo w9) (fun j _ => z.length - (intOf j).toNat)
            case atStart => exact ⟨0, rfl, by omega, .inl rfl, hr8, hb8⟩
            case round =>
              clear hr8 hb8 hs8
              obtain ⟨m, rfl, hmz, hm0, hr, hw⟩ := hrel
              by_cases hlt2 : m < z.length
              · have hcl2 := (hw.cell (lt_of_cell hcl)).trans hcl
                by_cases hll : l.length ≤ z.length
                case neg =>
                  go_wp2
                  go_ret
                  exact ⟨rfl, below_next hb2 hb2.size (below_next hb hb.size hw)⟩
                obtain ⟨b, hbz⟩ := get_of_lt hlt2
                have hbu := hzu b (List.mem_of_getElem? hbz)
                obtain ⟨bb, ob, e3, hcb⟩ := ((hz5.below hb).below hw).at_map hbz
                simp only [Option.some.injEq, Addr.mk.injEq, and_true] at e3
                obtain ⟨rfl, rfl⟩ := e3
                have hzb : z.getD m 0 = b := getD_in' hbz
                obtain ⟨u0, hu0⟩ := get_of_lt (l := u64v (hMid z l more a q m)) (k := m) (by rw [HM.out.2.2.2, HM.out.1]; exact hlt2)
                have HB := hid (⟨hzb, hu0⟩ : _ ∧ _)
                have hca2 := (hw.cell (lt_of_cell hca)).trans hca
                have hvu := mMul_u64 more (mMul a b q) q
                have hau2 := mMul_u64 a b q
                clear hbz hzb hu0
                go_wp2
                refine Rg.wp_region (l := [_, _, _, _, _, _, _, _, _, _, _, _, _, _, _]) (tail := [_, _]) (Rg.grows _ 17) [some 80, some 81, some 82, some 83, some 84, some 85, some 86, some 87, some 88, some 89, some 90, some 91, some 92, some 93, some 94, some 95, none] 200 (by kernel_rfl) (by kernel_rfl) (by kernel_rfl) rfl (Rg.grows_fair _ _) (Rg.keep_drew _) (trivial) ?_
                refine' Rg.op_is _ [] rfl rfl (by kernel_rfl) ?_ ?_
                rotate_left
                · intro wx hb
                  refine Rg.from_nil fun T hT => ?_
                  go_wp2
                  refine hT _ _ rfl (by first | exact Rg.Keep.refl _ | exact below_of_dr hw2 | exact hw2 | exact (Below.refl _ _).alloc (Nat.le_refl _) _) ?_
                  simp only [Rg.last, List.getElem?_toArray, List.getElem?_cons_succ, List.getElem?_cons_zero, Option.getD_some]
                  rfl
                refine' Rg.op_is _ [] rfl rfl (by kernel_rfl) ?_ ?_
                rotate_left
                · intro wx hb
                  refine Rg.from_nil fun T hT => ?_
                  go_wp2
                  refine hT _ _ rfl (by first | exact Rg.Keep.refl _ | exact below_of_dr hw2 | exact hw2 | exact (Below.refl _ _).alloc (Nat.le_refl _) _) ?_
                  simp only [Rg.last, List.getElem?_toArray, List.getElem?_cons_succ, List.getElem?_cons_zero, Option.getD_some]
                  rfl
                refine' Rg.op_is _ [] rfl rfl (by kernel_rfl) ?_ ?_
                rotate_left
                · intro wx hb
                  refine Rg.from_nil fun T hT => ?_
                  go_wp2
                  refine hT _ _ rfl (by first | exact Rg.Keep.refl _ | exact below_of_dr hw2 | exact hw2 | exact (Below.refl _ _).alloc (Nat.le_refl _) _) ?_
                  simp only [Rg.last, List.getElem?_toArray, List.getElem?_cons_succ, List.getElem?_cons_zero, Option.getD_some]
                  rfl
                refine' Rg.op_is _ [] rfl rfl (by kernel_rfl) ?_ ?_
                rotate_left
                · intro wx hb
                  refine Rg.from_nil fun T hT => ?_
                  go_wp2
                  refine hT _ _ rfl (by first | exact Rg.Keep.refl _ | exact below_of_dr hw2 | exact hw2 | exact (Below.refl _ _).alloc (Nat.le_refl _) _) ?_
                  simp only [Rg.last, List.getElem?_toArray, List.getElem?_cons_succ, List.getElem?_cons_zero, Option.getD_some]
                  rfl
                refine' Rg.op_is _ [] rfl rfl (by kernel_rfl) ?_ ?_
                rotate_left
                · intro wx hb
                  refine Rg.from_nil fun T hT => ?_
                  go_wp2
                  refine hT _ _ rfl (by first | exact Rg.Keep.refl _ | exact below_of_dr hw2 | exact hw2 | exact (Below.refl _ _).alloc (Nat.le_refl _) _) ?_
                  simp only [Rg.last, List.getElem?_toArray, List.getElem?_cons_succ, List.getElem?_cons_zero, Option.getD_some]
                  rfl
                refine' Rg.op_is _ [3, 4] rfl rfl (by kernel_rfl) ?_ ?_
                rotate_left
                · intro wx hb
                  refine Rg.from_is (some 83) rfl rfl ?_
                  refine Rg.from_is (some 84) rfl rfl ?_
                  refine Rg.from_nil fun T hT => ?_
                  go_wp2
                  refine hT _ _ rfl (by first | exact Rg.Keep.refl _ | exact below_of_dr hw2 | exact hw2 | exact (Below.refl _ _).alloc (Nat.le_refl _) _) ?_
                  simp only [Rg.last, List.getElem?_toArray, List.getElem?_cons_succ, List.getElem?_cons_zero, Option.getD_some]
                  rfl
                refine Rg.op_is (.int .u64 a) [5] rfl rfl (by kernel_rfl) ?_ ?_
                · intro wx hb
                  refine Rg.from_is (some 85) rfl rfl ?_
                  refine Rg.from_nil fun T hT => ?_
                  have hca3 := (hb.cell (lt_of_cell hca2)).trans hca2
                  go_wp2
                  exact hT _ _ rfl (by first | exact Rg.Keep.refl _ | exact below_of_dr hw2 | exact hw2 | exact (Below.refl _ _).alloc (Nat.le_refl _) _) (by first | rfl | exact congrArg _ (by decide))
                refine' Rg.op_is _ [] rfl rfl (by kernel_rfl) ?_ ?_
                rotate_left
                · intro wx hb
                  refine Rg.from_nil fun T hT => ?_
                  go_wp2
                  refine hT _ _ rfl (by first | exact Rg.Keep.refl _ | exact below_of_dr hw2 | exact hw2 | exact (Below.refl _ _).alloc (Nat.le_refl _) _) ?_
                  simp only [Rg.last, List.getElem?_toArray, List.getElem?_cons_succ, List.getElem?_cons_zero, Option.getD_some]
                  rfl
                refine' Rg.op_is _ [] rfl rfl (by kernel_rfl) ?_ ?_
                rotate_left
                · intro wx hb
                  refine Rg.from_nil fun T hT => ?_
                  go_wp2
                  refine hT _ _ rfl (by first | exact Rg.Keep.refl _ | exact below_of_dr hw2 | exact hw2 | exact (Below.refl _ _).alloc (Nat.le_refl _) _) ?_
                  simp only [Rg.last, List.getElem?_toArray, List.getElem?_cons_succ, List.getElem?_cons_zero, Option.getD_some]
                  rfl
                refine' Rg.op_is _ [7, 8] rfl rfl (by kernel_rfl) ?_ ?_
                rotate_left
                · intro wx hb
                  refine Rg.from_is (some 87) rfl rfl ?_
                  refine Rg.from_is (some 88) rfl rfl ?_
                  refine Rg.from_nil fun T hT => ?_
                  go_wp2
                  refine hT _ _ rfl (by first | exact Rg.Keep.refl _ | exact below_of_dr hw2 | exact hw2 | exact (Below.refl _ _).alloc (Nat.le_refl _) _) ?_
                  simp only [Rg.last, List.getElem?_toArray, List.getElem?_cons_succ, List.getElem?_cons_zero, Option.getD_some]
                  rfl
                refine Rg.op_is (.int .u64 b) [9] rfl rfl (by kernel_rfl) ?_ ?_
                · intro wx hb
                  refine Rg.from_is (some 89) rfl rfl ?_
                  refine Rg.from_nil fun T hT => ?_
                  have hcb3 := (hb.cell (lt_of_cell hcb)).trans hcb
                  go_wp2
                  exact hT _ _ rfl (by first | exact Rg.Keep.refl _ | exact below_of_dr hw2 | exact hw2 | exact (Below.refl _ _).alloc (Nat.le_refl _) _) (by first | rfl | exact congrArg _ (by decide))
                refine' Rg.op_is _ [] rfl rfl (by kernel_rfl) ?_ ?_
                rotate_left
                · intro wx hb
                  refine Rg.from_nil fun T hT => ?_
                  go_wp2
                  refine hT _ _ rfl (by first | exact Rg.Keep.refl _ | exact below_of_dr hw2 | exact hw2 | exact (Below.refl _ _).alloc (Nat.le_refl _) _) ?_
                  simp only [Rg.last, List.getElem?_toArray, List.getElem?_cons_succ, List.getElem?_cons_zero, Option.getD_some]
                  rfl
                refine Rg.op_is (.int .u64 (mMul a b q)) [6, 10, 11] rfl rfl (by kernel_rfl) ?_ ?_
                · intro wx hb
                  refine Rg.from_is (some 86) rfl rfl ?_
                  refine Rg.from_is (some 90) rfl rfl ?_
                  refine Rg.from_is (some 91) rfl rfl ?_
                  refine Rg.from_nil fun T hT => ?_
                  go_wp2_with (go_at_call 29; refine (mul_c _ _ _ hau hbu hq _).mono ?_; rintro e w5 ⟨rfl, hw5⟩)
                  exact hT _ _ rfl (below_of_dr hw5) rfl
                refine' Rg.op_is _ [] rfl rfl (by kernel_rfl) ?_ ?_
                rotate_left
                · intro wx hb
                  refine Rg.from_nil fun T hT => ?_
                  go_wp2
                  refine hT _ _ rfl (by first | exact Rg.Keep.refl _ | exact below_of_dr hw2 | exact hw2 | exact (Below.refl _ _).alloc (Nat.le_refl _) _) ?_
                  simp only [Rg.last, List.getElem?_toArray, List.getElem?_cons_succ, List.getElem?_cons_zero, Option.getD_some]
                  rfl
                refine Rg.op_is (.int .u64 (mMul more (mMul a b q) q)) [2, 12, 13] rfl rfl (by kernel_rfl) ?_ ?_
                · intro wx hb
                  refine Rg.from_is (some 82) rfl rfl ?_
                  refine Rg.from_is (some 92) rfl rfl ?_
                  refine Rg.from_is (some 93) rfl rfl ?_
                  refine Rg.from_nil fun T hT => ?_
                  go_wp2_with (go_at_call 29; refine (mul_c _ _ _ hm hau2 hq _).mono ?_; rintro e w5 ⟨rfl, hw5⟩)
                  exact hT _ _ rfl (below_of_dr hw5) rfl
                refine Rg.walk_nil [0, 1, 2, 3, 4, 5, 6, 7, 8, 9, 10, 11, 12, 13, 14] (by kernel_rfl) ?_
                intro wx hb
                refine Rg.from_is (some 80) rfl rfl ?_
                refine Rg.from_is (some 81) rfl rfl ?_
                refine Rg.from_is (some 82) rfl rfl ?_
                refine Rg.from_is (some 83) rfl rfl ?_
                refine Rg.from_is (some 84) rfl rfl ?_
                refine Rg.from_is (some 85) rfl rfl ?_
                refine Rg.from_is (some 86) rfl rfl ?_
                refine Rg.from_is (some 87) rfl rfl ?_
                refine Rg.from_is (some 88) rfl rfl ?_
                refine Rg.from_is (some 89) rfl rfl ?_
                refine Rg.from_is (some 90) rfl rfl ?_
                refine Rg.from_is (some 91) rfl rfl ?_
                refine Rg.from_is (some 92) rfl rfl ?_
                refine Rg.from_is (some 93) rfl rfl ?_
                refine Rg.from_is (some 94) rfl rfl ?_
                refine Rg.from_nil ?_
                simp only [List.map, Act.put, List.setIfInBounds_toArray, List.set_cons_zero, List.set_cons_succ]
                have hr5 := hr.below hb
                have hc5 := hr5.cell HB.out.2
                have hf5 := hr5.frozen m
                have hr6 := hr5.set m (.int .u64 (mMul more (mMul a b q) q))
                have hb6 := (below_next hw hw.size hb).setCell (p := ⟨wo.heap.size, m, none⟩) (Nat.le_refl _) (.int .u64 (mMul more (mMul a b q) q))
                have hcl6 := (hb6.cell (lt_of_cell hcl)).trans hcl
                clear hb hcl2 hca2 hcb hr hw
                have hv : (if m < l.length then mAdd (mMul more (mMul a b q) q) (l.getD m 0) q else mMul more (mMul a b q) q) = hVal z l more a q m := by rw [← HB.out.1]; rfl
                by_cases hlt3 : m < l.length
                · obtain ⟨y, hy⟩ := get_of_lt hlt3
                  have hyu := hul y (List.mem_of_getElem? hy)
                  obtain ⟨by3, oy, e4, hcy⟩ := (hcs.below hb6).at_map hy
                  subst e4
                  rw [if_pos hlt3, getD_in' hy] at hv
                  have HY := hid hv
                  clear hv hy
                  generalize mMul more (mMul a b q) q = v1 at *
                  go_wp2
                  generalize wx.setCell ⟨wo.heap.size, m, none⟩ (.int .u64 v1) = w6 at *
                  have hc6 := hr6.cell (k := m) (u := .int .u64 v1) (by rw [List.getElem?_set_self (List.getElem?_eq_some_iff.1 HB.out.2).1])
                  clear hr5 hc5 hf5
                  refine Rg.wp_region (l := [_, _, _, _, _, _, _, _, _, _, _, _, _, _, _]) (tail := [_, _]) (Rg.grows _ 17) [some 103, some 104, some 105, some 106, some 107, some 108, some 109, some 110, some 111, some 112, some 113, some 114, some 115, some 116, some 117, some 118, none] 200 (by kernel_rfl) (by kernel_rfl) (by kernel_rfl) rfl (Rg.grows_fair _ _) (Rg.keep_drew _) (trivial) ?_
                  refine' Rg.op_is _ [] rfl rfl (by kernel_rfl) ?_ ?_
                  rotate_left
                  · intro wx hb
                    refine Rg.from_nil fun T hT => ?_
                    go_wp2
                    refine hT _ _ rfl (by first | exact Rg.Keep.refl _ | exact below_of_dr hw2 | exact hw2 | exact (Below.refl _ _).alloc (Nat.le_refl _) _) ?_
                    simp only [Rg.last, List.getElem?_toArray, List.getElem?_cons_succ, List.getElem?_cons_zero, Option.getD_some]
                    rfl
                  refine' Rg.op_is _ [] rfl rfl (by kernel_rfl) ?_ ?_
                  rotate_left
                  · intro wx hb
                    refine Rg.from_nil fun T hT => ?_
                    go_wp2
                    refine hT _ _ rfl (by first | exact Rg.Keep.refl _ | exact below_of_dr hw2 | exact hw2 | exact (Below.refl _ _).alloc (Nat.le_refl _) _) ?_
                    simp only [Rg.last, List.getElem?_toArray, List.getElem?_cons_succ, List.getElem?_cons_zero, Option.getD_some]
                    rfl
                  refine' Rg.op_is _ [] rfl rfl (by kernel_rfl) ?_ ?_
                  rotate_left
                  · intro wx hb
                    refine Rg.from_nil fun T hT => ?_
                    go_wp2
                    refine hT _ _ rfl (by first | exact Rg.Keep.refl _ | exact below_of_dr hw2 | exact hw2 | exact (Below.refl _ _).alloc (Nat.le_refl _) _) ?_
                    simp only [Rg.last, List.getElem?_toArray, List.getElem?_cons_succ, List.getElem?_cons_zero, Option.getD_some]
                    rfl
                  refine' Rg.op_is _ [] rfl rfl (by kernel_rfl) ?_ ?_
                  rotate_left
                  · intro wx hb
                    refine Rg.from_nil fun T hT => ?_
                    go_wp2
                    refine hT _ _ rfl (by first | exact Rg.Keep.refl _ | exact below_of_dr hw2 | exact hw2 | exact (Below.refl _ _).alloc (Nat.le_refl _) _) ?_
                    simp only [Rg.last, List.getElem?_toArray, List.getElem?_cons_succ, List.getElem?_cons_zero, Option.getD_some]
                    rfl
                  refine' Rg.op_is _ [2, 3] rfl rfl (by kernel_rfl) ?_ ?_
                  rotate_left
                  · intro wx hb
                    refine Rg.from_is (some 105) rfl rfl ?_
                    refine Rg.from_is (some 106) rfl rfl ?_
                    refine Rg.from_nil fun T hT => ?_
                    go_wp2
                    refine hT _ _ rfl (by first | exact Rg.Keep.refl _ | exact below_of_dr hw2 | exact hw2 | exact (Below.refl _ _).alloc (Nat.le_refl _) _) ?_
                    simp only [Rg.last, List.getElem?_toArray, List.getElem?_cons_succ, List.getElem?_cons_zero, Option.getD_some]
                    rfl
                  refine Rg.op_is (.int .u64 v1) [4] rfl rfl (by kernel_rfl) ?_ ?_
                  · intro wx hb
                    refine Rg.from_is (some 107) rfl rfl ?_
                    refine Rg.from_nil fun T hT => ?_
                    have hc7 := (hb.cell (lt_of_cell hc6)).trans hc6
                    go_wp2
                    exact hT _ _ rfl (by first | exact Rg.Keep.refl _ | exact below_of_dr hw2 | exact hw2 | exact (Below.refl _ _).alloc (Nat.le_refl _) _) (by first | rfl | exact congrArg _ (by decide))
                  refine' Rg.op_is _ [] rfl rfl (by kernel_rfl) ?_ ?_
                  rotate_left
                  · intro wx hb
                    refine Rg.from_nil fun T hT => ?_
                    go_wp2
                    refine hT _ _ rfl (by first | exact Rg.Keep.refl _ | exact below_of_dr hw2 | exact hw2 | exact (Below.refl _ _).alloc (Nat.le_refl _) _) ?_
                    simp only [Rg.last, List.getElem?_toArray, List.getElem?_cons_succ, List.getElem?_cons_zero, Option.getD_some]
                    rfl
                  refine' Rg.op_is _ [] rfl rfl (by kernel_rfl) ?_ ?_
                  rotate_left
                  · intro wx hb
                    refine Rg.from_nil fun T hT => ?_
                    go_wp2
                    refine hT _ _ rfl (by first | exact Rg.Keep.refl _ | exact below_of_dr hw2 | exact hw2 | exact (Below.refl _ _).alloc (Nat.le_refl _) _) ?_
                    simp only [Rg.last, List.getElem?_toArray, List.getElem?_cons_succ, List.getElem?_cons_zero, Option.getD_some]
                    rfl
                  refine' Rg.op_is _ [6, 7] rfl rfl (by kernel_rfl) ?_ ?_
                  rotate_left
                  · intro wx hb
                    refine Rg.from_is (some 109) rfl rfl ?_
                    refine Rg.from_is (some 110) rfl rfl ?_
                    refine Rg.from_nil fun T hT => ?_
                    go_wp2
                    refine hT _ _ rfl (by first | exact Rg.Keep.refl _ | exact below_of_dr hw2 | exact hw2 | exact (Below.refl _ _).alloc (Nat.le_refl _) _) ?_
                    simp only [Rg.last, List.getElem?_toArray, List.getElem?_cons_succ, List.getElem?_cons_zero, Option.getD_some]
                    rfl
                  refine Rg.op_is (.slice (some ⟨by3, oy, none⟩) l.length c8) [8] rfl rfl (by kernel_rfl) ?_ ?_
                  · intro wx hb
                    refine Rg.from_is (some 111) rfl rfl ?_
                    refine Rg.from_nil fun T hT => ?_
                    have hcl7 := (hb.cell (lt_of_cell hcl6)).trans hcl6
                    go_wp2
                    exact hT _ _ rfl (by first | exact Rg.Keep.refl _ | exact below_of_dr hw2 | exact hw2 | exact (Below.refl _ _).alloc (Nat.le_refl _) _) (by first | rfl | exact congrArg _ (by decide))
                  refine' Rg.op_is _ [] rfl rfl (by kernel_rfl) ?_ ?_
                  rotate_left
                  · intro wx hb
                    refine Rg.from_nil fun T hT => ?_
                    go_wp2
                    refine hT _ _ rfl (by first | exact Rg.Keep.refl _ | exact below_of_dr hw2 | exact hw2 | exact (Below.refl _ _).alloc (Nat.le_refl _) _) ?_
                    simp only [Rg.last, List.getElem?_toArray, List.getElem?_cons_succ, List.getElem?_cons_zero, Option.getD_some]
                    rfl
                  refine' Rg.op_is _ [9, 10] rfl rfl (by kernel_rfl) ?_ ?_
                  rotate_left
                  · intro wx hb
                    refine Rg.from_is (some 112) rfl rfl ?_
                    refine Rg.from_is (some 113) rfl rfl ?_
                    refine Rg.from_nil fun T hT => ?_
                    go_wp2
                    refine hT _ _ rfl (by first | exact Rg.Keep.refl _ | exact below_of_dr hw2 | exact hw2 | exact (Below.refl _ _).alloc (Nat.le_refl _) _) ?_
                    simp only [Rg.last, List.getElem?_toArray, List.getElem?_cons_succ, List.getElem?_cons_zero, Option.getD_some]
                    rfl
                  refine Rg.op_is (.int .u64 y) [11] rfl rfl (by kernel_rfl) ?_ ?_
                  · intro wx hb
                    refine Rg.from_is (some 114) rfl rfl ?_
                    refine Rg.from_nil fun T hT => ?_
                    have hcy7 := (hb.cell (lt_of_cell hcy)).trans hcy
                    go_wp2
                    exact hT _ _ rfl (by first | exact Rg.Keep.refl _ | exact below_of_dr hw2 | exact hw2 | exact (Below.refl _ _).alloc (Nat.le_refl _) _) (by first | rfl | exact congrArg _ (by decide))
                  refine' Rg.op_is _ [] rfl rfl (by kernel_rfl) ?_ ?_
                  rotate_left
                  · intro wx hb
                    refine Rg.from_nil fun T hT => ?_
                    go_wp2
                    refine hT _ _ rfl (by first | exact Rg.Keep.refl _ | exact below_of_dr hw2 | exact hw2 | exact (Below.refl _ _).alloc (Nat.le_refl _) _) ?_
                    simp only [Rg.last, List.getElem?_toArray, List.getElem?_cons_succ, List.getElem?_cons_zero, Option.getD_some]
                    rfl
                  refine Rg.op_is (.int .u64 (mAdd v1 y q)) [5, 12, 13] rfl rfl (by kernel_rfl) ?_ ?_
                  · intro wx hb
                    refine Rg.from_is (some 108) rfl rfl ?_
                    refine Rg.from_is (some 115) rfl rfl ?_
                    refine Rg.from_is (some 116) rfl rfl ?_
                    refine Rg.from_nil fun T hT => ?_
                    go_wp2_with (go_at_call 30; refine (add_c _ _ _ hvu hyu hq _).mono ?_; rintro e w5 ⟨rfl, hw5⟩)
                    exact hT _ _ rfl (below_of_dr hw5) rfl
                  refine Rg.walk_nil [0, 1, 2, 3, 4, 5, 6, 7, 8, 9, 10, 11, 12, 13, 14] (by kernel_rfl) ?_
                  intro wx hb
                  refine Rg.from_is (some 103) rfl rfl ?_
                  refine Rg.from_is (some 104) rfl rfl ?_
                  refine Rg.from_is (some 105) rfl rfl ?_
                  refine Rg.from_is (some 106) rfl rfl ?_
                  refine Rg.from_is (some 107) rfl rfl ?_
                  refine Rg.from_is (some 108) rfl rfl ?_
                  refine Rg.from_is (some 109) rfl rfl ?_
                  refine Rg.from_is (some 110) rfl rfl ?_
                  refine Rg.from_is (some 111) rfl rfl ?_
                  refine Rg.from_is (some 112) rfl rfl ?_
                  refine Rg.from_is (some 113) rfl rfl ?_
                  refine Rg.from_is (some 114) rfl rfl ?_
                  refine Rg.from_is (some 115) rfl rfl ?_
                  refine Rg.from_is (some 116) rfl rfl ?_
                  refine Rg.from_is (some 117) rfl rfl ?_
                  refine Rg.from_nil ?_
                  simp only [List.map, Act.put, List.setIfInBounds_toArray, List.set_cons_zero, List.set_cons_succ]
                  have hr7 := hr6.below hb
                  have hc7 := (hb.cell (lt_of_cell hc6)).trans hc6
                  have hf7 := hr7.frozen m
                  have hr8 := hr7.set m (.int .u64 (mAdd v1 y q))
                  rw [HY.out, List.set_set, show ((u64v (hMid z l more a q m)).set m (.int .u64 (hVal z l more a q m))) = u64v (hMid z l more a q (m + 1)) by rw [← HM.out.2.1 m]; simp [u64v, List.map_set]] at hr8
                  rw [HY.out]
                  have hb8 := (below_next hb6 hb6.size hb).setCell (p := ⟨wo.heap.size, m, none⟩) (Nat.le_refl _) (.int .u64 (hVal z l more a q m))
                  clear hb hcl6 hcy hr6 hr7 hb6
                  go_wp2
                  go_roundw
                  case rel => exact ⟨m + 1, by go_num, by omega, .inr hll, hr8, hb8⟩
                  case measure => simp [intOf]; omega
                · rw [if_neg hlt3] at hv
                  rw [hv, show ((u64v (hMid z l more a q m)).set m (.int .u64 (hVal z l more a q m))) = u64v (hMid z l more a q (m + 1)) by rw [← HM.out.2.1 m]; simp [u64v, List.map_set]] at hr6
                  rw [hv] at hb6 hcl6 ⊢
                  clear hv
                  go_wp2
                  go_roundw
                  case rel => exact ⟨m + 1, by go_num, by omega, .inr hll, hr6, hb6⟩
                  case measure => simp [intOf]; omega
              · obtain rfl : m = z.length := by omega
                have hll : l.length ≤ z.length := by omega
                rw [HM.out.2.2.1] at hr
                have hrw : RowT wr 24 (.slice (some ⟨wo.heap.size, 0, none⟩) z.length z.length) ((hRow z l more a q).map (.int .u64)) := by
                  have := (hr.own (base := wo.heap.size) (Nat.le_refl _) (by rw [HM.out.2.2.2, hRow_len]; omega)).rowT
                  rw [HM.out.2.2.2, hRow_len] at this
                  exact this
                have HR := hid hrw
                have hown5 := HOWN.out.below hw
                have HVR := hid (fun (j : Nat) u ys a b => (HV.out.2.2.2.1 j u ys a b).below hw)
                have HTK2 := hid (HTK.out hll)
                have hb8 := below_next hb hb.size hw
                clear hrw hr hm0 HOWN
                go_wp2_with (at_builtin; refine wpList_push elt_rows wr rfl _ _ rfl w5.heap.size hown5 rfl (.slice (some ⟨wo.heap.size, 0, none⟩) z.length z.length) rfl rfl (by rw [HV.out.2.2.1]; omega) (by rw [HV.out.2.2.1]; omega) hb8.size ?_; intro v' w9 hown6 hoth hb9)
                go_roundw
                case rel =>
                  have hrows := OwnRows.push (w := wr) (by decide) HV.out.2.1 HVR.out hown5 HR.out hown6 hoth
                  rw [rowsU6_take HV.out.1] at hrows
                  exact ⟨k + 1, by go_num, by omega, HTK2.out, hrows, hb8.trans hb9⟩
                case measure => simp [intOf]; omega
          · obtain rfl : k = z.length := by omega
            rw [List.take_of_length_le (by rw [HFZ.out]; exact Nat.le_refl _)] at htk
            rw [List.take_of_length_le (by rw [hG_len]; exact Nat.le_refl _)] at hvl hvr
            have hOR : OwnRows _ w5.heap.size 23 24 _ ((hG f z more q).map (·.map (Value.int .u64))) := ⟨vs, hown, hvl, hvr⟩
            obtain ⟨A6, c6, rfl, hg6, _⟩ := hOR.grid
            clear hOR hown hvl hvr
            have hh0 := HZ.out.2.1 HFZ.out htk
            have hh1 := HZ.out.2.2.1 HFZ.out htk
            have hGl := hG_len f z more q
            have hGw := hG_wide f z more q
            have hGu := hG_words f z more q
            generalize hG f z more q = G at *
            have HH := hid (⟨hh0, hh1⟩ : _ ∧ _)
            have HGL := hid hGl
            have hG7 : G.length ≤ 7 := by omega
            clear hh0 hh1 hGl htk
            generalize wr = wo at *
            have z64 : U64 0 := ⟨by decide, by decide⟩
            have HA1 := hid (at_c A6 G c6 0 0 q wo hg6 (by omega) hGu z64 z64 hq)
            go_wp2_with (fail)
            refine HA1.out.mono ?_
            rintro e w6 ⟨rfl, hb6⟩
            clear HA1
            rw [HH.out.1]
            have hA6 := (hA5.below hb).below hb6
            have hB6 := (hB5.below hb).below hb6
            replace hg6 := hg6.below hb6
            replace hb2 := below_next (below_next hb2 hb2.size hb) (by have := hb2.size; have := hb.size; omega) hb6
            clear hA5 hB5 hz5 hb hb6
            go_wp2_with (fail)
            refine (at_c A f ca 0 0 q w6 hA6 (by omega) uf z64 z64 hq).mono ?_
            rintro e w7 ⟨rfl, hb7⟩
            have hfu : U64 (mAt f 0 0 q) := mEval_u64 ..
            go_wp2_with (fail)
            refine (add_c _ more q hfu hm hq w7).mono ?_
            rintro e w8 ⟨rfl, hd8⟩
            replace hb7 := below_dr hb7 hd8
            have hA8 := hA6.below hb7
            have hB8 := hB6.below hb7
            replace hg6 := hg6.below hb7
            replace hb2 := below_next hb2 hb2.size hb7
            clear hA6 hB6 hd8 hb7
            generalize mAdd (mAt f 0 0 q) more q = v0 at *
            go_wp2
            go_loopw [14, 15] (fun k _ w9 => ∃ n : Nat, k = .int .i64 n ∧ n ≤ xs.length ∧ Below w8.heap.size w8 w9) (fun k _ _ => xs.length - (intOf k).toNat)
            case atStart => exact ⟨0, rfl, by omega, Below.refl _ _⟩
            case round =>
              obtain ⟨n, rfl, hn, hw⟩ := hrel
              by_cases hlt : n < xs.length
              · obtain ⟨x, hx⟩ := get_of_lt hlt
                have hxm := List.mem_of_getElem? hx
                have hxu := ux x hxm
                obtain ⟨bx, ox, e1, hcx⟩ := hB8.at_map hx
                have hh := HH.out.2 x hxm
                have HX := hid hh
                clear hx hh
                generalize wr = wo at *
                go_wp2
                go_loopw [15] (fun y w10 => ∃ m : Nat, y = .int .u64 m ∧ m ≤ 9 ∧ Below w8.heap.size w8 w10) (fun y _ => 9 - (intOf y).toNat)
                case atStart => exact ⟨0, rfl, by omega, hw⟩
                case round =>
                  obtain ⟨m, rfl, hm9, hw1⟩ := hrel
                  have hgm := hg6.below hw1
                  have hAm := hA8.below hw1
                  have hcm := (hw1.cell (lt_of_cell hcx)).trans hcx
                  by_cases hlt2 : m < 9
                  · have hmu : U64 (m : Int) := ⟨by omega, by omega⟩
                    have e2 := (HX.out (m : Int)).1
                    have e3 := (HX.out (m : Int)).2
                    subst e1
                    have HE := hid (⟨e2, e3⟩ : _ ∧ _)
                    clear e2 e3
                    go_wp2
                    refine Rg.wp_region (l := [_, _, _, _, _, _, _, _, _, _, _, _, _, _, _, _, _, _, _, _, _, _, _, _, _, _, _, _, _, _, _, _, _, _, _]) (tail := [_]) (Rg.grows _ 36) [some 143, some 144, some 145, some 146, some 147, some 148, some 149, some 150, some 151, some 152, some 153, some 154, some 155, some 156, some 157, some 158, some 159, some 160, some 161, some 162, some 163, some 164, some 165, some 166, some 167, some 168, some 169, some 170, some 171, some 172, some 173, some 174, some 175, some 176, some 177, some 178] 200 (by kernel_rfl) (by kernel_rfl) (by kernel_rfl) rfl (Rg.grows_fair _ _) (Rg.keep_drew _) (trivial) ?_
                    refine' Rg.op_is _ [] rfl rfl (by kernel_rfl) ?_ ?_
                    rotate_left
                    · intro wx hb
                      refine Rg.from_nil fun T hT => ?_
                      go_wp2
                      refine hT _ _ rfl (by first | exact Rg.Keep.refl _ | exact below_of_dr hw2 | exact hw2 | exact (Below.refl _ _).alloc (Nat.le_refl _) _) ?_
                      simp only [Rg.last, List.getElem?_toArray, List.getElem?_cons_succ, List.getElem?_cons_zero, Option.getD_some]
                      rfl
                    refine' Rg.op_is _ [] rfl rfl (by kernel_rfl) ?_ ?_
                    rotate_left
                    · intro wx hb
                      refine Rg.from_nil fun T hT => ?_
                      go_wp2
                      refine hT _ _ rfl (by first | exact Rg.Keep.refl _ | exact below_of_dr hw2 | exact hw2 | exact (Below.refl _ _).alloc (Nat.le_refl _) _) ?_
                      simp only [Rg.last, List.getElem?_toArray, List.getElem?_cons_succ, List.getElem?_cons_zero, Option.getD_some]
                      rfl
                    refine' Rg.op_is _ [] rfl rfl (by kernel_rfl) ?_ ?_
                    rotate_left
                    · intro wx hb
                      refine Rg.from_nil fun T hT => ?_
                      go_wp2
                      refine hT _ _ rfl (by first | exact Rg.Keep.refl _ | exact below_of_dr hw2 | exact hw2 | exact (Below.refl _ _).alloc (Nat.le_refl _) _) ?_
                      simp only [Rg.last, List.getElem?_toArray, List.getElem?_cons_succ, List.getElem?_cons_zero, Option.getD_some]
                      rfl
                    refine' Rg.op_is _ [1, 2] rfl rfl (by kernel_rfl) ?_ ?_
                    rotate_left
                    · intro wx hb
                      refine Rg.from_is (some 144) rfl rfl ?_
                      refine Rg.from_is (some 145) rfl rfl ?_
                      refine Rg.from_nil fun T hT => ?_
                      go_wp2
                      refine hT _ _ rfl (by first | exact Rg.Keep.refl _ | exact below_of_dr hw2 | exact hw2 | exact (Below.refl _ _).alloc (Nat.le_refl _) _) ?_
                      simp only [Rg.last, List.getElem?_toArray, List.getElem?_cons_succ, List.getElem?_cons_zero, Option.getD_some]
                      rfl
                    refine Rg.op_is (.int .u64 x) [3] rfl rfl (by kernel_rfl) ?_ ?_
                    · intro wx hb
                      refine Rg.from_is (some 146) rfl rfl ?_
                      refine Rg.from_nil fun T hT => ?_
                      have hc2 := (hb.cell (lt_of_cell hcm)).trans hcm
                      go_wp2
                      exact hT _ _ rfl (by first | exact Rg.Keep.refl _ | exact below_of_dr hw2 | exact hw2 | exact (Below.refl _ _).alloc (Nat.le_refl _) _) (by first | rfl | exact congrArg _ (by decide))
                    refine' Rg.op_is _ [] rfl rfl (by kernel_rfl) ?_ ?_
                    rotate_left
                    · intro wx hb
                      refine Rg.from_nil fun T hT => ?_
                      go_wp2
                      refine hT _ _ rfl (by first | exact Rg.Keep.refl _ | exact below_of_dr hw2 | exact hw2 | exact (Below.refl _ _).alloc (Nat.le_refl _) _) ?_
                      simp only [Rg.last, List.getElem?_toArray, List.getElem?_cons_succ, List.getElem?_cons_zero, Option.getD_some]
                      rfl
                    refine' Rg.op_is _ [] rfl rfl (by kernel_rfl) ?_ ?_
                    rotate_left
                    · intro wx hb
                      refine Rg.from_nil fun T hT => ?_
                      go_wp2
                      refine hT _ _ rfl (by first | exact Rg.Keep.refl _ | exact below_of_dr hw2 | exact hw2 | exact (Below.refl _ _).alloc (Nat.le_refl _) _) ?_
                      simp only [Rg.last, List.getElem?_toArray, List.getElem?_cons_succ, List.getElem?_cons_zero, Option.getD_some]
                      rfl
                    refine Rg.op_is (.int .u64 (mAt f x m q)) [0, 4, 5, 6] rfl rfl (by kernel_rfl) ?_ ?_
                    · intro wx hb
                      refine Rg.from_is (some 143) rfl rfl ?_
                      refine Rg.from_is (some 147) rfl rfl ?_
                      refine Rg.from_is (some 148) rfl rfl ?_
                      refine Rg.from_is (some 149) rfl rfl ?_
                      refine Rg.from_nil fun T hT => ?_
                      go_wp2_with (go_at_call 55; refine (at_c A6 G c6 x m q _ (hgm.below hb) (by omega) hGu hxu hmu hq).mono ?_; rintro e w5 ⟨rfl, hw5⟩)
                      rw [HE.out.1]
                      exact hT _ _ rfl hw5 rfl
                    refine' Rg.op_is _ [] rfl rfl (by kernel_rfl) ?_ ?_
                    rotate_left
                    · intro wx hb
                      refine Rg.from_nil fun T hT => ?_
                      go_wp2
                      refine hT _ _ rfl (by first | exact Rg.Keep.refl _ | exact below_of_dr hw2 | exact hw2 | exact (Below.refl _ _).alloc (Nat.le_refl _) _) ?_
                      simp only [Rg.last, List.getElem?_toArray, List.getElem?_cons_succ, List.getElem?_cons_zero, Option.getD_some]
                      rfl
                    refine' Rg.op_is _ [] rfl rfl (by kernel_rfl) ?_ ?_
                    rotate_left
                    · intro wx hb
                      refine Rg.from_nil fun T hT => ?_
                      go_wp2
                      refine hT _ _ rfl (by first | exact Rg.Keep.refl _ | exact below_of_dr hw2 | exact hw2 | exact (Below.refl _ _).alloc (Nat.le_refl _) _) ?_
                      simp only [Rg.last, List.getElem?_toArray, List.getElem?_cons_succ, List.getElem?_cons_zero, Option.getD_some]
                      rfl
                    refine' Rg.op_is _ [] rfl rfl (by kernel_rfl) ?_ ?_
                    rotate_left
                    · intro wx hb
                      refine Rg.from_nil fun T hT => ?_
                      go_wp2
                      refine hT _ _ rfl (by first | exact Rg.Keep.refl _ | exact below_of_dr hw2 | exact hw2 | exact (Below.refl _ _).alloc (Nat.le_refl _) _) ?_
                      simp only [Rg.last, List.getElem?_toArray, List.getElem?_cons_succ, List.getElem?_cons_zero, Option.getD_some]
                      rfl
                    refine' Rg.op_is _ [9, 10] rfl rfl (by kernel_rfl) ?_ ?_
                    rotate_left
                    · intro wx hb
                      refine Rg.from_is (some 152) rfl rfl ?_
                      refine Rg.from_is (some 153) rfl rfl ?_
                      refine Rg.from_nil fun T hT => ?_
                      go_wp2
                      refine hT _ _ rfl (by first | exact Rg.Keep.refl _ | exact below_of_dr hw2 | exact hw2 | exact (Below.refl _ _).alloc (Nat.le_refl _) _) ?_
                      simp only [Rg.last, List.getElem?_toArray, List.getElem?_cons_succ, List.getElem?_cons_zero, Option.getD_some]
                      rfl
                    refine Rg.op_is (.int .u64 x) [11] rfl rfl (by kernel_rfl) ?_ ?_
                    · intro wx hb
                      refine Rg.from_is (some 154) rfl rfl ?_
                      refine Rg.from_nil fun T hT => ?_
                      have hc2 := (hb.cell (lt_of_cell hcm)).trans hcm
                      go_wp2
                      exact hT _ _ rfl (by first | exact Rg.Keep.refl _ | exact below_of_dr hw2 | exact hw2 | exact (Below.refl _ _).alloc (Nat.le_refl _) _) (by first | rfl | exact congrArg _ (by decide))
                    refine' Rg.op_is _ [] rfl rfl (by kernel_rfl) ?_ ?_
                    rotate_left
                    · intro wx hb
                      refine Rg.from_nil fun T hT => ?_
                      go_wp2
                      refine hT _ _ rfl (by first | exact Rg.Keep.refl _ | exact below_of_dr hw2 | exact hw2 | exact (Below.refl _ _).alloc (Nat.le_refl _) _) ?_
                      simp only [Rg.last, List.getElem?_toArray, List.getElem?_cons_succ, List.getElem?_cons_zero, Option.getD_some]
                      rfl
                    refine' Rg.op_is _ [] rfl rfl (by kernel_rfl) ?_ ?_
                    rotate_left
                    · intro wx hb
                      refine Rg.from_nil fun T hT => ?_
                      go_wp2
                      refine hT _ _ rfl (by first | exact Rg.Keep.refl _ | exact below_of_dr hw2 | exact hw2 | exact (Below.refl _ _).alloc (Nat.le_refl _) _) ?_
                      simp only [Rg.last, List.getElem?_toArray, List.getElem?_cons_succ, List.getElem?_cons_zero, Option.getD_some]
                      rfl
                    refine Rg.op_is (.int .u64 (mAt f x m q)) [8, 12, 13, 14] rfl rfl (by kernel_rfl) ?_ ?_
                    · intro wx hb
                      refine Rg.from_is (some 151) rfl rfl ?_
                      refine Rg.from_is (some 155) rfl rfl ?_
                      refine Rg.from_is (some 156) rfl rfl ?_
                      refine Rg.from_is (some 157) rfl rfl ?_
                      refine Rg.from_nil fun T hT => ?_
                      go_wp2_with (go_at_call 55; refine (at_c A f ca x m q _ (hAm.below hb) (by omega) uf hxu hmu hq).mono ?_; rintro e w5 ⟨rfl, hw5⟩)
                      exact hT _ _ rfl hw5 rfl
                    refine Rg.op_is (.bool false) [7, 15] rfl rfl (by kernel_rfl) ?_ ?_
                    · intro wx hb
                      refine Rg.from_is (some 150) rfl rfl ?_
                      refine Rg.from_is (some 158) rfl rfl ?_
                      refine Rg.from_nil fun T hT => ?_
                      go_wp2
                      exact hT _ _ rfl (by first | exact Rg.Keep.refl _ | exact below_of_dr hw2 | exact hw2 | exact (Below.refl _ _).alloc (Nat.le_refl _) _) (by first | rfl | exact congrArg _ (by decide))
                    refine Rg.op_is (.bool false) [16] rfl rfl (by kernel_rfl) ?_ ?_
                    · intro wx hb
                      refine Rg.from_is (some 159) rfl rfl ?_
                      refine Rg.from_nil fun T hT => ?_
                      go_wp2
                      exact hT _ _ rfl (by first | exact Rg.Keep.refl _ | exact below_of_dr hw2 | exact hw2 | exact (Below.refl _ _).alloc (Nat.le_refl _) _) (by first | rfl | exact congrArg _ (by decide))
                    refine' Rg.op_is _ [] rfl rfl (by kernel_rfl) ?_ ?_
                    rotate_left
                    · intro wx hb
                      refine Rg.from_nil fun T hT => ?_
                      go_wp2
                      refine hT _ _ rfl (by first | exact Rg.Keep.refl _ | exact below_of_dr hw2 | exact hw2 | exact (Below.refl _ _).alloc (Nat.le_refl _) _) ?_
                      simp only [Rg.last, List.getElem?_toArray, List.getElem?_cons_succ, List.getElem?_cons_zero, Option.getD_some]
                      rfl
                    refine' Rg.op_is _ [] rfl rfl (by kernel_rfl) ?_ ?_
                    rotate_left
                    · intro wx hb
                      refine Rg.from_nil fun T hT => ?_
                      go_wp2
                      refine hT _ _ rfl (by first | exact Rg.Keep.refl _ | exact below_of_dr hw2 | exact hw2 | exact (Below.refl _ _).alloc (Nat.le_refl _) _) ?_
                      simp only [Rg.last, List.getElem?_toArray, List.getElem?_cons_succ, List.getElem?_cons_zero, Option.getD_some]
                      rfl
                    refine' Rg.op_is _ [] rfl rfl (by kernel_rfl) ?_ ?_
                    rotate_left
                    · intro wx hb
                      refine Rg.from_nil fun T hT => ?_
                      go_wp2
                      refine hT _ _ rfl (by first | exact Rg.Keep.refl _ | exact below_of_dr hw2 | exact hw2 | exact (Below.refl _ _).alloc (Nat.le_refl _) _) ?_
                      simp only [Rg.last, List.getElem?_toArray, List.getElem?_cons_succ, List.getElem?_cons_zero, Option.getD_some]
                      rfl
                    refine' Rg.op_is _ [] rfl rfl (by kernel_rfl) ?_ ?_
                    rotate_left
                    · intro wx hb
                      refine Rg.from_nil fun T hT => ?_
                      go_wp2
                      refine hT _ _ rfl (by first | exact Rg.Keep.refl _ | exact below_of_dr hw2 | exact hw2 | exact (Below.refl _ _).alloc (Nat.le_refl _) _) ?_
                      simp only [Rg.last, List.getElem?_toArray, List.getElem?_cons_succ, List.getElem?_cons_zero, Option.getD_some]
                      rfl
                    refine' Rg.op_is _ [20, 21] rfl rfl (by kernel_rfl) ?_ ?_
                    rotate_left
                    · intro wx hb
                      refine Rg.from_is (some 163) rfl rfl ?_
                      refine Rg.from_is (some 164) rfl rfl ?_
                      refine Rg.from_nil fun T hT => ?_
                      go_wp2
                      refine hT _ _ rfl (by first | exact Rg.Keep.refl _ | exact below_of_dr hw2 | exact hw2 | exact (Below.refl _ _).alloc (Nat.le_refl _) _) ?_
                      simp only [Rg.last, List.getElem?_toArray, List.getElem?_cons_succ, List.getElem?_cons_zero, Option.getD_some]
                      rfl
                    refine Rg.op_is (.int .u64 x) [22] rfl rfl (by kernel_rfl) ?_ ?_
                    · intro wx hb
                      refine Rg.from_is (some 165) rfl rfl ?_
                      refine Rg.from_nil fun T hT => ?_
                      have hc2 := (hb.cell (lt_of_cell hcm)).trans hcm
                      go_wp2
                      exact hT _ _ rfl (by first | exact Rg.Keep.refl _ | exact below_of_dr hw2 | exact hw2 | exact (Below.refl _ _).alloc (Nat.le_refl _) _) (by first | rfl | exact congrArg _ (by decide))
                    refine' Rg.op_is _ [] rfl rfl (by kernel_rfl) ?_ ?_
                    rotate_left
                    · intro wx hb
                      refine Rg.from_nil fun T hT => ?_
                      go_wp2
                      refine hT _ _ rfl (by first | exact Rg.Keep.refl _ | exact below_of_dr hw2 | exact hw2 | exact (Below.refl _ _).alloc (Nat.le_refl _) _) ?_
                      simp only [Rg.last, List.getElem?_toArray, List.getElem?_cons_succ, List.getElem?_cons_zero, Option.getD_some]
                      rfl
                    refine Rg.op_is (.int .u64 (mAt f m x q)) [18, 19, 23, 24] rfl rfl (by kernel_rfl) ?_ ?_
                    · intro wx hb
                      refine Rg.from_is (some 161) rfl rfl ?_
                      refine Rg.from_is (some 162) rfl rfl ?_
                      refine Rg.from_is (some 166) rfl rfl ?_
                      refine Rg.from_is (some 167) rfl rfl ?_
                      refine Rg.from_nil fun T hT => ?_
                      go_wp2_with (go_at_call 55; refine (at_c A6 G c6 m x q _ (hgm.below hb) (by omega) hGu hmu hxu hq).mono ?_; rintro e w5 ⟨rfl, hw5⟩)
                      rw [HE.out.2]
                      exact hT _ _ rfl hw5 rfl
                    refine' Rg.op_is _ [] rfl rfl (by kernel_rfl) ?_ ?_
                    rotate_left
                    · intro wx hb
                      refine Rg.from_nil fun T hT => ?_
                      go_wp2
                      refine hT _ _ rfl (by first | exact Rg.Keep.refl _ | exact below_of_dr hw2 | exact hw2 | exact (Below.refl _ _).alloc (Nat.le_refl _) _) ?_
                      simp only [Rg.last, List.getElem?_toArray, List.getElem?_cons_succ, List.getElem?_cons_zero, Option.getD_some]
                      rfl
                    refine' Rg.op_is _ [] rfl rfl (by kernel_rfl) ?_ ?_
                    rotate_left
                    · intro wx hb
                      refine Rg.from_nil fun T hT => ?_
                      go_wp2
                      refine hT _ _ rfl (by first | exact Rg.Keep.refl _ | exact below_of_dr hw2 | exact hw2 | exact (Below.refl _ _).alloc (Nat.le_refl _) _) ?_
                      simp only [Rg.last, List.getElem?_toArray, List.getElem?_cons_succ, List.getElem?_cons_zero, Option.getD_some]
                      rfl
                    refine' Rg.op_is _ [] rfl rfl (by kernel_rfl) ?_ ?_
                    rotate_left
                    · intro wx hb
                      refine Rg.from_nil fun T hT => ?_
                      go_wp2
                      refine hT _ _ rfl (by first | exact Rg.Keep.refl _ | exact below_of_dr hw2 | exact hw2 | exact (Below.refl _ _).alloc (Nat.le_refl _) _) ?_
                      simp only [Rg.last, List.getElem?_toArray, List.getElem?_cons_succ, List.getElem?_cons_zero, Option.getD_some]
                      rfl
                    refine' Rg.op_is _ [] rfl rfl (by kernel_rfl) ?_ ?_
                    rotate_left
                    · intro wx hb
                      refine Rg.from_nil fun T hT => ?_
                      go_wp2
                      refine hT _ _ rfl (by first | exact Rg.Keep.refl _ | exact below_of_dr hw2 | exact hw2 | exact (Below.refl _ _).alloc (Nat.le_refl _) _) ?_
                      simp only [Rg.last, List.getElem?_toArray, List.getElem?_cons_succ, List.getElem?_cons_zero, Option.getD_some]
                      rfl
                    refine' Rg.op_is _ [28, 29] rfl rfl (by kernel_rfl) ?_ ?_
                    rotate_left
                    · intro wx hb
                      refine Rg.from_is (some 171) rfl rfl ?_
                      refine Rg.from_is (some 172) rfl rfl ?_
                      refine Rg.from_nil fun T hT => ?_
                      go_wp2
                      refine hT _ _ rfl (by first | exact Rg.Keep.refl _ | exact below_of_dr hw2 | exact hw2 | exact (Below.refl _ _).alloc (Nat.le_refl _) _) ?_
                      simp only [Rg.last, List.getElem?_toArray, List.getElem?_cons_succ, List.getElem?_cons_zero, Option.getD_some]
                      rfl
                    refine Rg.op_is (.int .u64 x) [30] rfl rfl (by kernel_rfl) ?_ ?_
                    · intro wx hb
                      refine Rg.from_is (some 173) rfl rfl ?_
                      refine Rg.from_nil fun T hT => ?_
                      have hc2 := (hb.cell (lt_of_cell hcm)).trans hcm
                      go_wp2
                      exact hT _ _ rfl (by first | exact Rg.Keep.refl _ | exact below_of_dr hw2 | exact hw2 | exact (Below.refl _ _).alloc (Nat.le_refl _) _) (by first | rfl | exact congrArg _ (by decide))
                    refine' Rg.op_is _ [] rfl rfl (by kernel_rfl) ?_ ?_
                    rotate_left
                    · intro wx hb
                      refine Rg.from_nil fun T hT => ?_
                      go_wp2
                      refine hT _ _ rfl (by first | exact Rg.Keep.refl _ | exact below_of_dr hw2 | exact hw2 | exact (Below.refl _ _).alloc (Nat.le_refl _) _) ?_
                      simp only [Rg.last, List.getElem?_toArray, List.getElem?_cons_succ, List.getElem?_cons_zero, Option.getD_some]
                      rfl
                    refine Rg.op_is (.int .u64 (mAt f m x q)) [26, 27, 31, 32] rfl rfl (by kernel_rfl) ?_ ?_
                    · intro wx hb
                      refine Rg.from_is (some 169) rfl rfl ?_
                      refine Rg.from_is (some 170) rfl rfl ?_
                      refine Rg.from_is (some 174) rfl rfl ?_
                      refine Rg.from_is (some 175) rfl rfl ?_
                      refine Rg.from_nil fun T hT => ?_
                      go_wp2_with (go_at_call 55; refine (at_c A f ca m x q _ (hAm.below hb) (by omega) uf hmu hxu hq).mono ?_; rintro e w5 ⟨rfl, hw5⟩)
                      exact hT _ _ rfl hw5 rfl
                    refine Rg.op_is (.bool false) [25, 33] rfl rfl (by kernel_rfl) ?_ ?_
                    · intro wx hb
                      refine Rg.from_is (some 168) rfl rfl ?_
                      refine Rg.from_is (some 176) rfl rfl ?_
                      refine Rg.from_nil fun T hT => ?_
                      go_wp2
                      exact hT _ _ rfl (by first | exact Rg.Keep.refl _ | exact below_of_dr hw2 | exact hw2 | exact (Below.refl _ _).alloc (Nat.le_refl _) _) (by first | rfl | exact congrArg _ (by decide))
                    refine Rg.walk_nil [0, 1, 2, 3, 4, 5, 6, 7, 8, 9, 10, 11, 12, 13, 14, 15, 16, 17, 18, 19, 20, 21, 22, 23, 24, 25, 26, 27, 28, 29, 30, 31, 32, 33, 34] (by kernel_rfl) ?_
                    intro wx hb
                    refine Rg.from_is (some 143) rfl rfl ?_
                    refine Rg.from_is (some 144) rfl rfl ?_
                    refine Rg.from_is (some 145) rfl rfl ?_
                    refine Rg.from_is (some 146) rfl rfl ?_
                    refine Rg.from_is (some 147) rfl rfl ?_
                    refine Rg.from_is (some 148) rfl rfl ?_
                    refine Rg.from_is (some 149) rfl rfl ?_
                    refine Rg.from_is (some 150) rfl rfl ?_
                    refine Rg.from_is (some 151) rfl rfl ?_
                    refine Rg.from_is (some 152) rfl rfl ?_
                    refine Rg.from_is (some 153) rfl rfl ?_
                    refine Rg.from_is (some 154) rfl rfl ?_
                    refine Rg.from_is (some 155) rfl rfl ?_
                    refine Rg.from_is (some 156) rfl rfl ?_
                    refine Rg.from_is (some 157) rfl rfl ?_
                    refine Rg.from_is (some 158) rfl rfl ?_
                    refine Rg.from_is (some 159) rfl rfl ?_
                    refine Rg.from_is (some 160) rfl rfl ?_
                    refine Rg.from_is (some 161) rfl rfl ?_
                    refine Rg.from_is (some 162) rfl rfl ?_
                    refine Rg.from_is (some 163) rfl rfl ?_
                    refine Rg.from_is (some 164) rfl rfl ?_
                    refine Rg.from_is (some 165) rfl rfl ?_
                    refine Rg.from_is (some 166) rfl rfl ?_
                    refine Rg.from_is (some 167) rfl rfl ?_
                    refine Rg.from_is (some 168) rfl rfl ?_
                    refine Rg.from_is (some 169) rfl rfl ?_
                    refine Rg.from_is (some 170) rfl rfl ?_
                    refine Rg.from_is (some 171) rfl rfl ?_
                    refine Rg.from_is (some 172) rfl rfl ?_
                    refine Rg.from_is (some 173) rfl rfl ?_
                    refine Rg.from_is (some 174) rfl rfl ?_
                    refine Rg.from_is (some 175) rfl rfl ?_
                    refine Rg.from_is (some 176) rfl rfl ?_
                    refine Rg.from_is (some 177) rfl rfl ?_
                    refine Rg.from_nil ?_
                    simp only [List.map, Act.put, List.setIfInBounds_toArray, List.set_cons_zero, List.set_cons_succ]
                    replace hw1 := below_next hw1 hw1.size hb
                    clear hb hgm hAm hcm
                    go_wp2
                    go_roundw
                    case rel => exact ⟨m + 1, by go_num, by omega, hw1⟩
                    case measure => simp [intOf]; omega
                  · obtain rfl : m = 9 := by omega
                    subst e1
                    have e2 := (HX.out more).1
                    rw [← cross_val, ← cross_val] at e2
                    have HE := hid e2
                    have hrG := mRow_u64 G x q
                    have hrF := mRow_u64 f x q
                    have hlG : (mRow G x q).length ≤ 20 := by rw [mRow_len]; omega
                    have hlF : (mRow f x q).length ≤ 20 := by rw [mRow_len]; omega
                    have HBG := hid (fun w (h : Below w8.heap.size w8 w) => brow_c A6 G c6 x q w (hg6.below h) (by omega) (by omega) hGu hxu hq)
                    have HBF := hid (fun w (h : Below w8.heap.size w8 w) => brow_c A f ca x q w (hA8.below h) (by omega) (by omega) uf hxu hq)
                    generalize mRow G x q = rG at *
                    generalize mRow f x q = rF at *
                    clear e2 hgm hAm
                    go_wp2
                    refine Rg.wp_region (l := [_, _, _, _, _, _, _, _, _, _, _, _, _, _, _, _, _, _, _, _]) (tail := [_]) (Rg.grows _ 21) [some 179, some 180, some 181, some 182, some 183, some 184, some 185, some 186, some 187, some 188, some 189, some 190, some 191, some 192, some 193, some 194, some 195, some 196, some 197, some 198, some 199] 200 (by kernel_rfl) (by kernel_rfl) (by kernel_rfl) rfl (Rg.grows_fair _ _) (Rg.keep_drew _) (trivial) ?_
                    refine' Rg.op_is _ [] rfl rfl (by kernel_rfl) ?_ ?_
                    rotate_left
                    · intro wx hb
                      refine Rg.from_nil fun T hT => ?_
                      go_wp2
                      refine hT _ _ rfl (by first | exact Rg.Keep.refl _ | exact below_of_dr hw2 | exact hw2 | exact (Below.refl _ _).alloc (Nat.le_refl _) _) ?_
                      simp only [Rg.last, List.getElem?_toArray, List.getElem?_cons_succ, List.getElem?_cons_zero, Option.getD_some]
                      rfl
                    refine' Rg.op_is _ [] rfl rfl (by kernel_rfl) ?_ ?_
                    rotate_left
                    · intro wx hb
                      refine Rg.from_nil fun T hT => ?_
                      go_wp2
                      refine hT _ _ rfl (by first | exact Rg.Keep.refl _ | exact below_of_dr hw2 | exact hw2 | exact (Below.refl _ _).alloc (Nat.le_refl _) _) ?_
                      simp only [Rg.last, List.getElem?_toArray, List.getElem?_cons_succ, List.getElem?_cons_zero, Option.getD_some]
                      rfl
                    refine' Rg.op_is _ [] rfl rfl (by kernel_rfl) ?_ ?_
                    rotate_left
                    · intro wx hb
                      refine Rg.from_nil fun T hT => ?_
                      go_wp2
                      refine hT _ _ rfl (by first | exact Rg.Keep.refl _ | exact below_of_dr hw2 | exact hw2 | exact (Below.refl _ _).alloc (Nat.le_refl _) _) ?_
                      simp only [Rg.last, List.getElem?_toArray, List.getElem?_cons_succ, List.getElem?_cons_zero, Option.getD_some]
                      rfl
                    refine' Rg.op_is _ [1, 2] rfl rfl (by kernel_rfl) ?_ ?_
                    rotate_left
                    · intro wx hb
                      refine Rg.from_is (some 180) rfl rfl ?_
                      refine Rg.from_is (some 181) rfl rfl ?_
                      refine Rg.from_nil fun T hT => ?_
                      go_wp2
                      refine hT _ _ rfl (by first | exact Rg.Keep.refl _ | exact below_of_dr hw2 | exact hw2 | exact (Below.refl _ _).alloc (Nat.le_refl _) _) ?_
                      simp only [Rg.last, List.getElem?_toArray, List.getElem?_cons_succ, List.getElem?_cons_zero, Option.getD_some]
                      rfl
                    refine Rg.op_is (.int .u64 x) [3] rfl rfl (by kernel_rfl) ?_ ?_
                    · intro wx hb
                      refine Rg.from_is (some 182) rfl rfl ?_
                      refine Rg.from_nil fun T hT => ?_
                      have hc2 := (hb.cell (lt_of_cell hcm)).trans hcm
                      go_wp2
                      exact hT _ _ rfl (by first | exact Rg.Keep.refl _ | exact below_of_dr hw2 | exact hw2 | exact (Below.refl _ _).alloc (Nat.le_refl _) _) (by first | rfl | exact congrArg _ (by decide))
                    refine' Rg.op_is _ [] rfl rfl (by kernel_rfl) ?_ ?_
                    rotate_left
                    · intro wx hb
                      refine Rg.from_nil fun T hT => ?_
                      go_wp2
                      refine hT _ _ rfl (by first | exact Rg.Keep.refl _ | exact below_of_dr hw2 | exact hw2 | exact (Below.refl _ _).alloc (Nat.le_refl _) _) ?_
                      simp only [Rg.last, List.getElem?_toArray, List.getElem?_cons_succ, List.getElem?_cons_zero, Option.getD_some]
                      rfl
                    refine Rg.op_of (fun w' v => RowU w' v rG) [0, 4, 5] rfl ?_ ?_ rfl (by kernel_rfl) ?_ ?_
                    · exact fun w1 w2 v hk h => h.below hk
                    · exact fun w1 w2 v hk h => h.below hk
                    · intro wx hb
                      refine Rg.from_is (some 179) rfl rfl ?_
                      refine Rg.from_is (some 183) rfl rfl ?_
                      refine Rg.from_is (some 184) rfl rfl ?_
                      refine Rg.from_nil fun T hT => ?_
                      go_wp2_with (go_at_call 48; refine (HBG.out _ (below_next hw1 hw1.size hb)).mono ?_; rintro e w5 ⟨v5, rfl, ho5, hw5⟩)
                      exact hT _ _ rfl hw5 (rowU_own ho5)
                    refine' Rg.op_is _ [] rfl rfl (by kernel_rfl) ?_ ?_
                    rotate_left
                    · intro wx hb
                      refine Rg.from_nil fun T hT => ?_
                      go_wp2
                      refine hT _ _ rfl (by first | exact Rg.Keep.refl _ | exact below_of_dr hw2 | exact hw2 | exact (Below.refl _ _).alloc (Nat.le_refl _) _) ?_
                      simp only [Rg.last, List.getElem?_toArray, List.getElem?_cons_succ, List.getElem?_cons_zero, Option.getD_some]
                      rfl
                    refine' Rg.op_is _ [] rfl rfl (by kernel_rfl) ?_ ?_
                    rotate_left
                    · intro wx hb
                      refine Rg.from_nil fun T hT => ?_
                      go_wp2
                      refine hT _ _ rfl (by first | exact Rg.Keep.refl _ | exact below_of_dr hw2 | exact hw2 | exact (Below.refl _ _).alloc (Nat.le_refl _) _) ?_
                      simp only [Rg.last, List.getElem?_toArray, List.getElem?_cons_succ, List.getElem?_cons_zero, Option.getD_some]
                      rfl
                    refine Rg.op_is (.int .u64 (mEval rF more q)) [6, 7, 8] rfl rfl (by kernel_rfl) ?_ ?_
                    · intro wx hb
                      refine Rg.from_of (some 185) rfl rfl fun v185 h185 => ?_
                      refine Rg.from_is (some 186) rfl rfl ?_
                      refine Rg.from_is (some 187) rfl rfl ?_
                      refine Rg.from_nil fun T hT => ?_
                      obtain ⟨A9, c9, rfl, hc9⟩ := h185
                      go_wp2_with (go_at_call 50; refine (eval_c A9 rG c9 more q _ hc9 (by omega) hrG hm hq).mono ?_; rintro e w5 ⟨rfl, hw5⟩)
                      rw [HE.out]
                      exact hT _ _ rfl (below_of_dr hw5) rfl
                    refine' Rg.op_is _ [] rfl rfl (by kernel_rfl) ?_ ?_
                    rotate_left
                    · intro wx hb
                      refine Rg.from_nil fun T hT => ?_
                      go_wp2
                      refine hT _ _ rfl (by first | exact Rg.Keep.refl _ | exact below_of_dr hw2 | exact hw2 | exact (Below.refl _ _).alloc (Nat.le_refl _) _) ?_
                      simp only [Rg.last, List.getElem?_toArray, List.getElem?_cons_succ, List.getElem?_cons_zero, Option.getD_some]
                      rfl
                    refine' Rg.op_is _ [] rfl rfl (by kernel_rfl) ?_ ?_
                    rotate_left
                    · intro wx hb
                      refine Rg.from_nil fun T hT => ?_
                      go_wp2
                      refine hT _ _ rfl (by first | exact Rg.Keep.refl _ | exact below_of_dr hw2 | exact hw2 | exact (Below.refl _ _).alloc (Nat.le_refl _) _) ?_
                      simp only [Rg.last, List.getElem?_toArray, List.getElem?_cons_succ, List.getElem?_cons_zero, Option.getD_some]
                      rfl
                    refine' Rg.op_is _ [] rfl rfl (by kernel_rfl) ?_ ?_
                    rotate_left
                    · intro wx hb
                      refine Rg.from_nil fun T hT => ?_
                      go_wp2
                      refine hT _ _ rfl (by first | exact Rg.Keep.refl _ | exact below_of_dr hw2 | exact hw2 | exact (Below.refl _ _).alloc (Nat.le_refl _) _) ?_
                      simp only [Rg.last, List.getElem?_toArray, List.getElem?_cons_succ, List.getElem?_cons_zero, Option.getD_some]
                      rfl
                    refine' Rg.op_is _ [11, 12] rfl rfl (by kernel_rfl) ?_ ?_
                    rotate_left
                    · intro wx hb
                      refine Rg.from_is (some 190) rfl rfl ?_
                      refine Rg.from_is (some 191) rfl rfl ?_
                      refine Rg.from_nil fun T hT => ?_
                      go_wp2
                      refine hT _ _ rfl (by first | exact Rg.Keep.refl _ | exact below_of_dr hw2 | exact hw2 | exact (Below.refl _ _).alloc (Nat.le_refl _) _) ?_
                      simp only [Rg.last, List.getElem?_toArray, List.getElem?_cons_succ, List.getElem?_cons_zero, Option.getD_some]
                      rfl
                    refine Rg.op_is (.int .u64 x) [13] rfl rfl (by kernel_rfl) ?_ ?_
                    · intro wx hb
                      refine Rg.from_is (some 192) rfl rfl ?_
                      refine Rg.from_nil fun T hT => ?_
                      have hc2 := (hb.cell (lt_of_cell hcm)).trans hcm
                      go_wp2
                      exact hT _ _ rfl (by first | exact Rg.Keep.refl _ | exact below_of_dr hw2 | exact hw2 | exact (Below.refl _ _).alloc (Nat.le_refl _) _) (by first | rfl | exact congrArg _ (by decide))
                    refine' Rg.op_is _ [] rfl rfl (by kernel_rfl) ?_ ?_
                    rotate_left
                    · intro wx hb
                      refine Rg.from_nil fun T hT => ?_
                      go_wp2
                      refine hT _ _ rfl (by first | exact Rg.Keep.refl _ | exact below_of_dr hw2 | exact hw2 | exact (Below.refl _ _).alloc (Nat.le_refl _) _) ?_
                      simp only [Rg.last, List.getElem?_toArray, List.getElem?_cons_succ, List.getElem?_cons_zero, Option.getD_some]
                      rfl
                    refine Rg.op_of (fun w' v => RowU w' v rF) [10, 14, 15] rfl ?_ ?_ rfl (by kernel_rfl) ?_ ?_
                    · exact fun w1 w2 v hk h => h.below hk
                    · exact fun w1 w2 v hk h => h.below hk
                    · intro wx hb
                      refine Rg.from_is (some 189) rfl rfl ?_
                      refine Rg.from_is (some 193) rfl rfl ?_
                      refine Rg.from_is (some 194) rfl rfl ?_
                      refine Rg.from_nil fun T hT => ?_
                      go_wp2_with (go_at_call 48; refine (HBF.out _ (below_next hw1 hw1.size hb)).mono ?_; rintro e w5 ⟨v5, rfl, ho5, hw5⟩)
                      exact hT _ _ rfl hw5 (rowU_own ho5)
                    refine' Rg.op_is _ [] rfl rfl (by kernel_rfl) ?_ ?_
                    rotate_left
                    · intro wx hb
                      refine Rg.from_nil fun T hT => ?_
                      go_wp2
                      refine hT _ _ rfl (by first | exact Rg.Keep.refl _ | exact below_of_dr hw2 | exact hw2 | exact (Below.refl _ _).alloc (Nat.le_refl _) _) ?_
                      simp only [Rg.last, List.getElem?_toArray, List.getElem?_cons_succ, List.getElem?_cons_zero, Option.getD_some]
                      rfl
                    refine' Rg.op_is _ [] rfl rfl (by kernel_rfl) ?_ ?_
                    rotate_left
                    · intro wx hb
                      refine Rg.from_nil fun T hT => ?_
                      go_wp2
                      refine hT _ _ rfl (by first | exact Rg.Keep.refl _ | exact below_of_dr hw2 | exact hw2 | exact (Below.refl _ _).alloc (Nat.le_refl _) _) ?_
                      simp only [Rg.last, List.getElem?_toArray, List.getElem?_cons_succ, List.getElem?_cons_zero, Option.getD_some]
                      rfl
                    refine Rg.op_is (.int .u64 (mEval rF more q)) [16, 17, 18] rfl rfl (by kernel_rfl) ?_ ?_
                    · intro wx hb
                      refine Rg.from_of (some 195) rfl rfl fun v195 h195 => ?_
                      refine Rg.from_is (some 196) rfl rfl ?_
                      refine Rg.from_is (some 197) rfl rfl ?_
                      refine Rg.from_nil fun T hT => ?_
                      obtain ⟨A9, c9, rfl, hc9⟩ := h195
                      go_wp2_with (go_at_call 50; refine (eval_c A9 rF c9 more q _ hc9 (by omega) hrF hm hq).mono ?_; rintro e w5 ⟨rfl, hw5⟩)
                      exact hT _ _ rfl (below_of_dr hw5) rfl
                    refine Rg.walk_nil [0, 1, 2, 3, 4, 5, 6, 7, 8, 9, 10, 11, 12, 13, 14, 15, 16, 17, 18, 19] (by kernel_rfl) ?_
                    intro wx hb
                    refine Rg.from_is (some 179) rfl rfl ?_
                    refine Rg.from_is (some 180) rfl rfl ?_
                    refine Rg.from_is (some 181) rfl rfl ?_
                    refine Rg.from_is (some 182) rfl rfl ?_
                    refine Rg.from_is (some 183) rfl rfl ?_
                    refine Rg.from_is (some 184) rfl rfl ?_
                    refine Rg.from_of (some 185) rfl rfl fun v185 h185 => ?_
                    refine Rg.from_is (some 186) rfl rfl ?_
                    refine Rg.from_is (some 187) rfl rfl ?_
                    refine Rg.from_is (some 188) rfl rfl ?_
                    refine Rg.from_is (some 189) rfl rfl ?_
                    refine Rg.from_is (some 190) rfl rfl ?_
                    refine Rg.from_is (some 191) rfl rfl ?_
                    refine Rg.from_is (some 192) rfl rfl ?_
                    refine Rg.from_is (some 193) rfl rfl ?_
                    refine Rg.from_is (some 194) rfl rfl ?_
                    refine Rg.from_of (some 195) rfl rfl fun v195 h195 => ?_
                    refine Rg.from_is (some 196) rfl rfl ?_
                    refine Rg.from_is (some 197) rfl rfl ?_
                    refine Rg.from_is (some 198) rfl rfl ?_
                    refine Rg.from_nil ?_
                    simp only [List.map, Act.put, List.setIfInBounds_toArray, List.set_cons_zero, List.set_cons_succ]
                    have hb9 := below_next hw1 hw1.size hb
                    clear hb hcm
                    go_wp2
                    go_roundw
                    case rel => exact ⟨n + 1, by go_num, by omega, hb9⟩
                    case measure => simp [intOf]; omega
              · obtain rfl : n = xs.length := by omega
                go_wp2
                go_ret
                exact ⟨rfl, below_next hb2 hb2.size hw⟩
end Go.Proofs.YtcojnjhffmhbiaaDoor
end
