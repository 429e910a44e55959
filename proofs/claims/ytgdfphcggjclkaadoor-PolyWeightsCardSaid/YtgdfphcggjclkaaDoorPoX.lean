/-
  PolyRoots, PolyOnly: what the program does, modulo a prime.
  PolyOnly: what the program does, modulo a prime.
  PolyWeights: what the program does, modulo a prime.
-/
import Derived.Test.YtgdfphcggjclkaaDoorPoP
import Derived.Test.YtgdfphcggjclkaaDoorMore

section
namespace Go.Proofs.YtgdfphcggjclkaaDoor
open Go Go.RowKit Go.Maps Go.Shelf Go.Proofs

theorem uniqL_u64 {xs : List Int} {most q : Int} (h : U64s xs) : U64s (uniqL xs most q) := fun z hz => h z (uniqL_mem hz)
set_option maxRecDepth 100000 in
set_option maxHeartbeats 4000000 in
theorem polyRoots_c (A : Option Addr) (c : List Int) (ca : Nat) (B : Option Addr) (roots : List Int) (cb : Nat) (C : Option Addr) (xs : List Int) (cc : Nat) (n : Int) (w : World)
    (hA : Cells w A (u64v c)) (lc : c.length ≤ 9223372036854775807) (uc : U64s c) (hB : Cells w B (u64v roots)) (lr : roots.length ≤ 9223372036854775807) (ur : U64s roots) (hC : Cells w C (u64v xs)) (lx : xs.length ≤ 9223372036854775807) (ux : U64s xs)
    (hn : U64 n) (hT : Tabs w) (hp : ∀ {q : Int}, primeV q = true → Go.Psi.Pr q.toNat) :
    Calls Tryd.prog 4 #[.slice A c.length ca, .slice B roots.length cb, .slice C xs.length cc, .int .u64 n] w fun e w' => e = .returned (.bool true) ∧ Below w.heap.size w w' := by
  have HW := hid (fun w' => awake03_c w')
  go_enter Tryd.func4, Tryd.ntmps4
  by_cases h1 : c.length ≤ 20
  case neg =>
    go_wp2_with (fail)
    refine (HW.out w).mono ?_
    rintro e w2 ⟨rfl, hb⟩
    go_wp2
    go_ret
    exact ⟨rfl, hb⟩
  by_cases h2 : roots.length ≤ 12
  case neg =>
    go_wp2_with (fail)
    refine (HW.out w).mono ?_
    rintro e w2 ⟨rfl, hb⟩
    go_wp2
    go_ret
    exact ⟨rfl, hb⟩
  by_cases h3 : xs.length ≤ 60
  case neg =>
    go_wp2_with (fail)
    refine (HW.out w).mono ?_
    rintro e w2 ⟨rfl, hb⟩
    go_wp2
    go_ret
    exact ⟨rfl, hb⟩
  go_wp2_with (fail)
  refine (HW.out w).mono ?_
  rintro e w2 ⟨rfl, hb2⟩
  clear HW
  go_wp2_with (fail)
  refine (prime03_c n hn w2 (hT.below hb2)).mono ?_
  rintro e w3 ⟨rfl, hb⟩
  replace hb2 := below_next hb2 hb2.size hb
  clear hb
  have hpv := primeP_ok hn
  have hq := primeP_u64 hn
  generalize primeP n = q at *
  obtain ⟨hok, hq2⟩ := okm_prime hpv
  have hpr := hp hpv
  have HP := hid (⟨hok, hq2, hpr⟩ : _ ∧ _ ∧ _)
  clear hpv hpr hp
  go_wp2
  go_loopw [0, 10] (fun cv i wr => ∃ k : Nat, i = .int .i64 k ∧ k ≤ roots.length ∧ (∃ A' c', cv = .slice A' (rootsP c (roots.take k) q).length c' ∧ Cells wr A' (u64v (rootsP c (roots.take k) q))) ∧ Below w.heap.size w wr) (fun _ i _ => roots.length - (intOf i).toNat)
  case atStart => exact ⟨0, rfl, by omega, ⟨A, ca, rfl, hA.below hb2⟩, hb2⟩
  case round =>
    obtain ⟨k, rfl, hk, ⟨A', c', rfl, hc'⟩, hw⟩ := hrel
    have hcl := rootsP_len q (roots.take k) c
    have hcu := rootsP_u64 (q := q) (roots.take k) uc
    have htk : (roots.take k).length = k := by rw [List.length_take]; omega
    rw [htk] at hcl
    by_cases hlt : k < roots.length
    · obtain ⟨r, hz⟩ := get_of_lt hlt
      obtain ⟨b, off, rfl, hcell⟩ := (hB.below hw).at_map hz
      have hru := ur r (List.mem_of_getElem? hz)
      have HS := hid (rootsP_take hz c q)
      clear hz htk
      generalize hO : rootsP c (roots.take k) q = o at *
      have HO := hid hO
      clear hO
      go_wp2_with (fail)
      refine (sub_c 0 r q ⟨by decide, by decide⟩ hru hq wr).mono ?_
      rintro e w4 ⟨rfl, hd⟩
      have hw4 := below_dr hw hd
      replace hc' := hc'.dr hd
      have hsu := mSub_u64 0 r q
      clear hd
      generalize mSub 0 r q = s at *
      go_wp2_with (fail)
      refine (ptimes_c A' _ o [s, 1] c' 2 q _ (hc'.below (below_alloc w4 (.cells #[.int .u64 s, .int .u64 1] 23))) (row1_new w4 [.int .u64 s, .int .u64 1] 23).cells (by omega) (by simp) hcu (fun z hz => by
        rcases List.mem_cons.1 hz with rfl | hz
        · exact hsu
        · rw [List.mem_singleton.1 hz]; exact ⟨by decide, by decide⟩) hq).mono ?_
      rintro e w5 ⟨v, rfl, ho, hb⟩
      have hw5 := below_next hw4 hw4.size ((below_alloc w4 (.cells #[.int .u64 s, .int .u64 1] 23)).trans (hb.mono (by simp)))
      clear hb hw4
      obtain ⟨A5, c5, rfl, hc5⟩ := ho.form
      rw [List.length_map] at *
      go_wp2
      go_roundw
      case rel => exact ⟨k + 1, by go_num, by omega, ⟨A5, c5, by rw [HS.out], by rw [HS.out]; exact hc5⟩, hw5⟩
      case measure => simp [intOf]; omega
    · obtain rfl : k = roots.length := by omega
      rw [List.take_length] at *
      have hz0 : ∀ x ∈ roots, mEval (rootsP c roots q) x q = 0 := fun x hx => by
        rw [mEval_ok HP.out.1]
        exact rootsP_zero HP.out.1 x roots c (.inr ⟨x, hx, rfl⟩)
      generalize hO : rootsP c roots q = o at *
      clear hO
      go_wp2_with (fail)
      refine (pdeg_c A' o c' q wr hc' (by omega) hcu hq).mono ?_
      rintro e w6 ⟨rfl, rfl⟩
      have HD := hid (fun (h : pDeg o q < 0) X => deg_none HP.out.1 h X)
      have hfew := fun (d : Nat) (hd : pDeg o q = d) k => zeros_le HP.out.1 hd ((uniq_two (roots ++ xs) 80 q).apart HP.out.2.1 HP.out.2.2) k
      have HF := hid hfew
      clear hfew
      generalize pDeg o q = d at *
      have ho0 := (row1_new wr [] 23).own (Nat.le_refl _) (by decide)
      have hb0 := below_alloc wr (.cells [].toArray 23)
      simp only [List.toArray, List.length_nil] at ho0 hb0
      have lu : ∀ (l : List Int), (u64v l).length = l.length := fun l => by simp [u64v]
      have o1 : ∀ (l : List Int), ∀ u ∈ u64v l, u.oneCell' = true := fun l u hu => by
        obtain ⟨z, _, rfl⟩ := List.mem_map.1 hu
        rfl
      have HL := hid (⟨lu, o1⟩ : _ ∧ _)
      clear lu o1
      have hB' := hB.below hw
      have hC' := hC.below hw
      go_wp2_with (first
        | (at_builtin; refine wpList_more elt_u64 (wr.alloc (.cells #[] 23)) (by rfl) _ _ rfl wr.heap.size ho0 rfl (hB'.below hb0) (by rw [HL.out.1]; rfl) (HL.out.2 _) (by rw [HL.out.1]; simp; omega) (by rw [HL.out.1]; simp; omega) hb0.size ?_; intro v1 w7 ho1 hb1; replace hb1 := hb0.trans hb1; clear hb0 ho0)
        | (at_builtin; refine wpList_more elt_u64 w7 (by rfl) _ _ rfl wr.heap.size ho1 rfl (hC'.below hb1) (by rw [HL.out.1]; rfl) (HL.out.2 _) (by rw [HL.out.1, List.nil_append, HL.out.1]; omega) (by rw [HL.out.1, List.nil_append, HL.out.1]; omega) hb1.size ?_; intro v2 w8 ho2 hb2'; replace hb2' := hb1.trans hb2'; clear hb1 ho1))
      obtain ⟨A8, c8, rfl, hc8⟩ := ho2.form
      have hcat : [] ++ u64v roots ++ u64v xs = u64v (roots ++ xs) := by simp [u64v]
      rw [hcat] at hc8
      rw [hcat, HL.out.1]
      have hll : (roots ++ xs).length ≤ 72 := by rw [List.length_append]; omega
      have huu : U64s (roots ++ xs) := fun z hz => (List.mem_append.1 hz).elim (ur z) (ux z)
      have hpre := fun i x (h : (uniqL (roots ++ xs) 80 q)[i]? = some x) (hi : i < (uniqL roots 80 q).length) => hz0 x (uniq_pre h hi)
      have HPR := hid hpre
      have how := uniqL_u64 (most := 80) (q := q) huu
      have hol := uniqL_len (roots ++ xs) 80 q
      clear hpre hz0 hcat ho2
      generalize hF : roots ++ xs = F at *
      clear hF
      refine (unlike03_c A8 F c8 80 q w8 hc8 (by omega) huu hq (by have := HP.out.2.1; omega) ⟨by decide, by decide⟩).mono ?_
      rintro e w9 ⟨v9, rfl, ho9, hb⟩
      replace hb2' := below_next hb2' hb2'.size hb
      clear hb hc8
      obtain ⟨A9, c9, rfl, hc9⟩ := ho9.form
      clear ho9
      rw [HL.out.1]
      generalize uniqL F 80 q = own at *
      replace hc' := hc'.below hb2'
      replace hB' := hB'.below hb2'
      replace hw := below_next hw hw.size hb2'
      clear hC' hb2' hA hB hC hb2 hT
      go_wp2
      generalize w9 = w0 at *
      go_loopw [13, 14] (fun m i wr => ∃ k : Nat, i = .int .i64 k ∧ k ≤ own.length ∧ m = .int .i64 ((zerosK o own q k).length : Int) ∧ Below w0.heap.size w0 wr) (fun _ i _ => own.length - (intOf i).toNat)
      case atStart => exact ⟨0, rfl, by omega, rfl, Below.refl _ _⟩
      case round =>
        obtain ⟨k, rfl, hk, rfl, hb⟩ := hrel
        by_cases hlt : k < own.length
        · obtain ⟨x, hz⟩ := get_of_lt hlt
          obtain ⟨b, off, rfl, hcell⟩ := (hc9.below hb).at_map hz
          have hxu := how x (List.mem_of_getElem? hz)
          have HZ := hid (⟨zerosK_succ (l := o) (q := q) hz, HPR.out k x hz⟩ : _ ∧ _)
          have HDX := hid (fun (h : d < 0) => HD.out h x)
          have hzl : (zerosK o own q k).length ≤ k := by
            unfold zerosK
            refine Nat.le_trans (List.length_filter_le _ _) ?_
            rw [List.length_take]; omega
          clear hz
          generalize (zerosK o own q k).length = m at *
          go_wp2_with (fail)
          refine (eval_c A' o c' x q _ (hc'.below hb) (by omega) hcu hxu hq).mono ?_
          rintro e w10 ⟨rfl, hd⟩
          replace hb := below_dr hb hd
          clear hd hcell
          generalize mEval o x q = y at *
          by_cases hy : y = 0
          · subst hy
            go_wp2
            go_roundw
            case rel => exact ⟨k + 1, by go_num, by omega, by rw [HZ.out.1]; simp, hb⟩
            case measure => simp [intOf]; omega
          · have hd0 : ¬ d < 0 := fun h => hy (HDX.out h)
            have hku : (uniqL roots 80 q).length ≤ k := Decidable.byContradiction fun h => hy (HZ.out.2 (by omega))
            have hul := uniqL_len roots 80 q
            go_wp2_with (fail)
            refine (unlike03_c _ roots cb 80 q w10 (hB'.below hb) (by omega) ur hq (by have := HP.out.2.1; omega) ⟨by decide, by decide⟩).mono ?_
            rintro e w11 ⟨v11, rfl, ho11, hb11⟩
            obtain ⟨A11, c11, rfl, _⟩ := ho11.form
            clear ho11
            rw [HL.out.1]
            replace hb := below_next hb hb.size hb11
            clear hb11
            generalize (uniqL roots 80 q).length = u at *
            go_wp2
            go_roundw
            case rel => exact ⟨k + 1, by go_num, by omega, by rw [HZ.out.1, if_neg hy]; go_num, hb⟩
            case measure => simp [intOf]; omega
        · obtain rfl : k = own.length := by omega
          by_cases hd0 : d < 0
          · go_wp2
            go_ret
            exact ⟨rfl, below_next hw hw.size hb⟩
          · obtain ⟨dn, rfl⟩ := Int.eq_ofNat_of_zero_le (show 0 ≤ d by omega)
            have hfin := HF.out dn rfl own.length
            generalize (zerosK o own q own.length).length = m at *
            go_wp2
            go_ret
            exact ⟨rfl, below_next hw hw.size hb⟩
end Go.Proofs.YtgdfphcggjclkaaDoor
end

section
namespace Go.Proofs.YtgdfphcggjclkaaDoor
open Go Go.RowKit Go.Maps Go.Shelf Go.Proofs

theorem Cells.take {w : World} {A : Option Addr} {l : List Int} (h : Cells w A (u64v l)) (m : Nat) : Cells w A (u64v (l.take m)) := by
  rcases h with h | ⟨b, off, rfl, hc⟩
  · left
    unfold u64v at h ⊢
    rw [List.map_eq_nil_iff] at h
    rw [h]; simp
  · right
    refine ⟨b, off, rfl, fun i u hu => hc i u ?_⟩
    unfold u64v at hu ⊢
    rw [List.getElem?_map, List.getElem?_take] at hu
    rw [List.getElem?_map]
    split at hu
    · exact hu
    · simp at hu
theorem uniq_fold_most (most q : Int) : ∀ (l out : List Int), (out.length : Int) ≤ most → ((l.foldl (uniqStep most q) out).length : Int) ≤ most
  | [], _, h => h
  | x :: l, out, h => by
    rw [List.foldl_cons]
    refine uniq_fold_most most q l _ ?_
    unfold uniqStep
    split
    · rename_i hc
      rw [List.length_append]
      have := hc.1
      simp; omega
    · exact h
theorem uniqL_most {xs : List Int} {most q : Int} (h : 0 ≤ most) : ((uniqL xs most q).length : Int) ≤ most := uniq_fold_most most q xs [] (by simpa using h)
set_option maxRecDepth 100000 in
set_option maxHeartbeats 4000000 in
theorem polyOnly_c (A : Option Addr) (xs : List Int) (ca : Nat) (B : Option Addr) (ys : List Int) (cb : Nat) (C : Option Addr) (c : List Int) (cc : Nat) (n : Int) (w : World)
    (hA : Cells w A (u64v xs)) (lx : xs.length ≤ 9223372036854775807) (ux : U64s xs) (_ : xs.length ≤ ca) (hB : Cells w B (u64v ys)) (ly : ys.length ≤ 9223372036854775807) (uy : U64s ys) (hcb : ys.length ≤ cb) (hC : Cells w C (u64v c)) (lc : c.length ≤ 9223372036854775807) (uc : U64s c) (hcc : c.length ≤ cc)
    (hn : U64 n) (hT : Tabs w) (hp : ∀ {q : Int}, primeV q = true → Go.Psi.Pr q.toNat) :
    Calls Tryd.prog 6 #[.slice A xs.length ca, .slice B ys.length cb, .slice C c.length cc, .int .u64 n] w fun e w' => e = .returned (.bool true) ∧ Below w.heap.size w w' := by
  have HW := hid (fun w' => awake03_c w')
  go_enter Tryd.func6, Tryd.ntmps6
  by_cases h1 : xs.length ≤ 40
  case neg =>
    go_wp2_with (fail)
    refine (HW.out w).mono ?_
    rintro e w2 ⟨rfl, hb⟩
    go_wp2
    go_ret
    exact ⟨rfl, hb⟩
  by_cases h2 : ys.length ≤ 40
  case neg =>
    go_wp2_with (fail)
    refine (HW.out w).mono ?_
    rintro e w2 ⟨rfl, hb⟩
    go_wp2
    go_ret
    exact ⟨rfl, hb⟩
  by_cases h3 : c.length ≤ 40
  case neg =>
    go_wp2_with (fail)
    refine (HW.out w).mono ?_
    rintro e w2 ⟨rfl, hb⟩
    go_wp2
    go_ret
    exact ⟨rfl, hb⟩
  go_wp2_with (fail)
  refine (HW.out w).mono ?_
  rintro e w2 ⟨rfl, hb2⟩
  clear HW
  go_wp2_with (fail)
  refine (prime03_c n hn w2 (hT.below hb2)).mono ?_
  rintro e w3 ⟨rfl, hb⟩
  replace hb2 := below_next hb2 hb2.size hb
  clear hb
  have hpv := primeP_ok hn
  have hq := primeP_u64 hn
  generalize primeP n = q at *
  obtain ⟨hok, hq2⟩ := okm_prime hpv
  have hpr := hp hpv
  have HP := hid (⟨hok, hq2, hpr⟩ : _ ∧ _ ∧ _)
  clear hpv hpr hp
  obtain ⟨mo, hmo, hmo0, hmo1, hmo2⟩ : ∃ mo : Int, min 12 (ys.length : Int) = mo ∧ 0 ≤ mo ∧ mo ≤ 12 ∧ mo ≤ ys.length := ⟨_, rfl, by omega, by omega, by omega⟩
  go_wp2_with (fail)
  refine (unlike03_c A xs ca mo q w3 (hA.below hb2) (by omega) ux hq (by omega) ⟨by omega, by omega⟩).mono ?_
  rintro e w4 ⟨v4, rfl, ho4, hb⟩
  replace hb2 := below_next hb2 hb2.size hb
  clear hb
  have hown := (uniq_two xs mo q).apart HP.out.2.1 HP.out.2.2
  have hon := uniqL_most (xs := xs) (q := q) hmo0
  have hall := (uniq_two xs mo q).all HP.out.1 HP.out.2.1 HP.out.2.2 (by omega)
  have hou := uniqL_u64 (most := mo) (q := q) ux
  obtain ⟨A4, c4, rfl, hc4⟩ := ho4.form
  clear ho4
  have lu : ∀ (l : List Int), (u64v l).length = l.length := fun l => by simp [u64v]
  rw [lu]
  generalize uniqL xs mo q = own at *
  have HO := hid (⟨hown, hall⟩ : _ ∧ _)
  clear hown hall hmo
  have hly : (ys.take own.length).length = own.length := by rw [List.length_take]; omega
  have hthr := pthrough_c A4 B own (ys.take own.length) c4 cb q w4 hc4 ((hB.below hb2).take _) (by omega) (by omega) hou (fun z hz => uy z (List.mem_of_mem_take hz)) hq
  have hte : tErr own (ys.take own.length) q = 0 := by unfold tErr; rw [if_pos hly.symm]; exact HO.out.2
  rw [hly, hte, tVal_ok hte] at hthr
  have hpl := pOut_len HP.out.1 own (ys.take own.length) own.length
  have hplt := fun z hz => out_lt HP.out.1 own (ys.take own.length) own.length (z := z) hz
  have hpev : ∀ (j : Nat) x y, own[j]? = some x → ys[j]? = some y → mEval (pOut own (ys.take own.length) q own.length) x q = y % q := fun j x y hx hy => by
    rw [out_at HP.out.1 HO.out.1 hx, List.getD_eq_getElem?_getD, List.getElem?_take, if_pos (List.getElem?_eq_some_iff.1 hx).1, hy]; rfl
  generalize pOut own (ys.take own.length) q own.length = P at *
  have HPV := hid (⟨hplt, hpev⟩ : _ ∧ _)
  have HTH := hid hthr
  clear hthr hte hly hplt hpev
  have hcb2 : own.length ≤ cb := by omega
  go_wp2_with (fail)
  refine HTH.out.mono ?_
  rintro e w5 ⟨v5, rfl, ho5, hb⟩
  clear HTH
  obtain ⟨A5, c5, rfl, hc5⟩ := ho5.form
  clear ho5
  rw [List.length_map, hpl]
  replace hc4 := hc4.below hb
  replace hb2 := below_next hb2 hb2.size hb
  clear hb
  have hPu : U64s P := fun z hz => ⟨(HPV.out.1 z hz).1, by have := (HPV.out.1 z hz).2; have := hq.hi; omega⟩
  have hB5 := hB.below hb2
  have hC5 := hC.below hb2
  clear hA hB hC hT
  go_wp2
  generalize w5 = w0 at *
  go_loopw [13] (fun i wr => ∃ k : Nat, i = .int .i64 k ∧ k ≤ own.length ∧ Below w0.heap.size w0 wr) (fun i _ => own.length - (intOf i).toNat)
  case atStart => exact ⟨0, rfl, by omega, Below.refl _ _⟩
  case round =>
    obtain ⟨k, rfl, hk, hw⟩ := hrel
    by_cases hlt : k < own.length
    · obtain ⟨x, hx⟩ := get_of_lt hlt
      obtain ⟨y, hy⟩ := get_of_lt (l := ys) (show k < ys.length by omega)
      obtain ⟨z, hz⟩ := get_of_lt (l := P) (show k < P.length by omega)
      obtain ⟨b1, o1, e1, hcx⟩ := (hc4.below hw).at_map hx
      obtain ⟨b2, o2, e2, hcy⟩ := (hB5.below hw).at_map hy
      obtain ⟨b3, o3, e3, hcz⟩ := (hc5.below hw).at_map hz
      have hxu := hou x (List.mem_of_getElem? hx)
      have hyu := uy y (List.mem_of_getElem? hy)
      have hyt := tmodR (q := q) hyu
      have hzq := HPV.out.1 z (List.mem_of_getElem? hz)
      have hev := HPV.out.2 k x y hx hy
      have hEV := hid (fun w' (hd : Below w0.heap.size w0 w') => eval_c A5 P c5 x q w' (hc5.below hd) (by omega) hPu hxu hq)
      rw [hev, hpl] at hEV
      have HEV := hid hEV
      subst e1 e2 e3
      clear hx hy hz hev hEV
      go_wp2
      refine Rg.wp_region (l := [_, _, _, _, _, _, _, _, _, _, _, _, _, _, _, _, _, _, _, _, _]) (tail := [_]) (Rg.grows _ 22) [some 67, some 68, some 69, some 70, some 71, some 72, some 73, some 74, some 75, some 76, some 77, some 78, some 79, some 80, some 81, some 82, some 83, some 84, some 85, some 86, some 87, some 88] 114 (by kernel_rfl) (by kernel_rfl) (by kernel_rfl) rfl (Rg.grows_fair _ _) (Rg.keep_drew _) (trivial) ?_
      refine' Rg.op_is _ [] rfl rfl (by kernel_rfl) ?_ ?_
      rotate_left
      · intro wx hb
        refine Rg.from_nil fun T hT => ?_
        go_wp2
        refine hT _ _ rfl (by first | exact Rg.Keep.refl _ | exact below_of_dr hw2 | exact hw2 | exact (Below.refl _ _).alloc (Nat.le_refl _) _) ?_
        simp only [Rg.last, List.getElem?_toArray, List.getElem?_cons_succ, List.getElem?_cons_zero, Option.getD_some]
        rfl
      refine' Rg.op_is _ [] rfl rfl (by kernel_rfl) ?_ ?_
      rotate_left
      · intro wx hb
        refine Rg.from_nil fun T hT => ?_
        go_wp2
        refine hT _ _ rfl (by first | exact Rg.Keep.refl _ | exact below_of_dr hw2 | exact hw2 | exact (Below.refl _ _).alloc (Nat.le_refl _) _) ?_
        simp only [Rg.last, List.getElem?_toArray, List.getElem?_cons_succ, List.getElem?_cons_zero, Option.getD_some]
        rfl
      refine' Rg.op_is _ [0, 1] rfl rfl (by kernel_rfl) ?_ ?_
      rotate_left
      · intro wx hb
        refine Rg.from_is (some 67) rfl rfl ?_
        refine Rg.from_is (some 68) rfl rfl ?_
        refine Rg.from_nil fun T hT => ?_
        go_wp2
        refine hT _ _ rfl (by first | exact Rg.Keep.refl _ | exact below_of_dr hw2 | exact hw2 | exact (Below.refl _ _).alloc (Nat.le_refl _) _) ?_
        simp only [Rg.last, List.getElem?_toArray, List.getElem?_cons_succ, List.getElem?_cons_zero, Option.getD_some]
        rfl
      refine Rg.op_is (.int .u64 z) [2] rfl rfl (by kernel_rfl) ?_ ?_
      · intro wx hb
        refine Rg.from_is (some 69) rfl rfl ?_
        refine Rg.from_nil fun T hT => ?_
        have hcz2 := (hb.cell (lt_of_cell hcz)).trans hcz
        go_wp2
        exact hT _ _ rfl (by first | exact Rg.Keep.refl _ | exact below_of_dr hw2 | exact hw2 | exact (Below.refl _ _).alloc (Nat.le_refl _) _) (by first | rfl | exact congrArg _ (by decide))
      refine' Rg.op_is _ [] rfl rfl (by kernel_rfl) ?_ ?_
      rotate_left
      · intro wx hb
        refine Rg.from_nil fun T hT => ?_
        go_wp2
        refine hT _ _ rfl (by first | exact Rg.Keep.refl _ | exact below_of_dr hw2 | exact hw2 | exact (Below.refl _ _).alloc (Nat.le_refl _) _) ?_
        simp only [Rg.last, List.getElem?_toArray, List.getElem?_cons_succ, List.getElem?_cons_zero, Option.getD_some]
        rfl
      refine Rg.op_is (.bool false) [3, 4] rfl rfl (by kernel_rfl) ?_ ?_
      · intro wx hb
        refine Rg.from_is (some 70) rfl rfl ?_
        refine Rg.from_is (some 71) rfl rfl ?_
        refine Rg.from_nil fun T hT => ?_
        go_wp2
        exact hT _ _ rfl (Rg.Keep.refl _) (by first | rfl | exact congrArg Value.bool (decide_eq_false (by omega)))
      refine Rg.op_is (.bool false) [5] rfl rfl (by kernel_rfl) ?_ ?_
      · intro wx hb
        refine Rg.from_is (some 72) rfl rfl ?_
        refine Rg.from_nil fun T hT => ?_
        go_wp2
        exact hT _ _ rfl (by first | exact Rg.Keep.refl _ | exact below_of_dr hw2 | exact hw2 | exact (Below.refl _ _).alloc (Nat.le_refl _) _) (by first | rfl | exact congrArg _ (by decide))
      refine' Rg.op_is _ [] rfl rfl (by kernel_rfl) ?_ ?_
      rotate_left
      · intro wx hb
        refine Rg.from_nil fun T hT => ?_
        go_wp2
        refine hT _ _ rfl (by first | exact Rg.Keep.refl _ | exact below_of_dr hw2 | exact hw2 | exact (Below.refl _ _).alloc (Nat.le_refl _) _) ?_
        simp only [Rg.last, List.getElem?_toArray, List.getElem?_cons_succ, List.getElem?_cons_zero, Option.getD_some]
        rfl
      refine' Rg.op_is _ [] rfl rfl (by kernel_rfl) ?_ ?_
      rotate_left
      · intro wx hb
        refine Rg.from_nil fun T hT => ?_
        go_wp2
        refine hT _ _ rfl (by first | exact Rg.Keep.refl _ | exact below_of_dr hw2 | exact hw2 | exact (Below.refl _ _).alloc (Nat.le_refl _) _) ?_
        simp only [Rg.last, List.getElem?_toArray, List.getElem?_cons_succ, List.getElem?_cons_zero, Option.getD_some]
        rfl
      refine' Rg.op_is _ [] rfl rfl (by kernel_rfl) ?_ ?_
      rotate_left
      · intro wx hb
        refine Rg.from_nil fun T hT => ?_
        go_wp2
        refine hT _ _ rfl (by first | exact Rg.Keep.refl _ | exact below_of_dr hw2 | exact hw2 | exact (Below.refl _ _).alloc (Nat.le_refl _) _) ?_
        simp only [Rg.last, List.getElem?_toArray, List.getElem?_cons_succ, List.getElem?_cons_zero, Option.getD_some]
        rfl
      refine' Rg.op_is _ [8, 9] rfl rfl (by kernel_rfl) ?_ ?_
      rotate_left
      · intro wx hb
        refine Rg.from_is (some 75) rfl rfl ?_
        refine Rg.from_is (some 76) rfl rfl ?_
        refine Rg.from_nil fun T hT => ?_
        go_wp2
        refine hT _ _ rfl (by first | exact Rg.Keep.refl _ | exact below_of_dr hw2 | exact hw2 | exact (Below.refl _ _).alloc (Nat.le_refl _) _) ?_
        simp only [Rg.last, List.getElem?_toArray, List.getElem?_cons_succ, List.getElem?_cons_zero, Option.getD_some]
        rfl
      refine Rg.op_is (.int .u64 x) [10] rfl rfl (by kernel_rfl) ?_ ?_
      · intro wx hb
        refine Rg.from_is (some 77) rfl rfl ?_
        refine Rg.from_nil fun T hT => ?_
        have hcx2 := (hb.cell (lt_of_cell hcx)).trans hcx
        go_wp2
        exact hT _ _ rfl (by first | exact Rg.Keep.refl _ | exact below_of_dr hw2 | exact hw2 | exact (Below.refl _ _).alloc (Nat.le_refl _) _) (by first | rfl | exact congrArg _ (by decide))
      refine' Rg.op_is _ [] rfl rfl (by kernel_rfl) ?_ ?_
      rotate_left
      · intro wx hb
        refine Rg.from_nil fun T hT => ?_
        go_wp2
        refine hT _ _ rfl (by first | exact Rg.Keep.refl _ | exact below_of_dr hw2 | exact hw2 | exact (Below.refl _ _).alloc (Nat.le_refl _) _) ?_
        simp only [Rg.last, List.getElem?_toArray, List.getElem?_cons_succ, List.getElem?_cons_zero, Option.getD_some]
        rfl
      refine Rg.op_is (.int .u64 (y % q)) [7, 11, 12] rfl rfl (by kernel_rfl) ?_ ?_
      · intro wx hb
        refine Rg.from_is (some 74) rfl rfl ?_
        refine Rg.from_is (some 78) rfl rfl ?_
        refine Rg.from_is (some 79) rfl rfl ?_
        refine Rg.from_nil fun T hT => ?_
        go_wp2_with (go_at_call 23; refine (HEV.out _ (below_next hw hw.size hb)).mono ?_; rintro e w5 ⟨rfl, hw5⟩)
        exact hT _ _ rfl (below_of_dr hw5) rfl
      refine' Rg.op_is _ [] rfl rfl (by kernel_rfl) ?_ ?_
      rotate_left
      · intro wx hb
        refine Rg.from_nil fun T hT => ?_
        go_wp2
        refine hT _ _ rfl (by first | exact Rg.Keep.refl _ | exact below_of_dr hw2 | exact hw2 | exact (Below.refl _ _).alloc (Nat.le_refl _) _) ?_
        simp only [Rg.last, List.getElem?_toArray, List.getElem?_cons_succ, List.getElem?_cons_zero, Option.getD_some]
        rfl
      refine' Rg.op_is _ [] rfl rfl (by kernel_rfl) ?_ ?_
      rotate_left
      · intro wx hb
        refine Rg.from_nil fun T hT => ?_
        go_wp2
        refine hT _ _ rfl (by first | exact Rg.Keep.refl _ | exact below_of_dr hw2 | exact hw2 | exact (Below.refl _ _).alloc (Nat.le_refl _) _) ?_
        simp only [Rg.last, List.getElem?_toArray, List.getElem?_cons_succ, List.getElem?_cons_zero, Option.getD_some]
        rfl
      refine' Rg.op_is _ [14, 15] rfl rfl (by kernel_rfl) ?_ ?_
      rotate_left
      · intro wx hb
        refine Rg.from_is (some 81) rfl rfl ?_
        refine Rg.from_is (some 82) rfl rfl ?_
        refine Rg.from_nil fun T hT => ?_
        go_wp2
        refine hT _ _ rfl (by first | exact Rg.Keep.refl _ | exact below_of_dr hw2 | exact hw2 | exact (Below.refl _ _).alloc (Nat.le_refl _) _) ?_
        simp only [Rg.last, List.getElem?_toArray, List.getElem?_cons_succ, List.getElem?_cons_zero, Option.getD_some]
        rfl
      refine Rg.op_is (.int .u64 y) [16] rfl rfl (by kernel_rfl) ?_ ?_
      · intro wx hb
        refine Rg.from_is (some 83) rfl rfl ?_
        refine Rg.from_nil fun T hT => ?_
        have hcy2 := (hb.cell (lt_of_cell hcy)).trans hcy
        go_wp2
        exact hT _ _ rfl (by first | exact Rg.Keep.refl _ | exact below_of_dr hw2 | exact hw2 | exact (Below.refl _ _).alloc (Nat.le_refl _) _) (by first | rfl | exact congrArg _ (by decide))
      refine' Rg.op_is _ [] rfl rfl (by kernel_rfl) ?_ ?_
      rotate_left
      · intro wx hb
        refine Rg.from_nil fun T hT => ?_
        go_wp2
        refine hT _ _ rfl (by first | exact Rg.Keep.refl _ | exact below_of_dr hw2 | exact hw2 | exact (Below.refl _ _).alloc (Nat.le_refl _) _) ?_
        simp only [Rg.last, List.getElem?_toArray, List.getElem?_cons_succ, List.getElem?_cons_zero, Option.getD_some]
        rfl
      refine Rg.op_is (.int .u64 (y % q)) [17, 18] rfl rfl (by kernel_rfl) ?_ ?_
      · intro wx hb
        refine Rg.from_is (some 84) rfl rfl ?_
        refine Rg.from_is (some 85) rfl rfl ?_
        refine Rg.from_nil fun T hT => ?_
        go_wp2
        exact hT _ _ rfl (by first | exact Rg.Keep.refl _ | exact below_of_dr hw2 | exact hw2 | exact (Below.refl _ _).alloc (Nat.le_refl _) _) (by first | rfl | exact congrArg _ (by decide))
      refine Rg.op_is (.bool false) [13, 19] rfl rfl (by kernel_rfl) ?_ ?_
      · intro wx hb
        refine Rg.from_is (some 80) rfl rfl ?_
        refine Rg.from_is (some 86) rfl rfl ?_
        refine Rg.from_nil fun T hT => ?_
        go_wp2
        exact hT _ _ rfl (Rg.Keep.refl _) (by first | rfl | simp)
      refine Rg.walk_nil [0, 1, 2, 3, 4, 5, 6, 7, 8, 9, 10, 11, 12, 13, 14, 15, 16, 17, 18, 19, 20] (by kernel_rfl) ?_
      intro wx hb
      refine Rg.from_is (some 67) rfl rfl ?_
      refine Rg.from_is (some 68) rfl rfl ?_
      refine Rg.from_is (some 69) rfl rfl ?_
      refine Rg.from_is (some 70) rfl rfl ?_
      refine Rg.from_is (some 71) rfl rfl ?_
      refine Rg.from_is (some 72) rfl rfl ?_
      refine Rg.from_is (some 73) rfl rfl ?_
      refine Rg.from_is (some 74) rfl rfl ?_
      refine Rg.from_is (some 75) rfl rfl ?_
      refine Rg.from_is (some 76) rfl rfl ?_
      refine Rg.from_is (some 77) rfl rfl ?_
      refine Rg.from_is (some 78) rfl rfl ?_
      refine Rg.from_is (some 79) rfl rfl ?_
      refine Rg.from_is (some 80) rfl rfl ?_
      refine Rg.from_is (some 81) rfl rfl ?_
      refine Rg.from_is (some 82) rfl rfl ?_
      refine Rg.from_is (some 83) rfl rfl ?_
      refine Rg.from_is (some 84) rfl rfl ?_
      refine Rg.from_is (some 85) rfl rfl ?_
      refine Rg.from_is (some 86) rfl rfl ?_
      refine Rg.from_is (some 87) rfl rfl ?_
      refine Rg.from_nil ?_
      simp only [List.map, Act.put, List.setIfInBounds_toArray, List.set_cons_zero, List.set_cons_succ]
      go_wp2
      go_roundw
      case rel => exact ⟨k + 1, by go_num, by omega, below_next hw hw.size hb⟩
      case measure => simp [intOf]; omega
    · obtain rfl : k = own.length := by omega
      obtain ⟨m, hm, hm1, hm2⟩ : ∃ m : Nat, min (c.length : Int) (own.length : Int) = m ∧ m ≤ c.length ∧ m ≤ own.length := ⟨min c.length own.length, by omega, by omega, by omega⟩
      have hcl : (c.take m).length = m := by rw [List.length_take]; omega
      have hcu : U64s (c.take m) := fun z hz => uc z (List.mem_of_mem_take hz)
      have hcm : m ≤ cc := by omega
      have hval := values03_c C A4 (c.take m) own cc c4 q wr ((hC5.below hw).take m) (hc4.below hw) (by omega) (by omega) hcu hou hq
      have hsame := own_same HP.out.1 (c := c.take m) HO.out.1 (by omega)
      have hC6 := (hC5.below hw).take m
      have hvl : (valuesL (c.take m) own q).length = own.length := by simp [valuesL]
      have hvu := valuesL_u64 (c.take m) own q
      have hte : tErr own (valuesL (c.take m) own q) q = 0 := by unfold tErr; rw [if_pos hvl.symm]; exact HO.out.2
      have htv := tVal_ok hte
      have hpl2 := pOut_len HP.out.1 own (valuesL (c.take m) own q) own.length
      have hplt2 := fun z hz => out_lt HP.out.1 own (valuesL (c.take m) own q) own.length (z := z) hz
      rw [hcl] at hval
      generalize pOut own (valuesL (c.take m) own q) q own.length = P2 at *
      generalize valuesL (c.take m) own q = V at *
      generalize c.take m = c1 at *
      have HV := hid (⟨hval, hsame, hte, htv, hplt2⟩ : _ ∧ _ ∧ _ ∧ _ ∧ _)
      clear hval hsame hte htv hplt2
      replace hc4 := hc4.below hw
      replace hb2 := below_next hb2 hb2.size hw
      clear hw hC5 hB5 hc5
      go_wp2_with (fail)
      refine HV.out.1.mono ?_
      rintro e w6 ⟨v6, rfl, ho6, hb6⟩
      obtain ⟨A6, c6, rfl, hc6⟩ := ho6.form
      clear ho6
      rw [lu, hvl]
      replace hc4 := hc4.below hb6
      replace hC6 := hC6.below hb6
      replace hb2 := below_next hb2 hb2.size hb6
      clear hb6
      have hthr := pthrough_c A4 A6 own V c4 c6 q w6 hc4 hc6 (by omega) (by omega) hou hvu hq
      rw [hvl, HV.out.2.2.1, HV.out.2.2.2.1] at hthr
      have HTH := hid hthr
      clear hthr
      go_wp2_with (fail)
      refine HTH.out.mono ?_
      rintro e w7 ⟨v7, rfl, ho7, hb7⟩
      clear HTH
      obtain ⟨A7, c7, rfl, hc7⟩ := ho7.form
      clear ho7
      rw [List.length_map, hpl2]
      replace hC6 := hC6.below hb7
      replace hb2 := below_next hb2 hb2.size hb7
      clear hb7
      have hP2u : U64s P2 := fun z hz => ⟨(HV.out.2.2.2.2 z hz).1, by have := (HV.out.2.2.2.2 z hz).2; have := hq.hi; omega⟩
      have hsm := psame_c A7 C P2 c1 c7 cc q w7 hc7 hC6 (by omega) (by omega) hP2u hcu hq
      rw [hpl2, hcl, HV.out.2.1] at hsm
      have HSM := hid hsm
      clear hsm
      go_wp2_with (fail)
      refine HSM.out.mono ?_
      rintro e w8 ⟨rfl, hb8⟩
      go_wp2
      go_ret
      exact ⟨rfl, below_next hb2 hb2.size hb8⟩
end Go.Proofs.YtgdfphcggjclkaaDoor
end

section
namespace Go.Proofs.YtgdfphcggjclkaaDoor
open Go Go.RowKit Go.Maps Go.Shelf Go.Proofs

theorem wList_ok {xs : List Int} {y q : Int} (h : eAll xs q = 0) : wList xs y q = wAll xs y q := by unfold wList; rw [if_pos h]
theorem wAll_len (xs : List Int) (y q : Int) : (wAll xs y q).length = xs.length := by simp [wAll]
theorem wAll_one {xs : List Int} {y q : Int} {k : Nat} (h : k < xs.length) : (wAll xs y q)[k]? = some (wOne xs y q k) := by
  unfold wAll
  rw [List.getElem?_map, List.getElem?_range h]; rfl
theorem wOne_u64 (xs : List Int) (y q : Int) (k : Nat) : U64 (wOne xs y q k) := mMul_u64 ..
theorem sumW_u64 (xs ys : List Int) (X q : Int) (k : Nat) : U64 (sumW xs ys X q k) := by
  cases k with
  | zero => exact ⟨by unfold sumW; omega, by unfold sumW; omega⟩
  | succ k => exact mAdd_u64 ..
theorem sumA_u64 (xs : List Int) (X q : Int) (k : Nat) : U64 (sumA xs X q k) := by
  cases k with
  | zero => exact ⟨by unfold sumA; omega, by unfold sumA; omega⟩
  | succ k => exact mAdd_u64 ..
set_option maxRecDepth 100000 in
set_option maxHeartbeats 8000000 in
theorem polyWeights_c (A : Option Addr) (xs : List Int) (ca : Nat) (C : Option Addr) (c : List Int) (cc : Nat) (at_ n : Int) (w : World)
    (hA : Cells w A (u64v xs)) (lx : xs.length ≤ 9223372036854775807) (ux : U64s xs) (_ : xs.length ≤ ca) (hC : Cells w C (u64v c)) (lc : c.length ≤ 9223372036854775807) (uc : U64s c) (hcc : c.length ≤ cc)
    (hat : U64 at_) (hn : U64 n) (hT : Tabs w) (hp : ∀ {q : Int}, primeV q = true → Go.Psi.Pr q.toNat) :
    Calls Tryd.prog 3 #[.slice A xs.length ca, .slice C c.length cc, .int .u64 at_, .int .u64 n] w fun e w' => e = .returned (.bool true) ∧ Below w.heap.size w w' := by
  have HW := hid (fun w' => awake03_c w')
  go_enter Tryd.func3, Tryd.ntmps3
  by_cases h1 : xs.length ≤ 40
  case neg =>
    go_wp2_with (fail)
    refine (HW.out w).mono ?_
    rintro e w2 ⟨rfl, hb⟩
    go_wp2
    go_ret
    exact ⟨rfl, hb⟩
  by_cases h3 : c.length ≤ 40
  case neg =>
    go_wp2_with (fail)
    refine (HW.out w).mono ?_
    rintro e w2 ⟨rfl, hb⟩
    go_wp2
    go_ret
    exact ⟨rfl, hb⟩
  go_wp2_with (fail)
  refine (HW.out w).mono ?_
  rintro e w2 ⟨rfl, hb2⟩
  clear HW
  go_wp2_with (fail)
  refine (prime03_c n hn w2 (hT.below hb2)).mono ?_
  rintro e w3 ⟨rfl, hb⟩
  replace hb2 := below_next hb2 hb2.size hb
  clear hb
  have hpv := primeP_ok hn
  have hq := primeP_u64 hn
  generalize primeP n = q at *
  obtain ⟨hok, hq2⟩ := okm_prime hpv
  have hpr := hp hpv
  have HP := hid (⟨hok, hq2, hpr⟩ : _ ∧ _ ∧ _)
  clear hpv hpr hp
  go_wp2_with (fail)
  refine (unlike03_c A xs ca 12 q w3 (hA.below hb2) (by omega) ux hq (by omega) ⟨by omega, by omega⟩).mono ?_
  rintro e w4 ⟨v4, rfl, ho4, hb⟩
  replace hb2 := below_next hb2 hb2.size hb
  clear hb
  have hown := (uniq_two xs 12 q).apart HP.out.2.1 HP.out.2.2
  have hon := uniqL_most (xs := xs) (q := q) (show (0 : Int) ≤ 12 by omega)
  have hall := (uniq_two xs 12 q).all HP.out.1 HP.out.2.1 HP.out.2.2 (by omega)
  have hou := uniqL_u64 (most := 12) (q := q) ux
  obtain ⟨A4, c4, rfl, hc4⟩ := ho4.form
  clear ho4
  have lu : ∀ (l : List Int), (u64v l).length = l.length := fun l => by simp [u64v]
  rw [lu]
  generalize uniqL xs 12 q = own at *
  have HO := hid (⟨hown, hall⟩ : _ ∧ _)
  clear hown hall
  obtain ⟨m, hm, hm1, hm2⟩ : ∃ m : Nat, min (c.length : Int) (own.length : Int) = m ∧ m ≤ c.length ∧ m ≤ own.length := ⟨min c.length own.length, by omega, by omega, by omega⟩
  have hcl : (c.take m).length = m := by rw [List.length_take]; omega
  have hcu : U64s (c.take m) := fun z hz => uc z (List.mem_of_mem_take hz)
  have hcm : m ≤ cc := by omega
  have hC4 := (hC.below hb2).take m
  have hsum := weights_sum HP.out.1 (c := c.take m) HO.out.1 (by omega) at_
  have hval := fun (j : Nat) x (h : own[j]? = some x) => show (valuesL (c.take m) own q).getD j 0 = mEval (c.take m) x q by
    unfold valuesL
    rw [List.getD_eq_getElem?_getD, List.getElem?_map, h]; rfl
  generalize c.take m = c1 at *
  have hsa := fun h => weights_all HP.out.1 HP.out.2.1 HO.out.1 h at_
  have hso := fun (i k : Nat) x (hi : own[i]? = some x) (hk : k < own.length) => weights_own HP.out.1 HP.out.2.1 HO.out.1 hi hk
  have hwt : ∀ y, U64 y → ∀ w', Below w4.heap.size w4 w' → Calls Tryd.prog 20 #[.slice A4 own.length c4, .int .u64 y, .int .u64 q] w' (NewTwo (wAll own y q) 0 w') := fun y hy w' hb => by
    have := pweights_c A4 own c4 y q w' (hc4.below hb) (by omega) hou hy hq
    rwa [HO.out.2, wList_ok HO.out.2] at this
  have HS := hid (⟨hsum, hval, hsa, hso, hwt⟩ : _ ∧ _ ∧ _ ∧ _ ∧ _)
  clear hsum hval hsa hso hwt hA hC hT
  go_wp2_with (fail)
  refine (HS.out.2.2.2.2 at_ hat w4 (Below.refl _ _)).mono ?_
  rintro e w5 ⟨v5, rfl, ho5, hb5⟩
  obtain ⟨A5, c5, rfl, hc5⟩ := ho5.form
  clear ho5
  have hwl : (u64v (wAll own at_ q)).length = own.length := by rw [lu, wAll_len]
  rw [show ((wAll own at_ q).map (Value.int .u64)).length = own.length from hwl]
  clear hwl
  go_wp2
  go_loopw [13, 14, 15] (fun s a i wr => ∃ k : Nat, i = .int .i64 k ∧ k ≤ own.length ∧ s = .int .u64 (sumW own (valuesL c1 own q) at_ q k) ∧ a = .int .u64 (sumA own at_ q k) ∧ Below w5.heap.size w5 wr) (fun _ _ i _ => own.length - (intOf i).toNat)
  case atStart => exact ⟨0, rfl, by omega, rfl, rfl, Below.refl _ _⟩
  case round =>
    obtain ⟨k, rfl, hk, rfl, rfl, hw⟩ := hrel
    have hs1 := sumW_u64 own (valuesL c1 own q) at_ q k
    have hs2 := sumA_u64 own at_ q k
    by_cases hlt : k < own.length
    · obtain ⟨x, hx⟩ := get_of_lt hlt
      have hz := wAll_one (y := at_) (q := q) hlt
      obtain ⟨b1, o1, e1, hcx⟩ := ((hc4.below hb5).below hw).at_map hx
      obtain ⟨b3, o3, e3, hcz⟩ := (hc5.below hw).at_map hz
      have hxu := hou x (List.mem_of_getElem? hx)
      have hzu := wOne_u64 own at_ q k
      have hvx := HS.out.2.1 k x hx
      have hst : sumW own (valuesL c1 own q) at_ q (k + 1) = mAdd (sumW own (valuesL c1 own q) at_ q k) (mMul (wOne own at_ q k) (mEval c1 x q) q) q := by rw [sumW, hvx]
      have hsa : sumA own at_ q (k + 1) = mAdd (sumA own at_ q k) (wOne own at_ q k) q := rfl
      have HE := hid (fun w' (hd : Below w5.heap.size w5 w') => eval_c C c1 cc x q w' ((hC4.below hb5).below hd) (by omega) hcu hxu hq)
      have hyu := mEval_u64 c1 x q
      rw [hcl] at HE
      have HST := hid (⟨hst, hsa⟩ : _ ∧ _)
      subst e1 e3
      clear hx hz hvx hst hsa
      generalize sumW own (valuesL c1 own q) at_ q k = s at *
      generalize sumA own at_ q k = a at *
      generalize wOne own at_ q k = z at *
      generalize mEval c1 x q = y at *
      go_wp2
      refine Rg.wp_region (l := [_, _, _, _, _, _, _, _, _, _, _, _, _, _, _, _]) (tail := [_]) (Rg.grows _ 17) [some 67, some 68, some 69, some 70, some 71, some 72, some 73, some 74, some 75, some 76, some 77, some 78, some 79, some 80, some 81, some 82, some 13] 154 (by kernel_rfl) (by kernel_rfl) (by kernel_rfl) rfl (Rg.grows_fair _ _) (Rg.keep_drew _) (trivial) ?_
      refine' Rg.op_is _ [] rfl rfl (by kernel_rfl) ?_ ?_
      rotate_left
      · intro wx hb
        refine Rg.from_nil fun T hT => ?_
        go_wp2
        refine hT _ _ rfl (by first | exact Rg.Keep.refl _ | exact below_of_dr hw2 | exact hw2 | exact (Below.refl _ _).alloc (Nat.le_refl _) _) ?_
        simp only [Rg.last, List.getElem?_toArray, List.getElem?_cons_succ, List.getElem?_cons_zero, Option.getD_some]
        rfl
      refine' Rg.op_is _ [] rfl rfl (by kernel_rfl) ?_ ?_
      rotate_left
      · intro wx hb
        refine Rg.from_nil fun T hT => ?_
        go_wp2
        refine hT _ _ rfl (by first | exact Rg.Keep.refl _ | exact below_of_dr hw2 | exact hw2 | exact (Below.refl _ _).alloc (Nat.le_refl _) _) ?_
        simp only [Rg.last, List.getElem?_toArray, List.getElem?_cons_succ, List.getElem?_cons_zero, Option.getD_some]
        rfl
      refine' Rg.op_is _ [] rfl rfl (by kernel_rfl) ?_ ?_
      rotate_left
      · intro wx hb
        refine Rg.from_nil fun T hT => ?_
        go_wp2
        refine hT _ _ rfl (by first | exact Rg.Keep.refl _ | exact below_of_dr hw2 | exact hw2 | exact (Below.refl _ _).alloc (Nat.le_refl _) _) ?_
        simp only [Rg.last, List.getElem?_toArray, List.getElem?_cons_succ, List.getElem?_cons_zero, Option.getD_some]
        rfl
      refine' Rg.op_is _ [1, 2] rfl rfl (by kernel_rfl) ?_ ?_
      rotate_left
      · intro wx hb
        refine Rg.from_is (some 68) rfl rfl ?_
        refine Rg.from_is (some 69) rfl rfl ?_
        refine Rg.from_nil fun T hT => ?_
        go_wp2
        refine hT _ _ rfl (by first | exact Rg.Keep.refl _ | exact below_of_dr hw2 | exact hw2 | exact (Below.refl _ _).alloc (Nat.le_refl _) _) ?_
        simp only [Rg.last, List.getElem?_toArray, List.getElem?_cons_succ, List.getElem?_cons_zero, Option.getD_some]
        rfl
      refine Rg.op_is (.int .u64 z) [3] rfl rfl (by kernel_rfl) ?_ ?_
      · intro wx hb
        refine Rg.from_is (some 70) rfl rfl ?_
        refine Rg.from_nil fun T hT => ?_
        have hcz2 := (hb.cell (lt_of_cell hcz)).trans hcz
        go_wp2
        exact hT _ _ rfl (by first | exact Rg.Keep.refl _ | exact below_of_dr hw2 | exact hw2 | exact (Below.refl _ _).alloc (Nat.le_refl _) _) (by first | rfl | exact congrArg _ (by decide))
      refine' Rg.op_is _ [] rfl rfl (by kernel_rfl) ?_ ?_
      rotate_left
      · intro wx hb
        refine Rg.from_nil fun T hT => ?_
        go_wp2
        refine hT _ _ rfl (by first | exact Rg.Keep.refl _ | exact below_of_dr hw2 | exact hw2 | exact (Below.refl _ _).alloc (Nat.le_refl _) _) ?_
        simp only [Rg.last, List.getElem?_toArray, List.getElem?_cons_succ, List.getElem?_cons_zero, Option.getD_some]
        rfl
      refine' Rg.op_is _ [] rfl rfl (by kernel_rfl) ?_ ?_
      rotate_left
      · intro wx hb
        refine Rg.from_nil fun T hT => ?_
        go_wp2
        refine hT _ _ rfl (by first | exact Rg.Keep.refl _ | exact below_of_dr hw2 | exact hw2 | exact (Below.refl _ _).alloc (Nat.le_refl _) _) ?_
        simp only [Rg.last, List.getElem?_toArray, List.getElem?_cons_succ, List.getElem?_cons_zero, Option.getD_some]
        rfl
      refine' Rg.op_is _ [] rfl rfl (by kernel_rfl) ?_ ?_
      rotate_left
      · intro wx hb
        refine Rg.from_nil fun T hT => ?_
        go_wp2
        refine hT _ _ rfl (by first | exact Rg.Keep.refl _ | exact below_of_dr hw2 | exact hw2 | exact (Below.refl _ _).alloc (Nat.le_refl _) _) ?_
        simp only [Rg.last, List.getElem?_toArray, List.getElem?_cons_succ, List.getElem?_cons_zero, Option.getD_some]
        rfl
      refine' Rg.op_is _ [6, 7] rfl rfl (by kernel_rfl) ?_ ?_
      rotate_left
      · intro wx hb
        refine Rg.from_is (some 73) rfl rfl ?_
        refine Rg.from_is (some 74) rfl rfl ?_
        refine Rg.from_nil fun T hT => ?_
        go_wp2
        refine hT _ _ rfl (by first | exact Rg.Keep.refl _ | exact below_of_dr hw2 | exact hw2 | exact (Below.refl _ _).alloc (Nat.le_refl _) _) ?_
        simp only [Rg.last, List.getElem?_toArray, List.getElem?_cons_succ, List.getElem?_cons_zero, Option.getD_some]
        rfl
      refine Rg.op_is (.int .u64 x) [8] rfl rfl (by kernel_rfl) ?_ ?_
      · intro wx hb
        refine Rg.from_is (some 75) rfl rfl ?_
        refine Rg.from_nil fun T hT => ?_
        have hcx2 := (hb.cell (lt_of_cell hcx)).trans hcx
        go_wp2
        exact hT _ _ rfl (by first | exact Rg.Keep.refl _ | exact below_of_dr hw2 | exact hw2 | exact (Below.refl _ _).alloc (Nat.le_refl _) _) (by first | rfl | exact congrArg _ (by decide))
      refine' Rg.op_is _ [] rfl rfl (by kernel_rfl) ?_ ?_
      rotate_left
      · intro wx hb
        refine Rg.from_nil fun T hT => ?_
        go_wp2
        refine hT _ _ rfl (by first | exact Rg.Keep.refl _ | exact below_of_dr hw2 | exact hw2 | exact (Below.refl _ _).alloc (Nat.le_refl _) _) ?_
        simp only [Rg.last, List.getElem?_toArray, List.getElem?_cons_succ, List.getElem?_cons_zero, Option.getD_some]
        rfl
      refine Rg.op_is (.int .u64 y) [5, 9, 10] rfl rfl (by kernel_rfl) ?_ ?_
      · intro wx hb
        refine Rg.from_is (some 72) rfl rfl ?_
        refine Rg.from_is (some 76) rfl rfl ?_
        refine Rg.from_is (some 77) rfl rfl ?_
        refine Rg.from_nil fun T hT => ?_
        go_wp2_with (go_at_call 23; refine (HE.out _ (below_next hw hw.size hb)).mono ?_; rintro e w5 ⟨rfl, hw5⟩)
        exact hT _ _ rfl (below_of_dr hw5) rfl
      refine' Rg.op_is _ [] rfl rfl (by kernel_rfl) ?_ ?_
      rotate_left
      · intro wx hb
        refine Rg.from_nil fun T hT => ?_
        go_wp2
        refine hT _ _ rfl (by first | exact Rg.Keep.refl _ | exact below_of_dr hw2 | exact hw2 | exact (Below.refl _ _).alloc (Nat.le_refl _) _) ?_
        simp only [Rg.last, List.getElem?_toArray, List.getElem?_cons_succ, List.getElem?_cons_zero, Option.getD_some]
        rfl
      refine Rg.op_is (.int .u64 (mMul z y q)) [4, 11, 12] rfl rfl (by kernel_rfl) ?_ ?_
      · intro wx hb
        refine Rg.from_is (some 71) rfl rfl ?_
        refine Rg.from_is (some 78) rfl rfl ?_
        refine Rg.from_is (some 79) rfl rfl ?_
        refine Rg.from_nil fun T hT => ?_
        go_wp2_with (go_at_call 22; refine (mul_c _ _ _ hzu hyu hq _).mono ?_; rintro e w5 ⟨rfl, hw5⟩)
        exact hT _ _ rfl (below_of_dr hw5) rfl
      refine' Rg.op_is _ [] rfl rfl (by kernel_rfl) ?_ ?_
      rotate_left
      · intro wx hb
        refine Rg.from_nil fun T hT => ?_
        go_wp2
        refine hT _ _ rfl (by first | exact Rg.Keep.refl _ | exact below_of_dr hw2 | exact hw2 | exact (Below.refl _ _).alloc (Nat.le_refl _) _) ?_
        simp only [Rg.last, List.getElem?_toArray, List.getElem?_cons_succ, List.getElem?_cons_zero, Option.getD_some]
        rfl
      refine Rg.op_is (.int .u64 (mAdd s (mMul z y q) q)) [0, 13, 14] rfl rfl (by kernel_rfl) ?_ ?_
      · intro wx hb
        refine Rg.from_is (some 67) rfl rfl ?_
        refine Rg.from_is (some 80) rfl rfl ?_
        refine Rg.from_is (some 81) rfl rfl ?_
        refine Rg.from_nil fun T hT => ?_
        go_wp2_with (go_at_call 21; refine (add_c _ _ _ hs1 (mMul_u64 _ _ _) hq _).mono ?_; rintro e w5 ⟨rfl, hw5⟩)
        exact hT _ _ rfl (below_of_dr hw5) rfl
      refine Rg.walk_nil [0, 1, 2, 3, 4, 5, 6, 7, 8, 9, 10, 11, 12, 13, 14, 15] (by kernel_rfl) ?_
      intro wx hb
      refine Rg.from_is (some 67) rfl rfl ?_
      refine Rg.from_is (some 68) rfl rfl ?_
      refine Rg.from_is (some 69) rfl rfl ?_
      refine Rg.from_is (some 70) rfl rfl ?_
      refine Rg.from_is (some 71) rfl rfl ?_
      refine Rg.from_is (some 72) rfl rfl ?_
      refine Rg.from_is (some 73) rfl rfl ?_
      refine Rg.from_is (some 74) rfl rfl ?_
      refine Rg.from_is (some 75) rfl rfl ?_
      refine Rg.from_is (some 76) rfl rfl ?_
      refine Rg.from_is (some 77) rfl rfl ?_
      refine Rg.from_is (some 78) rfl rfl ?_
      refine Rg.from_is (some 79) rfl rfl ?_
      refine Rg.from_is (some 80) rfl rfl ?_
      refine Rg.from_is (some 81) rfl rfl ?_
      refine Rg.from_is (some 82) rfl rfl ?_
      refine Rg.from_nil ?_
      simp only [List.map, Act.put, List.setIfInBounds_toArray, List.set_cons_zero, List.set_cons_succ]
      have hcz2 := (hb.cell (lt_of_cell hcz)).trans hcz
      go_wp2_with (go_at_call 21; refine (add_c _ _ _ hs2 hzu hq _).mono ?_; rintro e w6 ⟨rfl, hw6⟩)
      go_roundw
      case rel => exact ⟨k + 1, by go_num, by omega, by rw [HST.out.1], by rw [HST.out.2], below_dr (below_next hw hw.size hb) hw6⟩
      case measure => simp [intOf]; omega
    · obtain rfl : k = own.length := by omega
      rw [HS.out.1] at hs1 ⊢
      have hsone : own.length = 0 ∨ 0 < own.length ∧ sumA own at_ q own.length = 1 := by
        rcases Nat.eq_zero_or_pos own.length with h | h
        · exact .inl h
        · exact .inr ⟨h, HS.out.2.2.1 h⟩
      have hev := eval_c C c1 cc at_ q wr ((hC4.below hb5).below hw) (by omega) hcu hat hq
      rw [hcl] at hev
      have HEV := hid hev
      clear hev
      generalize mEval c1 at_ q = y at *
      generalize sumA own at_ q own.length = a at *
      replace hb5 := below_next hb5 hb5.size hw
      clear hw hc5 hs2
      go_wp2_with (fail)
      refine HEV.out.mono ?_
      rintro e w6 ⟨rfl, hw6⟩
      replace hb5 := below_dr hb5 hw6
      clear hw6 HEV
      rcases hsone with h0 | ⟨h0, rfl⟩
      · go_wp2
        go_loopw [16, 17, 18, 19] (fun i _ _ _ wr => ∃ k : Nat, i = .int .i64 k ∧ k ≤ own.length ∧ Below w4.heap.size w4 wr) (fun i _ _ _ _ => own.length - (intOf i).toNat)
        case atStart => exact ⟨0, rfl, by omega, hb5⟩
        case round =>
          obtain ⟨k, rfl, hk, hw⟩ := hrel
          obtain rfl : k = own.length := by omega
          go_wp2
          go_ret
          exact ⟨rfl, below_next hb2 hb2.size hw⟩
      · go_wp2
        go_loopw [16, 17, 18, 19] (fun i _ _ _ wr => ∃ k : Nat, i = .int .i64 k ∧ k ≤ own.length ∧ Below w4.heap.size w4 wr) (fun i _ _ _ _ => own.length - (intOf i).toNat)
        case atStart => exact ⟨0, rfl, by omega, hb5⟩
        case round =>
          obtain ⟨k, rfl, hk, hw⟩ := hrel
          by_cases hlt : k < own.length
          · obtain ⟨x, hx⟩ := get_of_lt hlt
            obtain ⟨b1, o1, e1, hcx⟩ := (hc4.below hw).at_map hx
            have hxu := hou x (List.mem_of_getElem? hx)
            have HX := hid (fun j (hj : j < own.length) => HS.out.2.2.2.1 k j x hx hj)
            have HWT := hid (HS.out.2.2.2.2 x hxu wr hw)
            subst e1
            clear hx
            go_wp2_with (fail)
            refine HWT.out.mono ?_
            rintro e w7 ⟨v7, rfl, ho7, hb7⟩
            clear HWT
            obtain ⟨A7, c7, rfl, hc7⟩ := ho7.form
            clear ho7
            have hwl : (u64v (wAll own x q)).length = own.length := by rw [lu, wAll_len]
            rw [show ((wAll own x q).map (Value.int .u64)).length = own.length from hwl]
            clear hwl
            replace hw := below_next hw hw.size hb7
            clear hb7
            go_wp2
            go_loopw [19] (fun j w8 => ∃ m : Nat, j = .int .i64 m ∧ m ≤ own.length ∧ Below w7.heap.size w7 w8) (fun j _ => own.length - (intOf j).toNat)
            case atStart => exact ⟨0, rfl, by omega, Below.refl _ _⟩
            case round =>
              obtain ⟨j, rfl, hj, hw8⟩ := hrel
              by_cases hlt2 : j < own.length
              · have hz := wAll_one (y := x) (q := q) hlt2
                rw [HX.out j hlt2] at hz
                obtain ⟨b3, o3, e3, hcz⟩ := (hc7.below hw8).at_map hz
                subst e3
                clear hz
                by_cases hjk : j = k
                · subst hjk
                  rw [if_pos rfl] at hcz
                  go_wp2
                  go_roundw
                  case rel => exact ⟨j + 1, by go_num, by omega, hw8⟩
                  case measure => simp [intOf]; omega
                · rw [if_neg hjk] at hcz
                  have hjk2 : ((j : Int) == (k : Int)) = false := by simp; omega
                  have hjk3 : ((j : Int) != (k : Int)) = true := by simp; omega
                  go_wp2
                  go_roundw
                  case rel => exact ⟨j + 1, by go_num, by omega, hw8⟩
                  case measure => simp [intOf]; omega
              · obtain rfl : j = own.length := by omega
                go_wp2
                go_roundw
                case rel => exact ⟨k + 1, by go_num, by omega, below_next hw hw.size hw8⟩
                case measure => simp [intOf]; omega
          · obtain rfl : k = own.length := by omega
            go_wp2
            go_ret
            exact ⟨rfl, below_next hb2 hb2.size hw⟩
end Go.Proofs.YtgdfphcggjclkaaDoor
end
