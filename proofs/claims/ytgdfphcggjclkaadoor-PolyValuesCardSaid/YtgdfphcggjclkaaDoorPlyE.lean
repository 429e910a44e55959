/-
  Parts of: XPolE, XPolEx, XCmp, XAwake03 (by pick.py).
-/
import Derived.Test.YtgdfphcggjclkaaDoorPlyD
import Derived.Test.YtgdfphcggjclkaaDoorRaF
namespace Go.Proofs.YtgdfphcggjclkaaDoor
/-! From XPolE. -/
open Go.RowKit

attribute [local go_sem] Oper.semAt_some

/-- are two the same, modulo q? -/
def sameB (a b : List Int) (q : Int) : Bool := !okm q || (List.range (max a.length b.length)).all fun i => decide (cAt a i q = cAt b i q)
theorem sameB_no {a b : List Int} {q : Int} {i : Nat} (h : okm q = true) (hi : i < max a.length b.length) (hne : cAt a i q ≠ cAt b i q) : sameB a b q = false := by
  unfold sameB
  rw [h, Bool.not_true, Bool.false_or]
  rw [Bool.eq_false_iff]
  intro hall
  exact hne (of_decide_eq_true (List.all_eq_true.1 hall i (List.mem_range.2 hi)))
theorem sameB_yes {a b : List Int} {q : Int} (h : ∀ i, i < max a.length b.length → cAt a i q = cAt b i q) : sameB a b q = true := by
  unfold sameB
  rw [Bool.or_eq_true]
  exact .inr (List.all_eq_true.2 fun i hi => decide_eq_true (h i (List.mem_range.1 hi)))
theorem sameB_none {a b : List Int} {q : Int} (h : okm q = false) : sameB a b q = true := by unfold sameB; rw [h]; rfl

set_option maxRecDepth 100000 in
set_option maxHeartbeats 2000000 in
theorem psame_c (A B : Option Addr) (a b : List Int) (c d : Nat) (q : Int) (w : World) (hA : Cells w A (a.map (.int .u64))) (hB : Cells w B (b.map (.int .u64))) (hl : a.length ≤ 1000000) (hl' : b.length ≤ 1000000) (hu : U64s a) (hu' : U64s b) (hq : U64 q) :
    Calls Tryd.prog 29 #[.slice A a.length c, .slice B b.length d, .int .u64 q] w fun e w' => e = .returned (.bool (sameB a b q)) ∧ Below w.heap.size w w' := by
  by_cases h : okm q = true
  · obtain ⟨n, hn⟩ : ∃ n, max a.length b.length = n := ⟨_, rfl⟩
    have hni : max (a.length : Int) (b.length : Int) = (n : Int) := by omega
    have hnl : n ≤ 1000000 := by omega
    have HN := hid hn
    have HNI := hid hni
    clear hn
    go_enter Tryd.func29, Tryd.ntmps29
    go_wp2_with (go_at_call 64; refine (pmay_c _ hq _).mono ?_; rintro e w' ⟨rfl, rfl⟩; rw [h])
    refine (over_c A a.length c q w).mono ?_
    rintro e w1 ⟨g1, g2, rfl, r1, r2, hb1, _, _⟩
    go_wp2_with (fail)
    refine (over_c B b.length d q w1).mono ?_
    rintro e w2 ⟨g3, g4, rfl, r3, r4, hb2, _, _⟩
    have R1 := r1.below hb2
    have R2 := r2.below hb2
    have hb3 := below_next hb1 hb1.size hb2
    have hA2 := hA.keep fun p hp => hb3.cell hp
    have hB2 := hB.keep fun p hp => hb3.cell hp
    clear r1 r2 hb1 hb2
    go_wp2
    go_loopw [9, 24] (fun _ i wr => ∃ j : Nat, i = .int .i64 j ∧ j ≤ n ∧ (∀ k, k < j → cAt a k q = cAt b k q) ∧ Dr w2 wr) (fun _ i _ => n - (intOf i).toNat)
    case atStart => exact ⟨0, rfl, by omega, fun k hk => absurd hk (by omega), Dr.refl _⟩
    case round =>
      obtain ⟨j, rfl, hj, hsm, hw⟩ := hrel
      by_cases hlt : j < n
      · have R1' := R1.dr hw
        have R2' := R2.dr hw
        have R3' := r3.dr hw
        have R4' := r4.dr hw
        have hlti : (j : Int) < max (a.length : Int) (b.length : Int) := by omega
        go_wp2_with (fail)
        refine (over1_c A a c j g1 g2 q wr R1' R2' (hA2.dr hw) (by omega) (by omega) hu h).mono ?_
        rintro e w5 ⟨rfl, hw5⟩
        go_wp2_with (fail)
        refine (over1_c B b d j g3 g4 q w5 (R3'.dr hw5) (R4'.dr hw5) ((hB2.dr hw).dr hw5) (by omega) (by omega) hu' h).mono ?_
        rintro e w6 ⟨rfl, hw6⟩
        by_cases heq : cAt a j q = cAt b j q
        · have HE := hid heq
          rw [heq]
          clear heq
          go_wp2
          go_roundw
          case rel => exact ⟨j + 1, by go_num, by omega, fun k hk => by
            rcases Nat.lt_or_ge k j with h1 | h1
            · exact hsm k h1
            · obtain rfl : k = j := by omega
              exact HE.out, (hw.trans hw5).trans hw6⟩
          case measure => simp [intOf]; omega
        · have hsb := hid (sameB_no h (i := j) (by have := HN.out; omega) heq)
          go_wp2
          go_ret
          exact ⟨ret_bool hsb.out.symm, below_dr (below_dr (below_dr hb3 hw) hw5) hw6⟩
      · obtain rfl : j = n := by omega
        have hsb := hid (sameB_yes (a := a) (b := b) (q := q) (fun i hi => hsm i (by have := HN.out; omega)))
        have hlti : ¬ (j : Int) < max (a.length : Int) (b.length : Int) := by omega
        go_wp2
        go_ret
        exact ⟨ret_bool hsb.out.symm, below_dr hb3 hw⟩
  · have h' : okm q = false := by simpa using h
    have hsb := hid (sameB_none (a := a) (b := b) h')
    go_enter Tryd.func29, Tryd.ntmps29
    go_wp2_with (go_at_call 64; refine (pmay_c _ hq _).mono ?_; rintro e w' ⟨rfl, rfl⟩; rw [h'])
    go_ret
    exact ⟨ret_bool hsb.out.symm, Below.refl _ _⟩

/-- the last number of k that is not 0; -1, if there is none. -/
def dAt (l : List Int) (q : Int) : Nat → Int
  | 0 => -1
  | k + 1 => if cAt l k q = 0 then dAt l q k else k
def pDeg (l : List Int) (q : Int) : Int := if okm q then dAt l q l.length else -1

set_option maxRecDepth 100000 in
set_option maxHeartbeats 2000000 in
theorem pdeg_c (A : Option Addr) (l : List Int) (c : Nat) (q : Int) (w : World) (hA : Cells w A (l.map (.int .u64))) (hl : l.length ≤ 1000000) (hu : U64s l) (hq : U64 q) :
    Calls Tryd.prog 26 #[.slice A l.length c, .int .u64 q] w fun e w' => e = .returned (.int .i64 (pDeg l q)) ∧ w = w' := by
  by_cases h : okm q = true
  · have hps := hid (show pDeg l q = dAt l q l.length by unfold pDeg; rw [if_pos h])
    have h0 := okm_pos h
    have h1 := okm_le h
    go_enter Tryd.func26, Tryd.ntmps26
    go_wp2
    go_loopw [5] (fun i wr => ∃ k : Nat, i = .int .i64 ((k : Int) - 1) ∧ k ≤ l.length ∧ dAt l q k = dAt l q l.length ∧ w = wr) (fun i _ => (intOf i + 1).toNat)
    case atStart => exact ⟨l.length, rfl, Nat.le_refl _, rfl, rfl⟩
    case round =>
      obtain ⟨k, rfl, hk, hd, rfl⟩ := hrel
      cases k with
      | zero =>
        have HD := hid hd
        clear hd
        go_wp2
        go_ret
        refine ⟨ret_int ?_, rfl⟩
        rw [hps.out, ← HD.out]; rfl
      | succ k =>
        obtain ⟨z, hz⟩ := get_of_lt (l := l) (show k < l.length by omega)
        obtain ⟨o2, off2, rfl, hcz⟩ := hA.at_map hz
        obtain ⟨z0, z1⟩ := hu.at_ hz
        have he := cAt_in hz q
        have hi : ((k + 1 : Nat) : Int) - 1 = (k : Int) := by omega
        have hm0 := Int.emod_nonneg z (b := q) (by omega)
        have hm1 := Int.emod_lt_of_pos z h0
        rw [hi]
        by_cases hzero : z % q = 0
        · have hstep : dAt l q k = dAt l q l.length := by rw [← hd, dAt, if_pos (by rw [he]; exact hzero)]
          have HS := hid hstep
          have hbq : (z % q == 0) = true := beq_iff_eq.2 hzero
          clear hd he hz hstep hzero
          go_wp2_with (go_at_call 64; refine (pmay_c _ hq _).mono ?_; rintro e w' ⟨rfl, rfl⟩; rw [h])
          go_roundw
          case rel => exact ⟨k, rfl, by omega, HS.out, trivial⟩
          case measure => simp [intOf]
        · have hstep : (k : Int) = pDeg l q := by rw [hps.out, ← hd, dAt, if_neg (by rw [he]; exact hzero)]
          have HS := hid hstep
          have hbq : (z % q == 0) = false := beq_eq_false_iff_ne.2 hzero
          clear hd he hz hstep
          go_wp2_with (go_at_call 64; refine (pmay_c _ hq _).mono ?_; rintro e w' ⟨rfl, rfl⟩; rw [h])
          go_ret
          exact ⟨ret_int HS.out, rfl⟩
  · have h' : okm q = false := by simpa using h
    have hps := hid (show pDeg l q = -1 by unfold pDeg; rw [if_neg h])
    go_enter Tryd.func26, Tryd.ntmps26
    go_wp2
    go_loopw [5] (fun i wr => ∃ k : Nat, i = .int .i64 ((k : Int) - 1) ∧ k ≤ l.length ∧ w = wr) (fun i _ => (intOf i + 1).toNat)
    case atStart => exact ⟨l.length, rfl, Nat.le_refl _, rfl⟩
    case round =>
      obtain ⟨k, rfl, hk, rfl⟩ := hrel
      cases k with
      | zero =>
        go_wp2
        go_ret
        exact ⟨ret_int hps.out.symm, rfl⟩
      | succ k =>
        have hi : ((k + 1 : Nat) : Int) - 1 = (k : Int) := by omega
        rw [hi]
        go_wp2_with (go_at_call 64; refine (pmay_c _ hq _).mono ?_; rintro e w' ⟨rfl, rfl⟩; rw [h'])
        go_roundw
        case rel => exact ⟨k, rfl, by omega, trivial⟩
        case measure => simp [intOf]

/-! From XPolEx. -/

/-- are these the inverses of the products? -/
def unitsB (xs : List Int) (q : Int) (ivs : List Int) : Bool := decide (eUnlike xs q = 0) && (List.range xs.length).all fun k => decide (0 ≤ ivs.getD k 0) && decide (ivs.getD k 0 < q) && decide ((ivs.getD k 0 * mProd (but xs k) (xs.getD k 0) q) % q = 1 % q)
theorem units_ok {xs : List Int} {q : Int} {ivs : List Int} (h : unitsB xs q ivs = true) : okm q = true ∧ eUnlike xs q = 0 ∧ eAll xs q = 0 ∧ ∀ k, k < xs.length → iVal (mProd (but xs k) (xs.getD k 0) q) q = ivs.getD k 0 := by
  simp only [unitsB, Bool.and_eq_true, decide_eq_true_eq, List.all_eq_true, List.mem_range] at h
  obtain ⟨h1, h2⟩ := h
  have hk := unlike_okm h1
  have h3 : ∀ k, k < xs.length → InvIs (mProd (but xs k) (xs.getD k 0) q) q (ivs.getD k 0) := fun k hk' => by
    obtain ⟨⟨h3, h4⟩, h5⟩ := h2 k hk'
    refine ⟨h3, h4, (ivs.getD k 0 * mProd (but xs k) (xs.getD k 0) q) / q - 1 / q, ?_⟩
    have e1 := Int.mul_ediv_add_emod (ivs.getD k 0 * mProd (but xs k) (xs.getD k 0) q) q
    have e2 := Int.mul_ediv_add_emod 1 q
    rw [h5] at e1
    rw [Int.mul_sub]
    omega
  refine ⟨hk, h1, eAll_yes h1 (apart_iff.2 fun i x hx => ?_), fun k hk' => iVal_is hk (h3 k hk')⟩
  have hi := (List.getElem?_eq_some_iff.1 hx).1
  have hgx : xs.getD i 0 = x := by rw [List.getD_eq_getElem?_getD, hx]; rfl
  have := un_of_inv (h3 i hi)
  rw [hgx] at this
  exact this.congr (by rw [mProd_emod hk, Int.emod_emod])
theorem wList_eval {xs : List Int} {q : Int} (ivs : List Int) (h : unitsB xs q ivs = true) (y : Int) : wList xs y q = (List.range xs.length).map fun k => mMul (ivs.getD k 0) (mProd (but xs k) y q) q := by
  obtain ⟨_, _, h1, h2⟩ := units_ok h
  unfold wList wAll
  rw [if_pos h1]
  apply List.map_congr_left
  intro k hk
  rw [wOne, h2 k (List.mem_range.1 hk)]
def pOutC (xs ys : List Int) (q : Int) (ivs : List Int) : Nat → List Int
  | 0 => List.replicate xs.length 0
  | k + 1 => pSum (pOutC xs ys q ivs k) (pScale (withoutL (pAll xs q) (xs.getD k 0) q) (mMul (ivs.getD k 0) (ys.getD k 0) q) q) q
theorem pOut_eval {xs : List Int} {q : Int} (ivs : List Int) (h : unitsB xs q ivs = true) (ys : List Int) : ∀ k, k ≤ xs.length → pOut xs ys q k = pOutC xs ys q ivs k
  | 0, _ => rfl
  | k + 1, hk => by
    obtain ⟨_, _, _, h2⟩ := units_ok h
    rw [pOut, pOutC, pOut_eval ivs h ys k (by omega), h2 k (by omega)]
theorem tVal_eval {xs ys : List Int} {q : Int} (ivs : List Int) (h : unitsB xs q ivs = true) (hl : xs.length = ys.length) : tErr xs ys q = 0 ∧ tVal xs ys q = pOutC xs ys q ivs xs.length := by
  obtain ⟨_, _, h1, _⟩ := units_ok h
  have he : tErr xs ys q = 0 := by unfold tErr; rw [if_pos hl, h1]
  exact ⟨he, by rw [tVal_ok he, pOut_eval ivs h ys _ (Nat.le_refl _)]⟩
theorem not_un {a q d : Int} (h1 : d ∣ a) (h2 : d ∣ q) (h3 : ¬ d ∣ 1) : ¬ Un a q := by
  rintro ⟨x, hx⟩
  apply h3
  have e1 := Int.mul_ediv_add_emod (x * a) q
  have e2 := Int.mul_ediv_add_emod 1 q
  have : (1 : Int) = x * a - q * (x * a / q) + q * (1 / q) := by rw [hx] at e1; omega
  rw [this]
  exact Int.dvd_add (Int.dvd_sub (Int.dvd_trans h1 (Int.dvd_mul_left _ _)) (Int.dvd_trans h2 (Int.dvd_mul_right _ _))) (Int.dvd_trans h2 (Int.dvd_mul_right _ _))

theorem ex_w : wList [1, 2, 3] 0 11 = [3, 8, 1] := by
  rw [wList_eval [6, 10, 6] (by decide)]; decide
theorem ex_we : eAll [1, 2, 3] 11 = 0 := (units_ok (ivs := [6, 10, 6]) (by decide)).2.2.1
theorem ex_te : tErr [1, 2, 3] [6, 0, 7] 11 = 0 := (tVal_eval [6, 10, 6] (by decide) rfl).1
theorem ex_t : tVal [1, 2, 3] [6, 0, 7] 11 = [3, 2, 1] := by
  rw [(tVal_eval (xs := [1, 2, 3]) (ys := [6, 0, 7]) (q := 11) [6, 10, 6] (by decide) rfl).2]; decide

/-! From XCmp. -/
open Go.RowKit

/-- the first k are the same. -/
def SameUptoN (la lb : List Int) (k : Nat) : Prop := ∀ i, i < k → la[i]? = lb[i]?
theorem SameUptoN.step {la lb : List Int} {k : Nat} {x : Int} (h : SameUptoN la lb k) (ha : la[k]? = some x) (hb : lb[k]? = some x) : SameUptoN la lb (k + 1) := by
  intro i hi
  rcases Nat.lt_or_ge i k with h' | h'
  · exact h i h'
  · obtain rfl : i = k := by omega
    rw [ha, hb]
theorem SameUptoN.all {la lb : List Int} (hl : la.length = lb.length) (h : SameUptoN la lb la.length) : la = lb := by
  apply List.ext_getElem?
  intro i
  rcases Nat.lt_or_ge i la.length with h' | h'
  · exact h i h'
  · rw [List.getElem?_eq_none h', List.getElem?_eq_none (by omega)]

set_option maxHeartbeats 400000 in
theorem numbers_c (A B : Option Addr) (la lb : List Int) (ca cb : Nat) (w : World) (hA : Cells w A (la.map (.int .u64))) (hB : Cells w B (lb.map (.int .u64))) (hl : la.length ≤ 9223372036854775807) (hl' : lb.length ≤ 9223372036854775807) :
    Calls Tryd.prog 58 #[.slice A la.length ca, .slice B lb.length cb] w fun e w' => e = .returned (.bool (decide (la = lb))) ∧ Dr w w' := by
  by_cases hlen : la.length = lb.length
  · have hb : (((la.length : Nat) : Int) != ((lb.length : Nat) : Int)) = false := by simp [hlen]
    have HL := hid hlen
    clear hlen
    go_enter Tryd.func58, Tryd.ntmps58
    go_wp2
    go_loopw [5] (fun i wr => ∃ k : Nat, i = .int .i64 k ∧ k ≤ la.length ∧ SameUptoN la lb k ∧ Dr w wr) (fun i _ => la.length - (intOf i).toNat)
    case atStart => exact ⟨0, rfl, by omega, fun i hi => absurd hi (by omega), Dr.refl w⟩
    case round =>
      obtain ⟨k, rfl, hk, hsame, hw⟩ := hrel
      by_cases hlt : k < la.length
      · obtain ⟨x, hx⟩ := get_of_lt hlt
        obtain ⟨y, hy⟩ := get_of_lt (l := lb) (show k < lb.length by have := HL.out; omega)
        obtain ⟨b, off, rfl, hc⟩ := (hA.dr hw).at_map hx
        obtain ⟨b', off', rfl, hc'⟩ := (hB.dr hw).at_map hy
        have hlt' : k < lb.length := by have := HL.out; omega
        by_cases hxy : x = y
        · subst hxy
          have hn : (x != x) = false := by simp
          have hs := hsame.step hx hy
          go_wp2
          go_quiet (fail)
          go_wp2
          go_roundw
          case rel => exact ⟨k + 1, by go_num, by omega, hs, hw.more _⟩
          case measure => simp [intOf]; omega
        · have hn : (x != y) = true := by simpa using hxy
          have hfin : decide (la = lb) = false := by
            simp only [decide_eq_false_iff_not]
            rintro rfl
            rw [hx] at hy
            exact hxy (Option.some.inj hy)
          have HF := hid hfin
          clear hfin hxy
          go_wp2
          go_quiet (fail)
          go_wp2
          go_ret
          exact ⟨ret_bool HF.out.symm, hw.more _⟩
      · have hfin : decide (la = lb) = true := by
          obtain rfl : k = la.length := by omega
          simp only [decide_eq_true_eq]
          exact hsame.all HL.out
        have HF := hid hfin
        clear hfin
        go_wp2
        go_ret
        exact ⟨ret_bool HF.out.symm, hw⟩
  · have hb : (((la.length : Nat) : Int) != ((lb.length : Nat) : Int)) = true := by simp; omega
    have hfin : decide (la = lb) = false := by
      simp only [decide_eq_false_iff_not]
      rintro rfl
      exact hlen rfl
    have HF := hid hfin
    clear hfin hlen
    go_enter Tryd.func58, Tryd.ntmps58
    go_wp2
    go_ret
    exact ⟨ret_bool HF.out.symm, Dr.refl w⟩

/-! From XAwake03. -/
open Go.RowKit

attribute [local go_sem] Oper.semAt_some

/-- a row that has just been laid. -/
theorem new_cells (w : World) (l : List Int) (e : TypeId) : Cells (w.alloc (.cells (l.map (Value.int .u64)).toArray e)) (some ⟨w.heap.size, 0, none⟩) (l.map (.int .u64)) := (row1_new w _ e).cells
theorem below_of_eq {w a b : World} {B : Nat} (h : Below B w a) (e : a = b) : Below B w b := e ▸ h
theorem Cells.more {w w' : World} {A : Option Addr} {xs : List Value} (h : Cells w A xs) (hb : Below w.heap.size w w') : Cells w' A xs := h.keep fun p hp => hb.cell hp

set_option maxRecDepth 100000 in
set_option maxHeartbeats 600000 in
theorem awake03_c (w : World) : Calls Tryd.prog 17 #[] w fun e w' => e = .returned (.bool true) ∧ Below w.heap.size w w' := by
  have hq : U64 11 := ⟨by decide, by decide⟩
  go_enter Tryd.func17, Tryd.ntmps17
  go_wp2_with (fail)
  refine (pweights_c _ [1, 2, 3] 3 0 11 _ (new_cells w [1, 2, 3] 23) (by decide) (u64s_of (by decide)) ⟨by decide, by decide⟩ hq).mono ?_
  rintro e w2 ⟨v2, rfl, hown2, hb2⟩
  rw [ex_we]
  rw [ex_w] at hown2
  obtain ⟨A2, c2, rfl, hc2⟩ := hown2.form
  have hB2 := below_next (below_alloc w _) (below_alloc w _).size hb2
  clear hown2 hb2
  go_wp2_with (fail)
  refine (pthrough_c _ _ [1, 2, 3] [6, 0, 7] 3 3 11 _ ((new_cells w2 [1, 2, 3] 23).more (below_alloc _ _)) (by simpa using new_cells (w2.alloc (.cells #[.int .u64 1, .int .u64 2, .int .u64 3] 23)) [6, 0, 7] 23) (by decide) (by decide) (u64s_of (by decide)) (u64s_of (by decide)) hq).mono ?_
  rintro e w4 ⟨v4, rfl, hown4, hb4⟩
  rw [ex_te]
  rw [ex_t] at hown4
  obtain ⟨A4, c4, rfl, hc4⟩ := hown4.form
  have hB3 : Below w2.heap.size w2 ((w2.alloc (.cells #[.int .u64 1, .int .u64 2, .int .u64 3] 23)).alloc (.cells #[.int .u64 6, .int .u64 0, .int .u64 7] 23)) := (below_alloc w2 _).alloc (by simp) _
  have hB4 := below_next hB3 hB3.size hb4
  have hc24 := hc2.more hB4
  have hBw4 := below_next hB2 hB2.size hB4
  clear hc2 hown4 hb4 hB3 hB4 hB2
  go_wp2_with (fail)
  refine (eval_c _ [3, 2, 1] 3 4 11 _ (new_cells w4 [3, 2, 1] 23) (by decide) (u64s_of (by decide)) ⟨by decide, by decide⟩ hq).mono ?_
  rintro e w6 ⟨rfl, hw6⟩
  rw [show mEval [3, 2, 1] 4 11 = 5 from by decide]
  have hB6 := below_dr (below_alloc w4 (.cells #[.int .u64 3, .int .u64 2, .int .u64 1] 23)) hw6
  have hc26 := hc24.more hB6
  have hc46 := hc4.more hB6
  have hBw6 := below_next hBw4 hBw4.size hB6
  clear hc24 hc4 hB6 hBw4 hw6
  go_wp2_with (fail)
  refine (pdeg_c _ [3, 2, 1, 0] 4 11 _ (new_cells w6 [3, 2, 1, 0] 23) (by decide) (u64s_of (by decide)) hq).mono ?_
  rintro e w7 ⟨rfl, hw7⟩
  rw [show pDeg [3, 2, 1, 0] 11 = 2 from by decide]
  have hB7 := below_of_eq (w := w6) (below_alloc w6 _) hw7
  have hBw7 := below_next hBw6 hBw6.size hB7
  have hc27 := hc26.more hB7
  have hc47 := hc46.more hB7
  clear hc26 hc46 hBw6 hB7 hw7
  go_wp2_with (fail)
  refine (ptimes_c _ _ [1, 1] [1, 10] 2 2 11 _ ((new_cells w7 [1, 1] 23).more (below_alloc _ _)) (by simpa using new_cells (w7.alloc (.cells #[.int .u64 1, .int .u64 1] 23)) [1, 10] 23) (by decide) (by decide) (u64s_of (by decide)) (u64s_of (by decide)) hq).mono ?_
  rintro e w8 ⟨v8, rfl, hown8, hb8⟩
  rw [show pTimes [1, 1] [1, 10] 11 = [1, 0, 10] from by decide] at hown8
  obtain ⟨A8, c8, rfl, hc8⟩ := hown8.form
  have hB7 : Below w7.heap.size w7 ((w7.alloc (.cells #[.int .u64 1, .int .u64 1] 23)).alloc (.cells #[.int .u64 1, .int .u64 10] 23)) := (below_alloc w7 _).alloc (by simp) _
  have hB8 := below_next hB7 hB7.size hb8
  have hBw8 := below_next hBw7 hBw7.size hB8
  have hc28 := hc27.more hB8
  have hc48 := hc47.more hB8
  clear hown8 hb8 hB7 hB8 hBw7 hc27 hc47
  go_wp2_with (fail)
  refine (numbers_c A8 _ [1, 0, 10] [1, 0, 10] c8 3 _ (hc8.more (below_alloc _ _)) (new_cells w8 [1, 0, 10] 23) (by decide) (by decide)).mono ?_
  rintro e w9 ⟨rfl, hw9⟩
  rw [show decide (([1, 0, 10] : List Int) = [1, 0, 10]) = true from by decide]
  have hB9 := below_dr (below_alloc w8 (.cells #[.int .u64 1, .int .u64 0, .int .u64 10] 23)) hw9
  have hBw9 := below_next hBw8 hBw8.size hB9
  have hc29 := hc28.more hB9
  have hc49 := hc48.more hB9
  clear hc8 hw9 hB9 hBw8 hc28 hc48
  go_wp2_with (fail)
  refine (numbers_c A2 _ [3, 8, 1] [3, 8, 1] c2 3 _ (hc29.more (below_alloc _ _)) (new_cells w9 [3, 8, 1] 23) (by decide) (by decide)).mono ?_
  rintro e w10 ⟨rfl, hw10⟩
  rw [show decide (([3, 8, 1] : List Int) = [3, 8, 1]) = true from by decide]
  have hB10 := below_dr (below_alloc w9 (.cells #[.int .u64 3, .int .u64 8, .int .u64 1] 23)) hw10
  have hBw10 := below_next hBw9 hBw9.size hB10
  have hc410 := hc49.more hB10
  clear hw10 hB10 hBw9 hc29 hc49
  go_wp2_with (fail)
  refine (numbers_c A4 _ [3, 2, 1] [3, 2, 1] c4 3 _ (hc410.more (below_alloc _ _)) (new_cells w10 [3, 2, 1] 23) (by decide) (by decide)).mono ?_
  rintro e w11 ⟨rfl, hw11⟩
  rw [show decide (([3, 2, 1] : List Int) = [3, 2, 1]) = true from by decide]
  have hB11 := below_dr (below_alloc w10 (.cells #[.int .u64 3, .int .u64 2, .int .u64 1] 23)) hw11
  have hBw11 := below_next hBw10 hBw10.size hB11
  clear hw11 hB11 hBw10 hc410
  go_wp2
  go_ret
  exact ⟨rfl, hBw11⟩

end Go.Proofs.YtgdfphcggjclkaaDoor
