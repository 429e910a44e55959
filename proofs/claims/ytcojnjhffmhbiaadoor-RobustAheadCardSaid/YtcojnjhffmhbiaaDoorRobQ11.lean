/-
  Parts of these texts that the statement needs: PlyE, PoA, Lin, RaQ, PoP.
-/
import Derived.Test.YtcojnjhffmhbiaaDoorRobQ8
import Derived.Test.YtcojnjhffmhbiaaDoorRobQ9
import Derived.Test.YtcojnjhffmhbiaaDoorRobQ2
import Derived.Test.YtcojnjhffmhbiaaDoorPsA

section
namespace Go.Proofs.YtcojnjhffmhbiaaDoor
open Go.RowKit
attribute [local go_sem] Oper.semAt_some
/-- are two the same, modulo q? -/
def sameB (a b : List Int) (q : Int) : Bool := !okm q || (List.range (max a.length b.length)).all fun i => decide (cAt a i q = cAt b i q)
theorem sameB_no {a b : List Int} {q : Int} {i : Nat} (h : okm q = true) (hi : i < max a.length b.length) (hne : cAt a i q ≠ cAt b i q) : sameB a b q = false := by
  unfold sameB
  rw [h, Bool.not_true, Bool.false_or]
  rw [Bool.eq_false_iff]
  intro hall
  exact hne (of_decide_eq_true (List.all_eq_true.1 hall i (List.mem_range.2 hi)))
theorem sameB_yes {a b : List Int} {q : Int} (h : ∀ i, i < max a.length b.length → cAt a i q = cAt b i q) : sameB a b q = true := by
  unfold sameB
  rw [Bool.or_eq_true]
  exact .inr (List.all_eq_true.2 fun i hi => decide_eq_true (h i (List.mem_range.1 hi)))
theorem sameB_none {a b : List Int} {q : Int} (h : okm q = false) : sameB a b q = true := by unfold sameB; rw [h]; rfl
set_option maxRecDepth 100000 in
set_option maxHeartbeats 2000000 in
theorem psame_c (A B : Option Addr) (a b : List Int) (c d : Nat) (q : Int) (w : World) (hA : Cells w A (a.map (.int .u64))) (hB : Cells w B (b.map (.int .u64))) (hl : a.length ≤ 1000000) (hl' : b.length ≤ 1000000) (hu : U64s a) (hu' : U64s b) (hq : U64 q) :
    Calls Tryd.prog 67 #[.slice A a.length c, .slice B b.length d, .int .u64 q] w fun e w' => e = .returned (.bool (sameB a b q)) ∧ Below w.heap.size w w' := by
  by_cases h : okm q = true
  · obtain ⟨n, hn⟩ : ∃ n, max a.length b.length = n := ⟨_, rfl⟩
    have hni : max (a.length : Int) (b.length : Int) = (n : Int) := by omega
    have hnl : n ≤ 1000000 := by omega
    have HN := hid hn
    have HNI := hid hni
    clear hn
    go_enter Tryd.func67, Tryd.ntmps67
    go_wp2_with (go_at_call 112; refine (pmay_c _ hq _).mono ?_; rintro e w' ⟨rfl, rfl⟩; rw [h])
    refine (over_c A a.length c q w).mono ?_
    rintro e w1 ⟨g1, g2, rfl, r1, r2, hb1, _, _⟩
    go_wp2_with (fail)
    refine (over_c B b.length d q w1).mono ?_
    rintro e w2 ⟨g3, g4, rfl, r3, r4, hb2, _, _⟩
    have R1 := r1.below hb2
    have R2 := r2.below hb2
    have hb3 := below_next hb1 hb1.size hb2
    have hA2 := hA.keep fun p hp => hb3.cell hp
    have hB2 := hB.keep fun p hp => hb3.cell hp
    clear r1 r2 hb1 hb2
    go_wp2
    go_loopw [9, 24] (fun _ i wr => ∃ j : Nat, i = .int .i64 j ∧ j ≤ n ∧ (∀ k, k < j → cAt a k q = cAt b k q) ∧ Dr w2 wr) (fun _ i _ => n - (intOf i).toNat)
    case atStart => exact ⟨0, rfl, by omega, fun k hk => absurd hk (by omega), Dr.refl _⟩
    case round =>
      obtain ⟨j, rfl, hj, hsm, hw⟩ := hrel
      by_cases hlt : j < n
      · have R1' := R1.dr hw
        have R2' := R2.dr hw
        have R3' := r3.dr hw
        have R4' := r4.dr hw
        have hlti : (j : Int) < max (a.length : Int) (b.length : Int) := by omega
        go_wp2_with (fail)
        refine (over1_c A a c j g1 g2 q wr R1' R2' (hA2.dr hw) (by omega) (by omega) hu h).mono ?_
        rintro e w5 ⟨rfl, hw5⟩
        go_wp2_with (fail)
        refine (over1_c B b d j g3 g4 q w5 (R3'.dr hw5) (R4'.dr hw5) ((hB2.dr hw).dr hw5) (by omega) (by omega) hu' h).mono ?_
        rintro e w6 ⟨rfl, hw6⟩
        by_cases heq : cAt a j q = cAt b j q
        · have HE := hid heq
          rw [heq]
          clear heq
          go_wp2
          go_roundw
          case rel => exact ⟨j + 1, by go_num, by omega, fun k hk => by
            rcases Nat.lt_or_ge k j with h1 | h1
            · exact hsm k h1
            · obtain rfl : k = j := by omega
              exact HE.out, (hw.trans hw5).trans hw6⟩
          case measure => simp [intOf]; omega
        · have hsb := hid (sameB_no h (i := j) (by have := HN.out; omega) heq)
          go_wp2
          go_ret
          exact ⟨ret_bool hsb.out.symm, below_dr (below_dr (below_dr hb3 hw) hw5) hw6⟩
      · obtain rfl : j = n := by omega
        have hsb := hid (sameB_yes (a := a) (b := b) (q := q) (fun i hi => hsm i (by have := HN.out; omega)))
        have hlti : ¬ (j : Int) < max (a.length : Int) (b.length : Int) := by omega
        go_wp2
        go_ret
        exact ⟨ret_bool hsb.out.symm, below_dr hb3 hw⟩
  · have h' : okm q = false := by simpa using h
    have hsb := hid (sameB_none (a := a) (b := b) h')
    go_enter Tryd.func67, Tryd.ntmps67
    go_wp2_with (go_at_call 112; refine (pmay_c _ hq _).mono ?_; rintro e w' ⟨rfl, rfl⟩; rw [h'])
    go_ret
    exact ⟨ret_bool hsb.out.symm, Below.refl _ _⟩
/-- the last number of k that is not 0; -1, if there is none. -/
def dAt (l : List Int) (q : Int) : Nat → Int
  | 0 => -1
  | k + 1 => if cAt l k q = 0 then dAt l q k else k
def pDeg (l : List Int) (q : Int) : Int := if okm q then dAt l q l.length else -1
/-- are these the inverses of the products? -/
def unitsB (xs : List Int) (q : Int) (ivs : List Int) : Bool := decide (eUnlike xs q = 0) && (List.range xs.length).all fun k => decide (0 ≤ ivs.getD k 0) && decide (ivs.getD k 0 < q) && decide ((ivs.getD k 0 * mProd (but xs k) (xs.getD k 0) q) % q = 1 % q)
theorem units_ok {xs : List Int} {q : Int} {ivs : List Int} (h : unitsB xs q ivs = true) : okm q = true ∧ eUnlike xs q = 0 ∧ eAll xs q = 0 ∧ ∀ k, k < xs.length → iVal (mProd (but xs k) (xs.getD k 0) q) q = ivs.getD k 0 := by
  simp only [unitsB, Bool.and_eq_true, decide_eq_true_eq, List.all_eq_true, List.mem_range] at h
  obtain ⟨h1, h2⟩ := h
  have hk := unlike_okm h1
  have h3 : ∀ k, k < xs.length → InvIs (mProd (but xs k) (xs.getD k 0) q) q (ivs.getD k 0) := fun k hk' => by
    obtain ⟨⟨h3, h4⟩, h5⟩ := h2 k hk'
    refine ⟨h3, h4, (ivs.getD k 0 * mProd (but xs k) (xs.getD k 0) q) / q - 1 / q, ?_⟩
    have e1 := Int.mul_ediv_add_emod (ivs.getD k 0 * mProd (but xs k) (xs.getD k 0) q) q
    have e2 := Int.mul_ediv_add_emod 1 q
    rw [h5] at e1
    rw [Int.mul_sub]
    omega
  refine ⟨hk, h1, eAll_yes h1 (apart_iff.2 fun i x hx => ?_), fun k hk' => iVal_is hk (h3 k hk')⟩
  have hi := (List.getElem?_eq_some_iff.1 hx).1
  have hgx : xs.getD i 0 = x := by rw [List.getD_eq_getElem?_getD, hx]; rfl
  have := un_of_inv (h3 i hi)
  rw [hgx] at this
  exact this.congr (by rw [mProd_emod hk, Int.emod_emod])
theorem wList_eval {xs : List Int} {q : Int} (ivs : List Int) (h : unitsB xs q ivs = true) (y : Int) : wList xs y q = (List.range xs.length).map fun k => mMul (ivs.getD k 0) (mProd (but xs k) y q) q := by
  obtain ⟨_, _, h1, h2⟩ := units_ok h
  unfold wList wAll
  rw [if_pos h1]
  apply List.map_congr_left
  intro k hk
  rw [wOne, h2 k (List.mem_range.1 hk)]
def pOutC (xs ys : List Int) (q : Int) (ivs : List Int) : Nat → List Int
  | 0 => List.replicate xs.length 0
  | k + 1 => pSum (pOutC xs ys q ivs k) (pScale (withoutL (pAll xs q) (xs.getD k 0) q) (mMul (ivs.getD k 0) (ys.getD k 0) q) q) q
theorem pOut_eval {xs : List Int} {q : Int} (ivs : List Int) (h : unitsB xs q ivs = true) (ys : List Int) : ∀ k, k ≤ xs.length → pOut xs ys q k = pOutC xs ys q ivs k
  | 0, _ => rfl
  | k + 1, hk => by
    obtain ⟨_, _, _, h2⟩ := units_ok h
    rw [pOut, pOutC, pOut_eval ivs h ys k (by omega), h2 k (by omega)]
theorem tVal_eval {xs ys : List Int} {q : Int} (ivs : List Int) (h : unitsB xs q ivs = true) (hl : xs.length = ys.length) : tErr xs ys q = 0 ∧ tVal xs ys q = pOutC xs ys q ivs xs.length := by
  obtain ⟨_, _, h1, _⟩ := units_ok h
  have he : tErr xs ys q = 0 := by unfold tErr; rw [if_pos hl, h1]
  exact ⟨he, by rw [tVal_ok he, pOut_eval ivs h ys _ (Nat.le_refl _)]⟩
theorem ex_w : wList [1, 2, 3] 0 11 = [3, 8, 1] := by
  rw [wList_eval [6, 10, 6] (by decide)]; decide
theorem ex_we : eAll [1, 2, 3] 11 = 0 := (units_ok (ivs := [6, 10, 6]) (by decide)).2.2.1
theorem ex_te : tErr [1, 2, 3] [6, 0, 7] 11 = 0 := (tVal_eval [6, 10, 6] (by decide) rfl).1
theorem ex_t : tVal [1, 2, 3] [6, 0, 7] 11 = [3, 2, 1] := by
  rw [(tVal_eval (xs := [1, 2, 3]) (ys := [6, 0, 7]) (q := 11) [6, 10, 6] (by decide) rfl).2]; decide
open Go.RowKit
/-- the first k are the same. -/
def SameUptoN (la lb : List Int) (k : Nat) : Prop := ∀ i, i < k → la[i]? = lb[i]?
theorem SameUptoN.step {la lb : List Int} {k : Nat} {x : Int} (h : SameUptoN la lb k) (ha : la[k]? = some x) (hb : lb[k]? = some x) : SameUptoN la lb (k + 1) := by
  intro i hi
  rcases Nat.lt_or_ge i k with h' | h'
  · exact h i h'
  · obtain rfl : i = k := by omega
    rw [ha, hb]
theorem SameUptoN.all {la lb : List Int} (hl : la.length = lb.length) (h : SameUptoN la lb la.length) : la = lb := by
  apply List.ext_getElem?
  intro i
  rcases Nat.lt_or_ge i la.length with h' | h'
  · exact h i h'
  · rw [List.getElem?_eq_none h', List.getElem?_eq_none (by omega)]
set_option maxHeartbeats 400000 in
theorem numbers_c (A B : Option Addr) (la lb : List Int) (ca cb : Nat) (w : World) (hA : Cells w A (la.map (.int .u64))) (hB : Cells w B (lb.map (.int .u64))) (hl : la.length ≤ 9223372036854775807) (hl' : lb.length ≤ 9223372036854775807) :
    Calls Tryd.prog 59 #[.slice A la.length ca, .slice B lb.length cb] w fun e w' => e = .returned (.bool (decide (la = lb))) ∧ Dr w w' := by
  by_cases hlen : la.length = lb.length
  · have hb : (((la.length : Nat) : Int) != ((lb.length : Nat) : Int)) = false := by simp [hlen]
    have HL := hid hlen
    clear hlen
    go_enter Tryd.func59, Tryd.ntmps59
    go_wp2
    go_loopw [5] (fun i wr => ∃ k : Nat, i = .int .i64 k ∧ k ≤ la.length ∧ SameUptoN la lb k ∧ Dr w wr) (fun i _ => la.length - (intOf i).toNat)
    case atStart => exact ⟨0, rfl, by omega, fun i hi => absurd hi (by omega), Dr.refl w⟩
    case round =>
      obtain ⟨k, rfl, hk, hsame, hw⟩ := hrel
      by_cases hlt : k < la.length
      · obtain ⟨x, hx⟩ := get_of_lt hlt
        obtain ⟨y, hy⟩ := get_of_lt (l := lb) (show k < lb.length by have := HL.out; omega)
        obtain ⟨b, off, rfl, hc⟩ := (hA.dr hw).at_map hx
        obtain ⟨b', off', rfl, hc'⟩ := (hB.dr hw).at_map hy
        have hlt' : k < lb.length := by have := HL.out; omega
        by_cases hxy : x = y
        · subst hxy
          have hn : (x != x) = false := by simp
          have hs := hsame.step hx hy
          go_wp2
          go_quiet (fail)
          go_wp2
          go_roundw
          case rel => exact ⟨k + 1, by go_num, by omega, hs, hw.more _⟩
          case measure => simp [intOf]; omega
        · have hn : (x != y) = true := by simpa using hxy
          have hfin : decide (la = lb) = false := by
            simp only [decide_eq_false_iff_not]
            rintro rfl
            rw [hx] at hy
            exact hxy (Option.some.inj hy)
          have HF := hid hfin
          clear hfin hxy
          go_wp2
          go_quiet (fail)
          go_wp2
          go_ret
          exact ⟨ret_bool HF.out.symm, hw.more _⟩
      · have hfin : decide (la = lb) = true := by
          obtain rfl : k = la.length := by omega
          simp only [decide_eq_true_eq]
          exact hsame.all HL.out
        have HF := hid hfin
        clear hfin
        go_wp2
        go_ret
        exact ⟨ret_bool HF.out.symm, hw⟩
  · have hb : (((la.length : Nat) : Int) != ((lb.length : Nat) : Int)) = true := by simp; omega
    have hfin : decide (la = lb) = false := by
      simp only [decide_eq_false_iff_not]
      rintro rfl
      exact hlen rfl
    have HF := hid hfin
    clear hfin hlen
    go_enter Tryd.func59, Tryd.ntmps59
    go_wp2
    go_ret
    exact ⟨ret_bool HF.out.symm, Dr.refl w⟩
open Go.RowKit
attribute [local go_sem] Oper.semAt_some
/-- a row that has just been laid. -/
theorem new_cells (w : World) (l : List Int) (e : TypeId) : Cells (w.alloc (.cells (l.map (Value.int .u64)).toArray e)) (some ⟨w.heap.size, 0, none⟩) (l.map (.int .u64)) := (row1_new w _ e).cells
theorem below_of_eq {w a b : World} {B : Nat} (h : Below B w a) (e : a = b) : Below B w b := e ▸ h
theorem Cells.more {w w' : World} {A : Option Addr} {xs : List Value} (h : Cells w A xs) (hb : Below w.heap.size w w') : Cells w' A xs := h.keep fun _p hp => hb.cell hp
end Go.Proofs.YtcojnjhffmhbiaaDoor
end

section
namespace Go.Proofs.YtcojnjhffmhbiaaDoor
open Go Go.RowKit Go.Maps Go.Shelf Go.Proofs
def somePrimes : List Int := [2, 3, 5, 7, 11, 13, 17, 101, 65537, 2147483647, 2305843009213693951]
theorem somePrimes_ok : ∀ p ∈ somePrimes, primeV p = true := by decide +kernel
/-- a prime. -/
def primeP (q : Int) : Int := if primeV q then q else somePrimes.getD (q % 11).toNat 0
theorem primeP_ok {q : Int} (_ : U64 q) : primeV (primeP q) = true := by
  unfold primeP
  split
  · assumption
  · have h2 : (q % 11).toNat < somePrimes.length := by show (q % 11).toNat < 11; omega
    rw [List.getD_eq_getElem?_getD, List.getElem?_eq_getElem h2]
    exact somePrimes_ok _ (List.getElem_mem h2)
theorem primeP_u64 {q : Int} (h : U64 q) : U64 (primeP q) := by
  have := primeV_ge (primeP_ok h)
  exact ⟨by omega, by omega⟩
def valuesL (c xs : List Int) (q : Int) : List Int := xs.map fun x => mEval c x q
theorem valuesL_u64 (c xs : List Int) (q : Int) : U64s (valuesL c xs q) := by
  intro z hz
  obtain ⟨x, _, rfl⟩ := List.mem_map.1 hz
  exact mEval_u64 ..
/-- is a place among others, modulo q? -/
def hasM (q : Int) (out : List Int) (x : Int) : Bool := out.any fun z => decide (z % q = x % q)
theorem hasM_take {q : Int} {out : List Int} {k : Nat} {z : Int} (h : out[k]? = some z) (x : Int) : hasM q (out.take (k + 1)) x = (hasM q (out.take k) x || decide (z % q = x % q)) := by
  unfold hasM
  rw [take_snocR h]; simp
/-- places each once. -/
def uniqStep (most q : Int) (out : List Int) (x : Int) : List Int := if (out.length : Int) < most ∧ hasM q out x = false then out ++ [x] else out
def uniqL (xs : List Int) (most q : Int) : List Int := xs.foldl (uniqStep most q) []
theorem uniqL_take {xs : List Int} {k : Nat} {x : Int} (h : xs[k]? = some x) (most q : Int) : uniqL (xs.take (k + 1)) most q = uniqStep most q (uniqL (xs.take k) most q) x := by
  unfold uniqL
  rw [take_snocR h, List.foldl_append]; rfl
theorem uniq_fold_full {most q : Int} : ∀ (l out : List Int), most ≤ out.length → l.foldl (uniqStep most q) out = out
  | [], _, _ => rfl
  | x :: l, out, h => by
    rw [List.foldl_cons, uniqStep, if_neg (by omega)]
    exact uniq_fold_full l out h
theorem uniqL_full {xs : List Int} {k : Nat} {most q : Int} (h : most ≤ (uniqL (xs.take k) most q).length) : uniqL xs most q = uniqL (xs.take k) most q := by
  have e : uniqL xs most q = (xs.drop k).foldl (uniqStep most q) (uniqL (xs.take k) most q) := by
    unfold uniqL
    rw [← List.foldl_append, List.take_append_drop]
  rw [e]
  exact uniq_fold_full _ _ h
theorem uniq_fold_len (most q : Int) : ∀ (l out : List Int), (l.foldl (uniqStep most q) out).length ≤ out.length + l.length
  | [], _ => by simp
  | x :: l, out => by
    rw [List.foldl_cons]
    have h := uniq_fold_len most q l (uniqStep most q out x)
    have h2 : (uniqStep most q out x).length ≤ out.length + 1 := by
      unfold uniqStep
      split
      · simp
      · omega
    rw [List.length_cons]; omega
theorem uniqL_len (xs : List Int) (most q : Int) : (uniqL xs most q).length ≤ xs.length := by
  have := uniq_fold_len most q xs []
  simpa [uniqL] using this
theorem uniq_fold_mem (most q : Int) : ∀ (l out : List Int), ∀ z ∈ l.foldl (uniqStep most q) out, z ∈ out ∨ z ∈ l
  | [], _, z, h => .inl h
  | x :: l, out, z, h => by
    rw [List.foldl_cons] at h
    rcases uniq_fold_mem most q l _ z h with h1 | h1
    · unfold uniqStep at h1
      split at h1
      · rcases List.mem_append.1 h1 with h2 | h2
        · exact .inl h2
        · exact .inr (by rw [List.mem_singleton.1 h2]; exact List.mem_cons_self)
      · exact .inl h1
    · exact .inr (List.mem_cons_of_mem _ h1)
theorem uniqL_mem {xs : List Int} {most q z : Int} (h : z ∈ uniqL xs most q) : z ∈ xs := by
  rcases uniq_fold_mem most q xs [] z h with h1 | h1
  · cases h1
  · exact h1
theorem tmodR {z q : Int} (h : U64 z) : z.tmod q = z % q := Int.tmod_eq_emod_of_nonneg h.lo
end Go.Proofs.YtcojnjhffmhbiaaDoor
end

section
namespace Go.Lin
/-- numbers modulo N of which each but 0 has an inverse. -/
structure Fld (N : Nat) [NeZero N] : Prop where
  one : (1 : Fin N) ≠ 0
  inv : ∀ x : Fin N, x ≠ 0 → ∃ y, x * y = 1
variable {N : Nat} [NeZero N]
abbrev V (N : Nat) := Nat → Fin N
/-- what hangs on rows. -/
inductive Sp (R : List (V N)) : V N → Prop
  | zero : Sp R (fun _ => 0)
  | add {r u v : V N} (c : Fin N) : r ∈ R → Sp R u → (∀ j, v j = c * r j + u j) → Sp R v
theorem Sp.of_eq {R : List (V N)} {u v : V N} (h : Sp R u) (e : ∀ j, v j = u j) : Sp R v := by
  have : v = u := funext e
  rw [this]; exact h
theorem Sp.mem {R : List (V N)} {r : V N} (h : r ∈ R) : Sp R r := .add 1 h .zero fun j => by grind
theorem Sp.comb {R : List (V N)} {u v w : V N} (c : Fin N) (hu : Sp R u) (hv : Sp R v) (e : ∀ j, w j = c * u j + v j) : Sp R w := by
  induction hu generalizing w with
  | zero => exact hv.of_eq fun j => by have := e j; grind
  | add d hr _ hd ih =>
    rename_i r u' u _
    exact Sp.add (u := fun j => c * u' j + v j) (c * d) hr (ih fun j => rfl) fun j => by
      have h1 := e j
      have h2 := hd j
      grind
theorem Sp.trans {R R' : List (V N)} (h : ∀ r ∈ R, Sp R' r) {v : V N} (hv : Sp R v) : Sp R' v := by
  induction hv with
  | zero => exact .zero
  | add c hr _ e ih => exact (h _ hr).comb c ih e
theorem Sp.mono {R R' : List (V N)} (h : ∀ r ∈ R, r ∈ R') {v : V N} (hv : Sp R v) : Sp R' v := Sp.trans (fun r hr => Sp.mem (h r hr)) hv
theorem Sp.nil {v : V N} (h : Sp [] v) (j : Nat) : v j = 0 := by
  cases h with
  | zero => rfl
  | add c hr _ _ => cases hr
theorem Sp.split {r : V N} {R : List (V N)} {v : V N} (h : Sp (r :: R) v) : ∃ c u, Sp R u ∧ ∀ j, v j = c * r j + u j := by
  induction h with
  | zero => exact ⟨0, fun _ => 0, .zero, fun j => by grind⟩
  | add c hr _ e ih =>
    obtain ⟨d, u, hu, h2⟩ := ih
    rename_i r' u' v' _
    rcases List.mem_cons.1 hr with rfl | hr
    · exact ⟨c + d, u, hu, fun j => by have := e j; have := h2 j; grind⟩
    · exact ⟨d, fun j => c * r' j + u j, .add c hr hu fun j => rfl, fun j => by have := e j; have := h2 j; grind⟩
/-- what all rows have 0 at, all that hangs on them has. -/
theorem Sp.at_zero {R : List (V N)} {v : V N} {k : Nat} (h : Sp R v) (hz : ∀ r ∈ R, r k = 0) : v k = 0 := by
  induction h with
  | zero => rfl
  | add c hr _ e ih => have := e k; have := hz _ hr; grind
/-- rows with a place each: 1 there, 0 where the others have theirs. -/
structure Ech (L : List (Nat × V N)) : Prop where
  one : ∀ e ∈ L, e.2 e.1 = 1
  off : L.Pairwise fun e e' => e.2 e'.1 = 0 ∧ e'.2 e.1 = 0
theorem Ech.nil : Ech ([] : List (Nat × V N)) := ⟨fun e h => (by cases h), .nil⟩
theorem Ech.tail {e : Nat × V N} {L : List (Nat × V N)} (h : Ech (e :: L)) : Ech L := ⟨fun x hx => h.one x (List.mem_cons_of_mem _ hx), (List.pairwise_cons.1 h.off).2⟩
theorem Ech.rep {L : List (Nat × V N)} (h : Ech L) {v : V N} (hv : Sp (L.map (·.2)) v) (j : Nat) : v j = (L.map fun e => v e.1 * e.2 j).sum := by
  induction L generalizing v with
  | nil => exact hv.nil j
  | cons e L ih =>
    obtain ⟨c, u, hu, h2⟩ := Sp.split hv
    have h3 := ih h.tail hu
    have ho := (List.pairwise_cons.1 h.off).1
    have h4 : u e.1 = 0 := hu.at_zero fun r hr => by
      obtain ⟨x, hx, rfl⟩ := List.mem_map.1 hr
      exact (ho x hx).2
    have h5 : v e.1 = c := by
      have h6 := h2 e.1
      have h7 := h.one e List.mem_cons_self
      grind
    rw [List.map_cons, List.sum_cons, h5, h2 j, h3]
    congr 1
    congr 1
    refine List.map_congr_left fun x hx => ?_
    have h6 := h2 x.1
    have h7 := (ho x hx).1
    grind
theorem Ech.zero {L : List (Nat × V N)} (h : Ech L) {v : V N} (hv : Sp (L.map (·.2)) v) (hz : ∀ e ∈ L, v e.1 = 0) (j : Nat) : v j = 0 := by
  rw [h.rep hv j]
  have : ∀ l : List (Nat × V N), (∀ e ∈ l, v e.1 = 0) → (l.map fun e => v e.1 * e.2 j).sum = 0 := by
    intro l
    induction l with
    | nil => intro _; rfl
    | cons e l ih =>
      intro h
      rw [List.map_cons, List.sum_cons, ih fun x hx => h x (List.mem_cons_of_mem _ hx), h e List.mem_cons_self]
      grind
  exact this L hz
/-- no more rows with places than the rows they hang on. -/
theorem Ech.le (F : Fld N) : ∀ (R : List (V N)) (L : List (Nat × V N)), Ech L → (∀ e ∈ L, Sp R e.2) → L.length ≤ R.length
  | [], L, h, hs => by
    cases L with
    | nil => simp
    | cons e L =>
      exfalso
      have h1 := h.one e List.mem_cons_self
      rw [(hs e List.mem_cons_self).nil] at h1
      exact F.one h1.symm
  | r :: R, L, h, hs => by
    by_cases hall : ∀ e ∈ L, Sp R e.2
    · have := Ech.le F R L h hall
      rw [List.length_cons]; omega
    · obtain ⟨e0, hn⟩ := Classical.not_forall.1 hall
      obtain ⟨he0, hne⟩ := Classical.not_imp.1 hn
      obtain ⟨A, B, rfl⟩ := List.append_of_mem he0
      obtain ⟨c0, u0, hu0, h0⟩ := (hs e0 he0).split
      have hc0 : c0 ≠ 0 := fun hc => hne (hu0.of_eq fun j => by have := h0 j; rw [hc] at this; grind)
      obtain ⟨y0, hy⟩ := F.inv c0 hc0
      have hk : ∀ e : Nat × V N, ∃ k, e ∈ A ++ e0 :: B → Sp R fun j => e.2 j - k * e0.2 j := by
        intro e
        by_cases he : e ∈ A ++ e0 :: B
        · obtain ⟨c, u, hu, h1⟩ := (hs e he).split
          refine ⟨c * y0, fun _ => Sp.comb (-(c * y0)) hu0 hu fun j => ?_⟩
          have h2 := h0 j
          have h3 := h1 j
          grind
        · exact ⟨0, fun h => absurd h he⟩
      have hp := List.pairwise_append.1 h.off
      have hp2 := List.pairwise_cons.1 hp.2.1
      have hoff : ∀ e ∈ A ++ B, e.2 e0.1 = 0 ∧ e0.2 e.1 = 0 := by
        intro e he
        rcases List.mem_append.1 he with h1 | h1
        · exact hp.2.2 e h1 e0 List.mem_cons_self
        · exact (hp2.1 e h1).symm
      have hsub : ∀ e ∈ A ++ B, e ∈ A ++ e0 :: B := by
        intro e he
        rcases List.mem_append.1 he with h1 | h1
        · exact List.mem_append_left _ h1
        · exact List.mem_append_right _ (List.mem_cons_of_mem _ h1)
      have hpw : (A ++ B).Pairwise fun e e' => e.2 e'.1 = 0 ∧ e'.2 e.1 = 0 :=
        List.pairwise_append.2 ⟨hp.1, hp2.2, fun a ha b hb => hp.2.2 a ha b (List.mem_cons_of_mem _ hb)⟩
      have hE : Ech ((A ++ B).map fun e => (e.1, fun j => e.2 j - Classical.choose (hk e) * e0.2 j)) := by
        refine ⟨fun x hx => ?_, ?_⟩
        · obtain ⟨e, he, rfl⟩ := List.mem_map.1 hx
          show e.2 e.1 - _ * e0.2 e.1 = 1
          have h1 := h.one e (hsub e he)
          have h2 := (hoff e he).2
          grind
        · rw [List.pairwise_map]
          refine hpw.imp_of_mem fun {a b} ha hb hab => ?_
          have h1 := (hoff a ha).2
          have h2 := (hoff b hb).2
          constructor
          · show a.2 b.1 - _ * e0.2 b.1 = 0
            have := hab.1
            grind
          · show b.2 a.1 - _ * e0.2 a.1 = 0
            have := hab.2
            grind
      have := Ech.le F R _ hE fun x hx => by
        obtain ⟨e, he, rfl⟩ := List.mem_map.1 hx
        exact Classical.choose_spec (hk e) (hsub e he)
      rw [List.length_map, List.length_append] at this
      rw [List.length_append, List.length_cons, List.length_cons]
      omega
/-- rows R have the rank n. -/
structure Bas (R : List (V N)) (L : List (Nat × V N)) : Prop where
  ech : Ech L
  sub : ∀ e ∈ L, Sp R e.2
  all : ∀ r ∈ R, Sp (L.map (·.2)) r
def Rk (R : List (V N)) (n : Nat) : Prop := ∃ L, Bas R L ∧ L.length = n
theorem Bas.sp {R : List (V N)} {L : List (Nat × V N)} (h : Bas R L) {v : V N} : Sp (L.map (·.2)) v ↔ Sp R v :=
  ⟨fun k => k.trans fun r hr => by obtain ⟨e, he, rfl⟩ := List.mem_map.1 hr; exact h.sub e he, fun k => k.trans h.all⟩
theorem Rk.le (F : Fld N) {R R' : List (V N)} {n m : Nat} (h : Rk R n) (h' : Rk R' m) (hs : ∀ r ∈ R, Sp R' r) : n ≤ m := by
  obtain ⟨L, hL, rfl⟩ := h
  obtain ⟨L', hL', rfl⟩ := h'
  have := Ech.le F (L'.map (·.2)) L hL.ech fun e he => hL'.sp.2 ((hL.sub e he).trans hs)
  rwa [List.length_map] at this
theorem Rk.eq (F : Fld N) {R R' : List (V N)} {n m : Nat} (h : Rk R n) (h' : Rk R' m) (hs : ∀ r ∈ R, Sp R' r) (hs' : ∀ r ∈ R', Sp R r) : n = m :=
  Nat.le_antisymm (h.le F h' hs) (h'.le F h hs')
theorem Rk.unique (F : Fld N) {R : List (V N)} {n m : Nat} (h : Rk R n) (h' : Rk R m) : n = m := h.eq F h' (fun _ hr => Sp.mem hr) fun _ hr => Sp.mem hr
theorem Rk.congr {R R' : List (V N)} {n : Nat} (h : Rk R n) (hs : ∀ r ∈ R, Sp R' r) (hs' : ∀ r ∈ R', Sp R r) : Rk R' n := by
  obtain ⟨L, hL, rfl⟩ := h
  exact ⟨L, ⟨hL.ech, fun e he => (hL.sub e he).trans hs, fun r hr => hL.sp.2 (hs' r hr)⟩, rfl⟩
theorem Rk.nil : Rk ([] : List (V N)) 0 := ⟨[], ⟨.nil, fun e h => (by cases h), fun r h => (by cases h)⟩, rfl⟩
/-- what is left of a row. -/
def red (L : List (Nat × V N)) (v : V N) : V N := fun j => v j - (L.map fun e => v e.1 * e.2 j).sum
theorem sum_sp (v : V N) : ∀ L : List (Nat × V N), Sp (L.map (·.2)) fun j => (L.map fun e => v e.1 * e.2 j).sum
  | [] => .zero
  | e :: L => Sp.add (v e.1) (List.mem_cons_self (l := L.map (·.2))) ((sum_sp v L).mono fun _r hr => List.mem_cons_of_mem _ hr) fun _j => rfl
theorem sum_at {L : List (Nat × V N)} (h : Ech L) (v : V N) {e : Nat × V N} (he : e ∈ L) : (L.map fun x => v x.1 * x.2 e.1).sum = v e.1 := by
  induction L with
  | nil => cases he
  | cons x L ih =>
    have ho := (List.pairwise_cons.1 h.off).1
    rw [List.map_cons, List.sum_cons]
    rcases List.mem_cons.1 he with rfl | he
    · have h1 : ∀ l : List (Nat × V N), (∀ x ∈ l, x.2 e.1 = 0) → (l.map fun x => v x.1 * x.2 e.1).sum = 0 := by
        intro l
        induction l with
        | nil => intro _; rfl
        | cons x l ih =>
          intro h
          rw [List.map_cons, List.sum_cons, ih fun y hy => h y (List.mem_cons_of_mem _ hy), h x List.mem_cons_self]
          grind
      rw [h1 L fun x hx => (ho x hx).2, h.one e List.mem_cons_self]
      grind
    · rw [ih h.tail he, (ho e he).1]
      grind
theorem red_at {L : List (Nat × V N)} (h : Ech L) (v : V N) {e : Nat × V N} (he : e ∈ L) : red L v e.1 = 0 := by
  unfold red
  rw [sum_at h v he]
  grind
theorem red_sp (L : List (Nat × V N)) (v : V N) (h : ∀ j, red L v j = 0) : Sp (L.map (·.2)) v := (sum_sp v L).of_eq fun j => by
  have := h j
  unfold red at this
  grind
theorem red_back {R : List (V N)} {L : List (Nat × V N)} (hL : Bas R L) (v : V N) : Sp (v :: R) (red L v) := by
  refine Sp.comb (-1) (hL.sp.1 (sum_sp v L) |>.mono fun r hr => List.mem_cons_of_mem _ hr) (Sp.mem (r := v) List.mem_cons_self) fun j => ?_
  unfold red
  grind
theorem Bas.snoc {R : List (V N)} {L : List (Nat × V N)} (hL : Bas R L) {v : V N} {k : Nat} {y : Fin N} (hy : red L v k * y = 1) :
    Bas (v :: R) ((k, fun j => y * red L v j) :: L.map fun e => (e.1, fun j => e.2 j - e.2 k * (y * red L v j))) := by
  have hv1 : Sp (v :: R) fun j => y * red L v j := Sp.comb y (red_back hL v) .zero fun j => by grind
  have h0 : ∀ e ∈ L, red L v e.1 = 0 := fun e he => red_at hL.ech v he
  refine ⟨⟨?_, ?_⟩, ?_, ?_⟩
  · intro x hx
    rcases List.mem_cons.1 hx with rfl | hx
    · show y * red L v k = 1
      grind
    · obtain ⟨e, he, rfl⟩ := List.mem_map.1 hx
      show e.2 e.1 - e.2 k * (y * red L v e.1) = 1
      have h1 := hL.ech.one e he
      have h2 := h0 e he
      grind
  · refine List.pairwise_cons.2 ⟨fun x hx => ?_, ?_⟩
    · obtain ⟨e, he, rfl⟩ := List.mem_map.1 hx
      constructor
      · show y * red L v e.1 = 0
        have := h0 e he
        grind
      · show e.2 k - e.2 k * (y * red L v k) = 0
        grind
    · rw [List.pairwise_map]
      refine hL.ech.off.imp_of_mem fun {a b} ha hb hab => ?_
      have h1 := h0 a ha
      have h2 := h0 b hb
      constructor
      · show a.2 b.1 - a.2 k * (y * red L v b.1) = 0
        have := hab.1
        grind
      · show b.2 a.1 - b.2 k * (y * red L v a.1) = 0
        have := hab.2
        grind
  · intro x hx
    rcases List.mem_cons.1 hx with rfl | hx
    · exact hv1
    · obtain ⟨e, he, rfl⟩ := List.mem_map.1 hx
      exact Sp.comb (-(e.2 k)) hv1 ((hL.sub e he).mono fun r hr => List.mem_cons_of_mem _ hr) fun j => by grind
  · have hback : ∀ u, Sp (L.map (·.2)) u → Sp (List.map (·.2) ((k, fun j => y * red L v j) :: L.map fun e => (e.1, fun j => e.2 j - e.2 k * (y * red L v j)))) u := by
      intro u hu
      refine hu.trans fun r hr => ?_
      obtain ⟨e, he, rfl⟩ := List.mem_map.1 hr
      refine Sp.comb (e.2 k) (u := fun j => y * red L v j) (Sp.mem ?_) (v := fun j => e.2 j - e.2 k * (y * red L v j)) (Sp.mem ?_) fun j => by grind
      · exact List.mem_cons_self
      · rw [List.map_cons, List.map_map]
        exact List.mem_cons_of_mem _ (List.mem_map.2 ⟨e, he, rfl⟩)
    intro r hr
    rcases List.mem_cons.1 hr with rfl | hr
    · refine Sp.comb (red L r k) (u := fun j => y * red L r j) (Sp.mem ?_) (hback _ (sum_sp r L)) fun j => ?_
      · exact List.mem_cons_self
      · unfold red at hy ⊢
        grind
    · exact hback _ (hL.all r hr)
theorem Rk.more (F : Fld N) {R : List (V N)} {n : Nat} (h : Rk R n) {v : V N} (hv : ¬ Sp R v) : Rk (v :: R) (n + 1) := by
  obtain ⟨L, hL, rfl⟩ := h
  have : ¬ ∀ j, red L v j = 0 := fun h => hv (hL.sp.1 (red_sp L v h))
  obtain ⟨k, hk⟩ := Classical.not_forall.1 this
  obtain ⟨y, hy⟩ := F.inv _ hk
  exact ⟨_, hL.snoc hy, by simp⟩
theorem Rk.same {R : List (V N)} {n : Nat} (h : Rk R n) {v : V N} (hv : Sp R v) : Rk (v :: R) n := h.congr (fun r hr => Sp.mem (List.mem_cons_of_mem _ hr)) fun r hr => by
  rcases List.mem_cons.1 hr with rfl | hr
  · exact hv
  · exact Sp.mem hr
end Go.Lin
end

section
namespace Go.Proofs.YtcojnjhffmhbiaaDoor
open Go.Lin Go.Psi
/-- a whole number modulo N. -/
def tf (N : Nat) [h : NeZero N] (x : Int) : Fin N := ⟨(x % N).toNat, by
  have h0 : N ≠ 0 := h.out
  have h1 := Int.emod_nonneg x (b := (N : Int)) (by omega)
  have h2 := Int.emod_lt_of_pos x (b := (N : Int)) (by omega)
  omega⟩
section
variable {N : Nat} [h0 : NeZero N]
theorem tf_val (x : Int) : ((tf N x).val : Int) = x % N := by
  have h : N ≠ 0 := h0.out
  have h1 := Int.emod_nonneg x (b := (N : Int)) (by omega)
  show ((x % N).toNat : Int) = x % N
  omega
theorem tf_eq {x y : Int} : tf N x = tf N y ↔ x % N = y % N := by
  constructor
  · intro h
    rw [← tf_val, ← tf_val, h]
  · intro h
    apply Fin.ext
    have h1 := tf_val (N := N) x
    have h2 := tf_val (N := N) y
    omega
theorem tf_mod (x : Int) : tf N (x % N) = tf N x := tf_eq.2 (Int.emod_emod _ _)
theorem tf_add (x y : Int) : tf N (x + y) = tf N x + tf N y := by
  apply Fin.ext
  have h1 : (((tf N x + tf N y : Fin N)).val : Int) = (x + y) % N := by
    rw [Fin.val_add, Int.natCast_emod, Int.natCast_add, tf_val, tf_val, ← Int.add_emod]
  have h2 := tf_val (N := N) (x + y)
  omega
theorem tf_mul (x y : Int) : tf N (x * y) = tf N x * tf N y := by
  apply Fin.ext
  have h1 : (((tf N x * tf N y : Fin N)).val : Int) = (x * y) % N := by
    rw [Fin.val_mul, Int.natCast_emod, Int.natCast_mul, tf_val, tf_val, ← Int.mul_emod]
  have h2 := tf_val (N := N) (x * y)
  omega
theorem tf_zero : tf N 0 = 0 := by
  apply Fin.ext
  have := tf_val (N := N) 0
  rw [Int.zero_emod] at this
  have h : ((0 : Fin N)).val = 0 := rfl
  omega
theorem tf_sub (x y : Int) : tf N (x - y) = tf N x - tf N y := by
  have h := tf_add (N := N) (x - y) y
  rw [Int.sub_add_cancel] at h
  grind
theorem tf_one : tf N 1 = 1 := by
  apply Fin.ext
  have h1 := tf_val (N := N) 1
  have h2 : ((1 : Fin N)).val = 1 % N := rfl
  have h3 : ((1 % N : Nat) : Int) = 1 % (N : Int) := by rw [Int.natCast_emod]; rfl
  omega
theorem tf_iff_zero {x : Int} : tf N x = 0 ↔ x % N = 0 := by
  rw [← tf_zero, tf_eq, Int.zero_emod]
theorem tf_self (a : Fin N) : tf N (a.val : Int) = a := by
  apply Fin.ext
  have h1 := tf_val (N := N) (a.val : Int)
  rw [Int.emod_eq_of_lt (by omega) (by have := a.isLt; omega)] at h1
  omega
theorem cg_tf {x y : Int} (h : Cg N x y) : tf N x = tf N y := by
  obtain ⟨k, hk⟩ := h
  rw [tf_eq, show x = y + N * k by omega, Int.add_mul_emod_self_left]
/-- a prime has inverses. -/
theorem fld_of {p : Nat} [NeZero p] (hp : Pr p) : Fld p := ⟨fun h => by
    have h1 := congrArg Fin.val h
    have h2 : ((1 : Fin p)).val = 1 % p := rfl
    have h3 : ((0 : Fin p)).val = 0 := rfl
    have := hp.1
    rw [h2, h3, Nat.mod_eq_of_lt (by omega)] at h1
    omega, fun x hx => by
    have hv : x.val ≠ 0 := fun h => hx (Fin.ext h)
    by_cases h2 : p = 2
    · subst h2
      refine ⟨1, Fin.ext ?_⟩
      have h1 : x.val = 1 := by have := x.isLt; omega
      have h3 : ((x * 1 : Fin 2)).val = x.val * 1 % 2 := rfl
      rw [h3, h1]; rfl
    · have hf := fermat hp (hp.odd h2) (a := x.val) (Pr.not_dvd_lt (by omega) x.isLt)
      have hp2 := hp.1
      refine ⟨tf p ((x.val : Int) ^ (p - 2)), ?_⟩
      have h4 := cg_tf hf
      rw [show p - 1 = (p - 2) + 1 by omega, Int.pow_succ, tf_mul, tf_self, tf_one] at h4
      grind⟩
/-- a row as a vector. -/
def vec (N : Nat) [NeZero N] (l : List Int) : V N := fun j => tf N (nth l j)
theorem vec_red (W : Nat) (row : List Int) (j : Nat) : vec N (redL W N row) j = vec N row j := by
  unfold vec redL
  by_cases h : j < max W row.length
  · rw [tabL_at h, tf_mod]
  · rw [nth_ge (by rw [tabL_len]; omega), nth_ge (l := row) (by omega)]
theorem vec_less (row other : List Int) (t : Int) (h : other.length ≤ row.length) (j : Nat) : vec N (lessL N row other t) j = vec N row j - vec N other j * tf N t := by
  unfold vec
  rw [lessL_at]
  by_cases h1 : j < row.length ∧ j < other.length
  · rw [if_pos h1, tf_mod, tf_sub, tf_mul]
  · rw [if_neg h1, nth_ge (l := other) (by omega), tf_zero]
    grind
theorem vec_times (o : List Int) (b : Int) (j : Nat) : vec N (timesL N o b) j = tf N b * vec N o j := by
  unfold vec timesL
  by_cases h : j < o.length
  · rw [tabL_at h, tf_mod, tf_mul]; grind
  · rw [nth_ge (by rw [tabL_len]; omega), nth_ge (l := o) (by omega), tf_zero]
    grind
/-- rows with their places. -/
def sb (N : Nat) [NeZero N] (S : List En) : List (Nat × V N) := S.map fun p => (p.at_, vec N p.row)
theorem sb_mem {S : List En} {p : En} (h : p ∈ S) : (p.at_, vec N p.row) ∈ sb N S := List.mem_map.2 ⟨p, h, rfl⟩
theorem fold_vec {W : Nat} (j : Nat) : ∀ (l : List En) (o : List Int), Ech (sb N l) → (∀ p ∈ l, p.row.length = W) → W ≤ o.length →
    vec N (l.foldl (stepL N) o) j = vec N o j - ((sb N l).map fun e => vec N o e.1 * e.2 j).sum
  | [], o, _, _, _ => by
    show vec N o j = vec N o j - 0
    grind
  | p :: l, o, hE, hl, hW => by
    have hs : ∀ i, vec N (stepL N o p) i = vec N o i - vec N p.row i * vec N o p.at_ := fun i =>
      vec_less o p.row _ (by rw [hl p List.mem_cons_self]; exact hW) i
    have ih := fold_vec j l (stepL N o p) hE.tail (fun x hx => hl x (List.mem_cons_of_mem _ hx)) (by rw [stepL_len]; exact hW)
    rw [List.foldl_cons, ih, hs j]
    show _ = vec N o j - ((p.at_, vec N p.row) :: sb N l |>.map fun e => vec N o e.1 * e.2 j).sum
    rw [List.map_cons, List.sum_cons]
    have ho := (List.pairwise_cons.1 hE.off).1
    have : (sb N l).map (fun e => vec N (stepL N o p) e.1 * e.2 j) = (sb N l).map fun e => vec N o e.1 * e.2 j := by
      refine List.map_congr_left fun e he => ?_
      have h1 : vec N p.row e.1 = 0 := (ho e he).1
      rw [hs e.1, h1]
      grind
    rw [this]
    grind
theorem left_red {W : Nat} {S : List En} (hE : Ech (sb N S)) (hl : ∀ p ∈ S, p.row.length = W) (row : List Int) (j : Nat) : vec N (leftL N W S row) j = red (sb N S) (vec N row) j := by
  unfold leftL
  rw [fold_vec j S (redL W N row) hE hl (by unfold redL; rw [tabL_len]; omega), vec_red]
  unfold red
  congr 1
  congr 1
  exact List.map_congr_left fun e _ => by rw [vec_red]
theorem first_none {o : List Int} (h : firstL o = none) (j : Nat) : nth o j = 0 := by
  by_cases hj : j < o.length
  · unfold firstL at h
    rw [List.findIdx?_eq_none_iff] at h
    have := h (o[j]) (List.getElem_mem hj)
    rw [nth_lt hj]
    simpa using this
  · exact nth_ge (by omega)
theorem first_least {o : List Int} {k : Nat} (h : firstL o = some k) {j : Nat} (hj : j < k) : nth o j = 0 := by
  unfold firstL at h
  rw [List.findIdx?_eq_some_iff_getElem] at h
  obtain ⟨h1, _, h3⟩ := h
  have := h3 j hj
  rw [nth_lt (by omega)]
  simpa using this
theorem red_tf {o : List Int} (h : RedL N o) {j : Nat} : vec N o j = 0 ↔ nth o j = 0 := by
  unfold vec
  rw [tf_iff_zero, Int.emod_eq_of_lt (h j).1 (h j).2]
/-- an inverse of what is not 0. -/
def InvT (N : Nat) [NeZero N] (inv : Int → Int) : Prop := ∀ x, tf N x ≠ 0 → tf N x * tf N (inv x) = 1
/-- rows R come to S. -/
structure Come (N : Nat) [NeZero N] (W : Nat) (R : List (V N)) (S : List En) : Prop where
  good : GoodS N W S
  bas : Bas R (sb N S)
  low : ∀ p ∈ S, ∀ j, j < p.at_ → vec N p.row j = 0
theorem Come.nil (W : Nat) : Come N W [] [] := ⟨.nil _ _, ⟨.nil, fun e h => (by cases h), fun r h => (by cases h)⟩, fun p h => (by cases h)⟩
theorem Come.put {inv : Int → Int} (hI : InvOf N inv) (hT : InvT N inv) {W : Nat} {R : List (V N)} {S : List En} (h : Come N W R S) {row : List Int} (hr : row.length ≤ W) : Come N W (vec N row :: R) (putL N inv W S row) := by
  have h00 : N ≠ 0 := h0.out
  have hg := put_good (q := (N : Int)) (by omega) hI h.good hr
  have hleft := left_red h.bas.ech (fun p hp => h.good.len p hp) row
  have hred := leftL_red (q := (N : Int)) (by omega) W S row
  have hat := fun e (he : e ∈ sb N S) => red_at h.bas.ech (vec N row) he
  have hlen : (leftL N W S row).length = W := by rw [leftL_len]; omega
  refine ⟨hg, ?_, ?_⟩
  · unfold putL
    generalize leftL N W S row = o at *
    cases hf : firstL o with
    | none =>
      have hsp : Sp ((sb N S).map (·.2)) (vec N row) := red_sp _ _ fun j => by
        rw [← hleft]
        exact (red_tf hred).2 (first_none hf j)
      exact ⟨h.bas.ech, fun e he => (h.bas.sub e he).mono fun r hr => List.mem_cons_of_mem _ hr, fun r hr => by
        rcases List.mem_cons.1 hr with rfl | hr
        · exact hsp
        · exact h.bas.all r hr⟩
    | some k =>
      simp only
      obtain ⟨hk1, hk2⟩ := firstL_some hf
      have hk3 : vec N o k ≠ 0 := fun e => hk2 ((red_tf hred).1 e)
      have hy : red (sb N S) (vec N row) k * tf N (inv (nth o k)) = 1 := by rw [← hleft]; exact hT _ hk3
      have hne : ∀ p ∈ S, p.at_ ≠ k := fun p hp e => by
        have h1 := hat _ (sb_mem hp)
        simp only [e] at h1
        rw [← hleft] at h1
        exact hk3 h1
      have hfil : (S.map fun p => (⟨p.at_, lessL N p.row (timesL N o (inv (nth o k))) (nth p.row k)⟩ : En)).filter (fun p => decide (p.at_ ≠ k)) = S.map fun p => (⟨p.at_, lessL N p.row (timesL N o (inv (nth o k))) (nth p.row k)⟩ : En) := by
        refine List.filter_eq_self.2 fun x hx => ?_
        obtain ⟨p, hp, rfl⟩ := List.mem_map.1 hx
        exact decide_eq_true (hne p hp)
      rw [hfil]
      have hb := h.bas.snoc hy
      have e : sb N (⟨k, timesL N o (inv (nth o k))⟩ :: S.map fun p => (⟨p.at_, lessL N p.row (timesL N o (inv (nth o k))) (nth p.row k)⟩ : En))
          = (k, fun j => tf N (inv (nth o k)) * red (sb N S) (vec N row) j) :: (sb N S).map fun e => (e.1, fun j => e.2 j - e.2 k * (tf N (inv (nth o k)) * red (sb N S) (vec N row) j)) := by
        unfold sb
        rw [List.map_cons, List.map_map, List.map_map]
        refine List.cons_eq_cons.2 ⟨?_, List.map_congr_left fun p hp => ?_⟩
        · refine Prod.ext rfl (funext fun j => ?_)
          show vec N (timesL N o _) j = _
          rw [vec_times, hleft]
          rfl
        · refine Prod.ext rfl (funext fun j => ?_)
          show vec N (lessL N p.row (timesL N o _) _) j = vec N p.row j - vec N p.row k * _
          rw [vec_less _ _ _ (by unfold timesL; rw [tabL_len, hlen, h.good.len p hp]; exact Nat.le_refl _), vec_times, hleft]
          show _ - _ * vec N p.row k = _
          unfold sb
          grind
      rw [e]
      exact hb
  · unfold putL
    generalize leftL N W S row = o at *
    cases hf : firstL o with
    | none => exact h.low
    | some k =>
      simp only
      obtain ⟨hk1, hk2⟩ := firstL_some hf
      have hz : ∀ j, j < k → vec N (timesL N o (inv (nth o k))) j = 0 := fun j hj => by
        rw [vec_times]
        have : vec N o j = 0 := (red_tf hred).2 (first_least hf hj)
        rw [this]; grind
      intro x hx j hj
      rcases List.mem_cons.1 hx with rfl | hx
      · exact hz j hj
      · obtain ⟨p, hp, rfl⟩ := List.mem_map.1 (List.mem_filter.1 hx).1
        show vec N (lessL N p.row (timesL N o _) _) j = 0
        rw [vec_less _ _ _ (by unfold timesL; rw [tabL_len, hlen, h.good.len p hp]; exact Nat.le_refl _)]
        have h1 := h.low p hp j hj
        rw [h1]
        rcases Nat.lt_or_ge j k with h2 | h2
        · rw [hz j h2]; grind
        · have h3 : tf N (nth p.row k) = 0 := h.low p hp k (by have : j < p.at_ := hj; omega)
          rw [h3]; grind
theorem Come.all {inv : Int → Int} (hI : InvOf N inv) (hT : InvT N inv) {W : Nat} : ∀ (rows : List (List Int)) {R : List (V N)} {S : List En}, Come N W R S → (∀ r ∈ rows, r.length ≤ W) →
    Come N W ((rows.map (vec N)).reverse ++ R) (rows.foldl (putL N inv W) S)
  | [], _, _, h, _ => h
  | r :: rows, R, S, h, hl => by
    rw [List.foldl_cons, List.map_cons, List.reverse_cons, List.append_assoc]
    exact Come.all hI hT rows (h.put hI hT (hl r List.mem_cons_self)) fun x hx => hl x (List.mem_cons_of_mem _ hx)
theorem Bas.congr {R R' : List (V N)} {L : List (Nat × V N)} (h : Bas R L) (hs : ∀ r ∈ R, r ∈ R') (hs' : ∀ r ∈ R', r ∈ R) : Bas R' L :=
  ⟨h.ech, fun e he => (h.sub e he).mono hs, fun r hr => h.all r (hs' r hr)⟩
end
end Go.Proofs.YtcojnjhffmhbiaaDoor
end

section
namespace Go.Proofs.YtcojnjhffmhbiaaDoor
open Go Go.Lin Go.Psi
theorem un_of_pr {q a : Int} (h2 : 2 ≤ q) (hp : Pr q.toNat) (h : a % q ≠ 0) : Un a q := by
  obtain ⟨N, rfl⟩ := Int.eq_ofNat_of_zero_le (show 0 ≤ q by omega)
  rw [Int.toNat_natCast] at hp
  have hN : NeZero N := ⟨by omega⟩
  obtain ⟨y, hy⟩ := (fld_of hp).inv (tf N a) fun e => h (tf_iff_zero.1 e)
  refine ⟨y.val, ?_⟩
  have h1 : tf N ((y.val : Int) * a) = tf N 1 := by
    rw [tf_mul, tf_self, tf_one]
    grind
  exact tf_eq.1 h1
theorem ne_sub {a b q : Int} (h : a % q ≠ b % q) : (b - a) % q ≠ 0 := fun e => h (Int.emod_emod_of_dvd a (Int.dvd_refl q) ▸ (by
  have := Int.emod_add_mul_ediv (b - a) q
  rw [e] at this
  rw [show b = a + q * ((b - a) / q) by omega, Int.add_mul_emod_self_left]
  exact Int.emod_emod_of_dvd a (Int.dvd_refl q)))
/-- no two are one another's. -/
def Two (xs : List Int) (q : Int) : Prop := xs.Pairwise fun a b => a % q ≠ b % q
theorem uniq_two (xs : List Int) (most q : Int) : Two (uniqL xs most q) q := by
  have key : ∀ (l out : List Int), Two out q → Two (l.foldl (uniqStep most q) out) q := by
    intro l
    induction l with
    | nil => intro out h; exact h
    | cons x l ih =>
      intro out h
      rw [List.foldl_cons]
      refine ih _ ?_
      unfold uniqStep
      split
      · rename_i hc
        refine List.pairwise_append.2 ⟨h, List.pairwise_singleton .., fun a ha b hb => ?_⟩
        rw [List.mem_singleton.1 hb]
        intro e
        have := hc.2
        unfold hasM at this
        have h3 := List.any_eq_false.1 this a ha
        exact h3 (decide_eq_true e)
      · exact h
  exact key xs [] .nil
theorem Two.apart {xs : List Int} {q : Int} (h : Two xs q) (h2 : 2 ≤ q) (hp : Pr q.toNat) : Apart xs q :=
  List.Pairwise.imp (fun {_a _b} hab => un_of_pr h2 hp (ne_sub hab)) h
theorem Two.unlike {xs : List Int} {q : Int} (h : Two xs q) (hq : okm q = true) (hl : xs.length ≤ 1024) : eUnlike xs q = 0 := by
  unfold eUnlike
  rw [if_pos hq, if_pos hl, if_pos]
  unfold mods List.Nodup
  rw [List.pairwise_map]
  exact h
theorem Two.all {xs : List Int} {q : Int} (h : Two xs q) (hq : okm q = true) (h2 : 2 ≤ q) (hp : Pr q.toNat) (hl : xs.length ≤ 1024) : eAll xs q = 0 := eAll_yes (h.unlike hq hl) (h.apart h2 hp)
/-- a part at whatever place. -/
theorem part_any {q : Int} (hq : okm q = true) {xs : List Int} {i : Nat} {x : Int} (hx : xs[i]? = some x) (X : Int) : ev (withoutL (pAll xs q) x q) X % q = pd (but xs i) X % q := by
  obtain ⟨_, z, h1, h2⟩ := pAll_is hq xs
  have h0 := okm_pos hq
  have hm : x ∈ xs := List.mem_of_getElem? hx
  have key : ∀ X, (X - x) * ev (divZ z x) X = pd xs X := fun X => by
    have := divZ_ev z x X
    rw [h2, h2, pd_mem hm] at this
    omega
  have hw : ∀ X, ev (withoutL (pAll xs q) x q) X % q = ev (divZ z x) X % q := fun X => by
    rw [without_congr h1, without_is hq]
    exact ev_congr rfl (map_mod_mod _ _)
  have main : ∀ Y, Y ≠ x → ev (divZ z x) Y = pd (but xs i) Y := fun Y hY => by
    have h3 := key Y
    rw [pd_but hx Y] at h3
    exact Int.eq_of_mul_eq_mul_left (by omega) h3
  rw [hw]
  by_cases hX : X = x
  · have h5 : (X + q) % q = X % q := by simp
    rw [← ev_congr h5 rfl, main (X + q) (by omega), pd_congr _ h5]
  · rw [main X hX]
/-- values times weights, one behind the other. -/
noncomputable def sumW (xs ys : List Int) (X q : Int) : Nat → Int
  | 0 => 0
  | k + 1 => mAdd (sumW xs ys X q k) (mMul (wOne xs X q k) (ys.getD k 0) q) q
theorem sumW_ev {q : Int} (hq : okm q = true) (xs ys : List Int) (X : Int) : ∀ k, k ≤ xs.length → sumW xs ys X q k % q = ev (pOut xs ys q k) X % q
  | 0, _ => by
    have e0 : ∀ m, ev (List.replicate m 0) X = 0 := by
      intro m
      induction m with
      | zero => rfl
      | succ m ih => rw [List.replicate_succ, ev_cons, ih]; simp
    rw [pOut, e0]; rfl
  | k + 1, hk => by
    obtain ⟨z, hz⟩ : ∃ z, xs[k]? = some z := ⟨_, List.getElem?_eq_getElem (by omega)⟩
    have hgz : xs.getD k 0 = z := by rw [List.getD_eq_getElem?_getD, hz]; rfl
    have ih := sumW_ev hq xs ys X k (by omega)
    rw [sumW, mAdd_mod hq, pOut, hgz, sum_ev hq]
    refine emod_add_congr ih ?_
    rw [scale_ev hq, mMul_mod hq, wOne, hgz]
    have h1 := part_any hq hz X
    have h2 : mMul (iVal (mProd (but xs k) z q) q) (mProd (but xs k) X q) q % q = iVal (mProd (but xs k) z q) q * pd (but xs k) X % q := by
      rw [mMul_mod hq, mProd_emod hq (but xs k) X, mr_mul]
    rw [emod_mul_congr h2 rfl, emod_mul_congr (mMul_mod hq _ _) h1]
    congr 1
    grind
theorem sumW_red {q : Int} (hq : okm q = true) (xs ys : List Int) (X : Int) (k : Nat) : sumW xs ys X q k % q = sumW xs ys X q k := by
  cases k with
  | zero => exact Int.zero_emod q
  | succ k => rw [sumW, mAdd_ok hq, Int.emod_emod]
/-- 0s behind. -/
def padZ (c : List Int) (n : Nat) : List Int := c ++ List.replicate (n - c.length) 0
theorem ev_zeros (m : Nat) (X : Int) : ev (List.replicate m 0) X = 0 := by
  induction m with
  | zero => rfl
  | succ m ih => rw [List.replicate_succ, ev_cons, ih]; simp
theorem padZ_ev (c : List Int) (n : Nat) (X : Int) : ev (padZ c n) X = ev c X := by
  unfold padZ
  rw [ev_append, ev_zeros]; simp
theorem padZ_len {c : List Int} {n : Nat} (h : c.length ≤ n) : (padZ c n).length = n := by
  unfold padZ
  rw [List.length_append, List.length_replicate]; omega
/-- through a polynomial's own values: that polynomial. -/
theorem through_own {q : Int} (hq : okm q = true) {xs c : List Int} (ha : Apart xs q) (hl : c.length ≤ xs.length) : (pOut xs (valuesL c xs q) q xs.length).map (· % q) = (padZ c xs.length).map (· % q) := by
  refine only_one ha (pOut_len hq _ _ _) (padZ_len hl) fun x hx => ?_
  obtain ⟨j, hj, rfl⟩ := List.getElem_of_mem hx
  have h1 := pOut_ev hq (valuesL c xs q) ha xs.length (Nat.le_refl _) j _ (List.getElem?_eq_getElem hj)
  rw [h1, if_pos hj, padZ_ev]
  unfold valuesL
  rw [List.getD_eq_getElem?_getD, List.getElem?_map, List.getElem?_eq_getElem hj]
  show mEval c xs[j] q % q = _
  rw [mEval_ok hq, Int.emod_emod]
/-- values times weights come to the value. -/
theorem weights_sum {q : Int} (hq : okm q = true) {xs c : List Int} (ha : Apart xs q) (hl : c.length ≤ xs.length) (X : Int) : sumW xs (valuesL c xs q) X q xs.length = mEval c X q := by
  rw [← sumW_red hq, sumW_ev hq _ _ _ _ (Nat.le_refl _), ev_congr rfl (through_own hq ha hl), padZ_ev, mEval_ok hq]
/-- all weights, one behind the other. -/
noncomputable def sumA (xs : List Int) (X q : Int) : Nat → Int
  | 0 => 0
  | k + 1 => mAdd (sumA xs X q k) (wOne xs X q k) q
theorem sumA_one {q : Int} (hq : okm q = true) {xs : List Int} (X : Int) : ∀ k, k ≤ xs.length → sumA xs X q k = sumW xs (valuesL [1] xs q) X q k
  | 0, _ => rfl
  | k + 1, hk => by
    rw [sumA, sumW, sumA_one hq X k (by omega)]
    have e : (valuesL [1] xs q).getD k 0 = 1 % q := by
      unfold valuesL
      rw [List.getD_eq_getElem?_getD, List.getElem?_map, List.getElem?_eq_getElem (by omega)]
      show mEval [1] _ q = _
      rw [mEval_ok hq]
      simp [ev]
    rw [e, mAdd_ok hq, mAdd_ok hq]
    refine emod_add_congr rfl ?_
    rw [mMul_mod hq, Int.mul_emod, Int.emod_emod, ← Int.mul_emod, Int.mul_one]
theorem weights_all {q : Int} (hq : okm q = true) (h2 : 2 ≤ q) {xs : List Int} (ha : Apart xs q) (hl : 0 < xs.length) (X : Int) : sumA xs X q xs.length = 1 := by
  rw [sumA_one hq X _ (Nat.le_refl _), weights_sum hq ha (by simp; omega), mEval_ok hq]
  simp only [ev, Int.mul_zero, Int.add_zero]
  exact Int.emod_eq_of_lt (by omega) (by omega)
/-- at one of the places. -/
theorem weights_own {q : Int} (hq : okm q = true) (h2 : 2 ≤ q) {xs : List Int} (ha : Apart xs q) {i k : Nat} {x : Int} (hi : xs[i]? = some x) (hk : k < xs.length) : wOne xs x q k = if k = i then 1 else 0 := by
  obtain ⟨z, hz⟩ : ∃ z, xs[k]? = some z := ⟨_, List.getElem?_eq_getElem hk⟩
  have hgz : xs.getD k 0 = z := by rw [List.getD_eq_getElem?_getD, hz]; rfl
  rw [wOne, hgz, mMul_ok hq]
  by_cases h : k = i
  · subst h
    rw [if_pos rfl]
    rw [hi] at hz
    obtain rfl := Option.some.inj hz
    have hu := apart_iff.1 ha k x hi
    have hu2 : Un (mProd (but xs k) x q) q := hu.congr (by rw [mProd_emod hq, Int.emod_emod])
    rw [iVal_mul hq hu2]
    exact Int.emod_eq_of_lt (by omega) (by omega)
  · rw [if_neg h, mProd_emod hq (but xs k) x, mr_mul]
    have hm : x ∈ but xs k := by
      unfold but
      rcases Nat.lt_or_ge i k with h1 | h1
      · exact List.mem_append_left _ (List.mem_of_getElem? (by rw [List.getElem?_take, if_pos h1]; exact hi))
      · refine List.mem_append_right _ (List.mem_of_getElem? (i := i - (k + 1)) ?_)
        rw [List.getElem?_drop, show k + 1 + (i - (k + 1)) = i by omega]
        exact hi
    rw [pd_mem hm, Int.mul_zero, Int.zero_emod]
theorem out_at {q : Int} (hq : okm q = true) {xs ys : List Int} (ha : Apart xs q) {j : Nat} {x : Int} (hx : xs[j]? = some x) : mEval (pOut xs ys q xs.length) x q = ys.getD j 0 % q := by
  have hj := (List.getElem?_eq_some_iff.1 hx).1
  rw [mEval_ok hq, pOut_ev hq ys ha _ (Nat.le_refl _) j x hx, if_pos hj]
theorem out_lt {q : Int} (hq : okm q = true) (xs ys : List Int) (k : Nat) {z : Int} (hz : z ∈ pOut xs ys q k) : 0 ≤ z ∧ z < q := by
  have h0 := okm_pos hq
  rw [← pOut_red hq] at hz
  obtain ⟨y, _, rfl⟩ := List.mem_map.1 hz
  exact ⟨Int.emod_nonneg _ (by omega), Int.emod_lt_of_pos _ h0⟩
theorem padZ_getD (c : List Int) (n i : Nat) : (padZ c n).getD i 0 = c.getD i 0 := by
  unfold padZ
  rw [List.getD_eq_getElem?_getD, List.getD_eq_getElem?_getD]
  rcases Nat.lt_or_ge i c.length with h | h
  · rw [List.getElem?_append_left h]
  · rw [List.getElem?_append_right h, List.getElem?_eq_none h, List.getElem?_replicate]
    split <;> rfl
theorem own_same {q : Int} (hq : okm q = true) {xs c : List Int} (ha : Apart xs q) (hl : c.length ≤ xs.length) : sameB (pOut xs (valuesL c xs q) q xs.length) c q = true := by
  refine sameB_yes fun i _ => ?_
  unfold cAt
  rw [getD_congr (through_own hq ha hl) i, padZ_getD]
end Go.Proofs.YtcojnjhffmhbiaaDoor
end
