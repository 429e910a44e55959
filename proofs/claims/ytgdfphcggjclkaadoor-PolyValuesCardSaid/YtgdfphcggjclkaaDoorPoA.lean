/-
  The statements' own words on polynomials: a prime, places each once, values.
-/
import Derived.Test.YtgdfphcggjclkaaDoorPlyE
namespace Go.Proofs.YtgdfphcggjclkaaDoor
open Go Go.RowKit Go.Maps Go.Shelf Go.Proofs

def somePrimes : List Int := [2, 3, 5, 7, 11, 13, 17, 101, 65537, 2147483647, 2305843009213693951]
theorem somePrimes_ok : ∀ p ∈ somePrimes, primeV p = true := by decide +kernel
/-- a prime. -/
def primeP (q : Int) : Int := if primeV q then q else somePrimes.getD (q % 11).toNat 0
theorem primeP_ok {q : Int} (_ : U64 q) : primeV (primeP q) = true := by
  unfold primeP
  split
  · assumption
  · have h2 : (q % 11).toNat < somePrimes.length := by show (q % 11).toNat < 11; omega
    rw [List.getD_eq_getElem?_getD, List.getElem?_eq_getElem h2]
    exact somePrimes_ok _ (List.getElem_mem h2)
theorem primeP_u64 {q : Int} (h : U64 q) : U64 (primeP q) := by
  have := primeV_ge (primeP_ok h)
  exact ⟨by omega, by omega⟩
theorem primeP_okm {q : Int} (h : U64 q) : okm (primeP q) = true := (okm_prime (primeP_ok h)).1
set_option maxRecDepth 100000 in
theorem prime03_c (q : Int) (hq : U64 q) (w : World) (hT : Tabs w) :
    Calls Tryd.prog 18 #[.int .u64 q] w fun e w' => e = .returned (.int .u64 (primeP q)) ∧ Below w.heap.size w w' := by
  have HP := hid (prime_c q hq w hT)
  cases hp : primeV q with
  | true =>
    have HV := hid (show primeP q = q by unfold primeP; rw [hp]; rfl)
    go_enter Tryd.func18, Tryd.ntmps18
    go_wp2_with (fail)
    refine HP.out.mono ?_
    rintro e w2 ⟨rfl, hd⟩
    rw [hp]
    go_wp2
    go_ret
    exact ⟨by rw [HV.out]; rfl, below_of_dr hd⟩
  | false =>
    have h2 : (q % 11).toNat < somePrimes.length := by show (q % 11).toNat < 11; omega
    obtain ⟨z, hz⟩ := get_of_lt h2
    have HV := hid (show primeP q = z by unfold primeP; rw [hp, List.getD_eq_getElem?_getD, hz]; rfl)
    obtain ⟨k, hk⟩ := Int.eq_ofNat_of_zero_le (show 0 ≤ q % 11 by omega)
    have hk11 : k < 11 := by omega
    rw [hk, Int.toNat_natCast] at hz
    have hkt : q.tmod 11 = (k : Int) := by rw [Int.tmod_eq_emod_of_nonneg hq.lo]; exact hk
    have hzc : (somePrimes.map (Value.int .u64))[k]? = some (.int .u64 z) := by rw [List.getElem?_map, hz]; rfl
    have HZ := hid hzc
    clear hzc hz hk h2
    go_enter Tryd.func18, Tryd.ntmps18
    go_wp2_with (fail)
    refine HP.out.mono ?_
    rintro e w2 ⟨rfl, hd⟩
    rw [hp]
    have hB := Bun.nil w2
    go_wp2_with (refine wpList_named hB rfl ?_; clear hB; intro wn gn hB hbn hg; (try rw [hg]); clear hg; have hcz := (hB.row (i := 0) rfl).cell (k := k) (u := .int .u64 z) HZ.out)
    go_ret
    exact ⟨by rw [HV.out]; rfl, (below_of_dr hd).trans ((hB.b).mono (by have := hd.size; omega))⟩
def valuesL (c xs : List Int) (q : Int) : List Int := xs.map fun x => mEval c x q
theorem valuesL_u64 (c xs : List Int) (q : Int) : U64s (valuesL c xs q) := by
  intro z hz
  obtain ⟨x, _, rfl⟩ := List.mem_map.1 hz
  exact mEval_u64 ..
set_option maxRecDepth 100000 in
set_option maxHeartbeats 1000000 in
theorem values03_c (A B : Option Addr) (c xs : List Int) (ca cb : Nat) (q : Int) (w : World) (hA : Cells w A (u64v c)) (hB : Cells w B (u64v xs)) (hc : c.length ≤ 100000) (hx : xs.length ≤ 100000) (huc : U64s c) (hux : U64s xs) (hq : U64 q) :
    Calls Tryd.prog 31 #[.slice A c.length ca, .slice B xs.length cb, .int .u64 q] w fun e w' => ∃ v, e = .returned v ∧ Own w' w.heap.size 23 v (u64v (valuesL c xs q)) ∧ Below w.heap.size w w' := by
  go_enter Tryd.func31, Tryd.ntmps31
  go_wp2
  go_loopw [7, 8] (fun o i wr => ∃ k : Nat, i = .int .i64 k ∧ k ≤ xs.length ∧ Own wr w.heap.size 23 o (u64v (valuesL c (xs.take k) q)) ∧ Below w.heap.size w wr) (fun _ i _ => xs.length - (intOf i).toNat)
  case atStart => exact ⟨0, rfl, by omega, by simpa [valuesL, u64v] using Own.nil w w.heap.size 23, Below.refl _ _⟩
  case round =>
    obtain ⟨k, rfl, hk, ho, hw⟩ := hrel
    by_cases hlt : k < xs.length
    · obtain ⟨x, hz⟩ := get_of_lt hlt
      obtain ⟨b, off, rfl, hcell⟩ := (hB.below hw).at_map hz
      have hxu := hux x (List.mem_of_getElem? hz)
      have hs : u64v (valuesL c (xs.take k) q) ++ [Value.int .u64 (mEval c x q)] = u64v (valuesL c (xs.take (k + 1)) q) := by
        rw [take_snocR hz]; simp [valuesL, u64v]
      have hlen : (u64v (valuesL c (xs.take k) q)).length = k := by simp [valuesL, u64v]; omega
      have HS := hid (⟨hs, hlen⟩ : _ ∧ _)
      clear hs hlen hz
      have HE := hid (fun w' (hd : Below w.heap.size w w') => eval_c A c ca x q w' (hA.below hd) (by omega) huc hxu hq)
      generalize mEval c x q = y at *
      go_wp2_with (first
        | (go_at_call 23; refine (HE.out wr hw).mono ?_; rintro e w2 ⟨rfl, hd2⟩; replace hw := below_dr hw hd2; replace ho := ho.dr hd2; clear hd2)
        | (at_builtin; refine wpList_push elt_u64 w2 rfl _ _ rfl w.heap.size ho rfl (.int .u64 y) rfl rfl (by rw [HS.out.2]; omega) (by rw [HS.out.2]; omega) hw.size ?_; intro v' w3 ho3 _ hb3))
      go_roundw
      case rel =>
        rw [HS.out.1] at ho3
        exact ⟨k + 1, by go_num, by omega, ho3, hw.trans hb3⟩
      case measure => simp [intOf]; omega
    · obtain rfl : k = xs.length := by omega
      go_wp2
      go_ret
      rw [List.take_length] at ho
      exact ⟨_, rfl, ho, hw⟩
/-- is a place among others, modulo q? -/
def hasM (q : Int) (out : List Int) (x : Int) : Bool := out.any fun z => decide (z % q = x % q)
theorem hasM_take {q : Int} {out : List Int} {k : Nat} {z : Int} (h : out[k]? = some z) (x : Int) : hasM q (out.take (k + 1)) x = (hasM q (out.take k) x || decide (z % q = x % q)) := by
  unfold hasM
  rw [take_snocR h]; simp
/-- places each once. -/
def uniqStep (most q : Int) (out : List Int) (x : Int) : List Int := if (out.length : Int) < most ∧ hasM q out x = false then out ++ [x] else out
def uniqL (xs : List Int) (most q : Int) : List Int := xs.foldl (uniqStep most q) []
theorem uniqL_take {xs : List Int} {k : Nat} {x : Int} (h : xs[k]? = some x) (most q : Int) : uniqL (xs.take (k + 1)) most q = uniqStep most q (uniqL (xs.take k) most q) x := by
  unfold uniqL
  rw [take_snocR h, List.foldl_append]; rfl
theorem uniq_fold_full {most q : Int} : ∀ (l out : List Int), most ≤ out.length → l.foldl (uniqStep most q) out = out
  | [], _, _ => rfl
  | x :: l, out, h => by
    rw [List.foldl_cons, uniqStep, if_neg (by omega)]
    exact uniq_fold_full l out h
theorem uniqL_full {xs : List Int} {k : Nat} {most q : Int} (h : most ≤ (uniqL (xs.take k) most q).length) : uniqL xs most q = uniqL (xs.take k) most q := by
  have e : uniqL xs most q = (xs.drop k).foldl (uniqStep most q) (uniqL (xs.take k) most q) := by
    unfold uniqL
    rw [← List.foldl_append, List.take_append_drop]
  rw [e]
  exact uniq_fold_full _ _ h
theorem uniq_fold_len (most q : Int) : ∀ (l out : List Int), (l.foldl (uniqStep most q) out).length ≤ out.length + l.length
  | [], _ => by simp
  | x :: l, out => by
    rw [List.foldl_cons]
    have h := uniq_fold_len most q l (uniqStep most q out x)
    have h2 : (uniqStep most q out x).length ≤ out.length + 1 := by
      unfold uniqStep
      split
      · simp
      · omega
    rw [List.length_cons]; omega
theorem uniqL_len (xs : List Int) (most q : Int) : (uniqL xs most q).length ≤ xs.length := by
  have := uniq_fold_len most q xs []
  simpa [uniqL] using this
theorem uniq_fold_mem (most q : Int) : ∀ (l out : List Int), ∀ z ∈ l.foldl (uniqStep most q) out, z ∈ out ∨ z ∈ l
  | [], _, z, h => .inl h
  | x :: l, out, z, h => by
    rw [List.foldl_cons] at h
    rcases uniq_fold_mem most q l _ z h with h1 | h1
    · unfold uniqStep at h1
      split at h1
      · rcases List.mem_append.1 h1 with h2 | h2
        · exact .inl h2
        · exact .inr (by rw [List.mem_singleton.1 h2]; exact List.mem_cons_self)
      · exact .inl h1
    · exact .inr (List.mem_cons_of_mem _ h1)
theorem uniqL_mem {xs : List Int} {most q z : Int} (h : z ∈ uniqL xs most q) : z ∈ xs := by
  rcases uniq_fold_mem most q xs [] z h with h1 | h1
  · cases h1
  · exact h1
theorem tmodR {z q : Int} (h : U64 z) : z.tmod q = z % q := Int.tmod_eq_emod_of_nonneg h.lo
set_option maxRecDepth 100000 in
set_option maxHeartbeats 2000000 in
theorem unlike03_c (A : Option Addr) (xs : List Int) (ca : Nat) (most q : Int) (w : World) (hA : Cells w A (u64v xs)) (hx : xs.length ≤ 100000) (hux : U64s xs) (hq : U64 q) (hq0 : 0 < q) (hmost : I64 most) :
    Calls Tryd.prog 19 #[.slice A xs.length ca, .int .i64 most, .int .u64 q] w fun e w' => ∃ v, e = .returned v ∧ Own w' w.heap.size 23 v (u64v (uniqL xs most q)) ∧ Below w.heap.size w w' := by
  go_enter Tryd.func19, Tryd.ntmps19
  go_wp2
  go_loopw [7, 8, 9, 10] (fun o i _ _ wr => ∃ k : Nat, i = .int .i64 k ∧ k ≤ xs.length ∧ Own wr w.heap.size 23 o (u64v (uniqL (xs.take k) most q)) ∧ Below w.heap.size w wr) (fun _ i _ _ _ => xs.length - (intOf i).toNat)
  case atStart => exact ⟨0, rfl, by omega, by simpa [uniqL, u64v] using Own.nil w w.heap.size 23, Below.refl _ _⟩
  case round =>
    obtain ⟨k, rfl, hk, ho, hw⟩ := hrel
    obtain ⟨A7, c7, rfl, hc7⟩ := ho.form
    have hol : (u64v (uniqL (xs.take k) most q)).length = (uniqL (xs.take k) most q).length := by simp [u64v]
    rw [hol] at ho ⊢
    have hlen := uniqL_len (xs.take k) most q
    have htk : (xs.take k).length ≤ k := by simp; omega
    by_cases hlt : k < xs.length
    · obtain ⟨x, hz⟩ := get_of_lt hlt
      obtain ⟨b, off, rfl, hcell⟩ := (hA.below hw).at_map hz
      have hxm := List.mem_of_getElem? hz
      have hst := uniqL_take hz most q
      have hxt := tmodR (q := q) (hux x hxm)
      have hus : U64s (uniqL (xs.take k) most q) := fun z hz => hux z (List.mem_of_mem_take (uniqL_mem hz))
      have hfull := uniqL_full (xs := xs) (k := k) (most := most) (q := q)
      have hnl := uniqL_len (xs.take (k + 1)) most q
      generalize hO : uniqL (xs.take k) most q = out at *
      have HS := hid (⟨hst, hus, hfull, hO⟩ : _ ∧ _ ∧ _ ∧ _)
      clear hst hus hfull hO hz hol
      by_cases hm : (out.length : Int) < most
      · go_wp2
        generalize wr = wo at *
        go_loopw [9, 10] (fun t j w4 => ∃ m : Nat, j = .int .i64 m ∧ m ≤ out.length ∧ t = .bool (!(hasM q (out.take m) x)) ∧ Below wo.heap.size wo w4) (fun _ j _ => out.length - (intOf j).toNat)
        case atStart => exact ⟨0, rfl, by omega, rfl, Below.refl _ _⟩
        case round =>
          obtain ⟨m, rfl, hm2, rfl, hd⟩ := hrel
          have hcell2 := (hd.cell (lt_of_cell hcell)).trans hcell
          by_cases hlt2 : m < out.length
          · obtain ⟨z, hz2⟩ := get_of_lt hlt2
            obtain ⟨b2, off2, rfl, hcz⟩ := (hc7.below hd).at_map hz2
            have hzt := tmodR (q := q) (HS.out.2.1 z (List.mem_of_getElem? hz2))
            have htk2 := hasM_take (q := q) hz2 x
            generalize hasM q (out.take m) x = hh at *
            have HH := hid htk2
            clear htk2 hz2
            cases hh
            · go_wp2
              refine Rg.wp_region (l := [_, _, _, _, _, _, _, _, _, _, _, _, _, _, _, _]) (tail := [_]) (Rg.grows _ 17) [some 29, some 30, some 31, some 32, some 33, some 34, some 35, some 36, some 37, some 38, some 39, some 40, some 41, some 42, some 43, some 44, some 9] 54 (by kernel_rfl) (by kernel_rfl) (by kernel_rfl) rfl (Rg.grows_fair _ _) (Rg.keep_drew _) (trivial) ?_
              refine Rg.op_is (.bool true) [] rfl rfl (by kernel_rfl) ?_ ?_
              · intro wx hb
                refine Rg.from_nil fun T hT => ?_
                go_wp2
                exact hT _ _ rfl (by first | exact Rg.Keep.refl _ | exact below_of_dr hw2 | exact hw2 | exact (Below.refl _ _).alloc (Nat.le_refl _) _) (by first | rfl | exact congrArg _ (by decide))
              refine Rg.op_is (.bool true) [0] rfl rfl (by kernel_rfl) ?_ ?_
              · intro wx hb
                refine Rg.from_is (some 29) rfl rfl ?_
                refine Rg.from_nil fun T hT => ?_
                go_wp2
                exact hT _ _ rfl (by first | exact Rg.Keep.refl _ | exact below_of_dr hw2 | exact hw2 | exact (Below.refl _ _).alloc (Nat.le_refl _) _) (by first | rfl | exact congrArg _ (by decide))
              refine' Rg.op_is _ [] rfl rfl (by kernel_rfl) ?_ ?_
              rotate_left
              · intro wx hb
                refine Rg.from_nil fun T hT => ?_
                go_wp2
                refine hT _ _ rfl (by first | exact Rg.Keep.refl _ | exact below_of_dr hw2 | exact hw2 | exact (Below.refl _ _).alloc (Nat.le_refl _) _) ?_
                simp only [Rg.last, List.getElem?_toArray, List.getElem?_cons_succ, List.getElem?_cons_zero, Option.getD_some]
                rfl
              refine' Rg.op_is _ [] rfl rfl (by kernel_rfl) ?_ ?_
              rotate_left
              · intro wx hb
                refine Rg.from_nil fun T hT => ?_
                go_wp2
                refine hT _ _ rfl (by first | exact Rg.Keep.refl _ | exact below_of_dr hw2 | exact hw2 | exact (Below.refl _ _).alloc (Nat.le_refl _) _) ?_
                simp only [Rg.last, List.getElem?_toArray, List.getElem?_cons_succ, List.getElem?_cons_zero, Option.getD_some]
                rfl
              refine' Rg.op_is _ [2, 3] rfl rfl (by kernel_rfl) ?_ ?_
              rotate_left
              · intro wx hb
                refine Rg.from_is (some 31) rfl rfl ?_
                refine Rg.from_is (some 32) rfl rfl ?_
                refine Rg.from_nil fun T hT => ?_
                go_wp2
                refine hT _ _ rfl (by first | exact Rg.Keep.refl _ | exact below_of_dr hw2 | exact hw2 | exact (Below.refl _ _).alloc (Nat.le_refl _) _) ?_
                simp only [Rg.last, List.getElem?_toArray, List.getElem?_cons_succ, List.getElem?_cons_zero, Option.getD_some]
                rfl
              refine Rg.op_is (.int .u64 z) [4] rfl rfl (by kernel_rfl) ?_ ?_
              · intro wx hb
                refine Rg.from_is (some 33) rfl rfl ?_
                refine Rg.from_nil fun T hT => ?_
                have hcz2 := (hb.cell (lt_of_cell hcz)).trans hcz
                go_wp2
                exact hT _ _ rfl (by first | exact Rg.Keep.refl _ | exact below_of_dr hw2 | exact hw2 | exact (Below.refl _ _).alloc (Nat.le_refl _) _) (by first | rfl | exact congrArg _ (by decide))
              refine' Rg.op_is _ [] rfl rfl (by kernel_rfl) ?_ ?_
              rotate_left
              · intro wx hb
                refine Rg.from_nil fun T hT => ?_
                go_wp2
                refine hT _ _ rfl (by first | exact Rg.Keep.refl _ | exact below_of_dr hw2 | exact hw2 | exact (Below.refl _ _).alloc (Nat.le_refl _) _) ?_
                simp only [Rg.last, List.getElem?_toArray, List.getElem?_cons_succ, List.getElem?_cons_zero, Option.getD_some]
                rfl
              refine Rg.op_is (.int .u64 (z % q)) [5, 6] rfl rfl (by kernel_rfl) ?_ ?_
              · intro wx hb
                refine Rg.from_is (some 34) rfl rfl ?_
                refine Rg.from_is (some 35) rfl rfl ?_
                refine Rg.from_nil fun T hT => ?_
                go_wp2
                exact hT _ _ rfl (by first | exact Rg.Keep.refl _ | exact below_of_dr hw2 | exact hw2 | exact (Below.refl _ _).alloc (Nat.le_refl _) _) (by first | rfl | exact congrArg _ (by decide))
              refine' Rg.op_is _ [] rfl rfl (by kernel_rfl) ?_ ?_
              rotate_left
              · intro wx hb
                refine Rg.from_nil fun T hT => ?_
                go_wp2
                refine hT _ _ rfl (by first | exact Rg.Keep.refl _ | exact below_of_dr hw2 | exact hw2 | exact (Below.refl _ _).alloc (Nat.le_refl _) _) ?_
                simp only [Rg.last, List.getElem?_toArray, List.getElem?_cons_succ, List.getElem?_cons_zero, Option.getD_some]
                rfl
              refine' Rg.op_is _ [] rfl rfl (by kernel_rfl) ?_ ?_
              rotate_left
              · intro wx hb
                refine Rg.from_nil fun T hT => ?_
                go_wp2
                refine hT _ _ rfl (by first | exact Rg.Keep.refl _ | exact below_of_dr hw2 | exact hw2 | exact (Below.refl _ _).alloc (Nat.le_refl _) _) ?_
                simp only [Rg.last, List.getElem?_toArray, List.getElem?_cons_succ, List.getElem?_cons_zero, Option.getD_some]
                rfl
              refine' Rg.op_is _ [8, 9] rfl rfl (by kernel_rfl) ?_ ?_
              rotate_left
              · intro wx hb
                refine Rg.from_is (some 37) rfl rfl ?_
                refine Rg.from_is (some 38) rfl rfl ?_
                refine Rg.from_nil fun T hT => ?_
                go_wp2
                refine hT _ _ rfl (by first | exact Rg.Keep.refl _ | exact below_of_dr hw2 | exact hw2 | exact (Below.refl _ _).alloc (Nat.le_refl _) _) ?_
                simp only [Rg.last, List.getElem?_toArray, List.getElem?_cons_succ, List.getElem?_cons_zero, Option.getD_some]
                rfl
              refine Rg.op_is (.int .u64 x) [10] rfl rfl (by kernel_rfl) ?_ ?_
              · intro wx hb
                refine Rg.from_is (some 39) rfl rfl ?_
                refine Rg.from_nil fun T hT => ?_
                have hcx2 := (hb.cell (lt_of_cell hcell2)).trans hcell2
                go_wp2
                exact hT _ _ rfl (by first | exact Rg.Keep.refl _ | exact below_of_dr hw2 | exact hw2 | exact (Below.refl _ _).alloc (Nat.le_refl _) _) (by first | rfl | exact congrArg _ (by decide))
              refine' Rg.op_is _ [] rfl rfl (by kernel_rfl) ?_ ?_
              rotate_left
              · intro wx hb
                refine Rg.from_nil fun T hT => ?_
                go_wp2
                refine hT _ _ rfl (by first | exact Rg.Keep.refl _ | exact below_of_dr hw2 | exact hw2 | exact (Below.refl _ _).alloc (Nat.le_refl _) _) ?_
                simp only [Rg.last, List.getElem?_toArray, List.getElem?_cons_succ, List.getElem?_cons_zero, Option.getD_some]
                rfl
              refine Rg.op_is (.int .u64 (x % q)) [11, 12] rfl rfl (by kernel_rfl) ?_ ?_
              · intro wx hb
                refine Rg.from_is (some 40) rfl rfl ?_
                refine Rg.from_is (some 41) rfl rfl ?_
                refine Rg.from_nil fun T hT => ?_
                go_wp2
                exact hT _ _ rfl (by first | exact Rg.Keep.refl _ | exact below_of_dr hw2 | exact hw2 | exact (Below.refl _ _).alloc (Nat.le_refl _) _) (by first | rfl | exact congrArg _ (by decide))
              refine Rg.op_is (.bool (z % q != x % q)) [7, 13] rfl rfl (by kernel_rfl) ?_ ?_
              · intro wx hb
                refine Rg.from_is (some 36) rfl rfl ?_
                refine Rg.from_is (some 42) rfl rfl ?_
                refine Rg.from_nil fun T hT => ?_
                go_wp2
                exact hT _ _ rfl (by first | exact Rg.Keep.refl _ | exact below_of_dr hw2 | exact hw2 | exact (Below.refl _ _).alloc (Nat.le_refl _) _) (by first | rfl | exact congrArg _ (by decide))
              refine Rg.op_is (.bool (z % q != x % q)) [1, 14] rfl rfl (by kernel_rfl) ?_ ?_
              · intro wx hb
                refine Rg.from_is (some 30) rfl rfl ?_
                refine Rg.from_is (some 43) rfl rfl ?_
                refine Rg.from_nil fun T hT => ?_
                go_wp2
                exact hT _ _ rfl (by first | exact Rg.Keep.refl _ | exact below_of_dr hw2 | exact hw2 | exact (Below.refl _ _).alloc (Nat.le_refl _) _) (by first | rfl | exact congrArg _ (by decide))
              refine Rg.walk_nil [0, 1, 2, 3, 4, 5, 6, 7, 8, 9, 10, 11, 12, 13, 14, 15] (by kernel_rfl) ?_
              intro wx hb
              refine Rg.from_is (some 29) rfl rfl ?_
              refine Rg.from_is (some 30) rfl rfl ?_
              refine Rg.from_is (some 31) rfl rfl ?_
              refine Rg.from_is (some 32) rfl rfl ?_
              refine Rg.from_is (some 33) rfl rfl ?_
              refine Rg.from_is (some 34) rfl rfl ?_
              refine Rg.from_is (some 35) rfl rfl ?_
              refine Rg.from_is (some 36) rfl rfl ?_
              refine Rg.from_is (some 37) rfl rfl ?_
              refine Rg.from_is (some 38) rfl rfl ?_
              refine Rg.from_is (some 39) rfl rfl ?_
              refine Rg.from_is (some 40) rfl rfl ?_
              refine Rg.from_is (some 41) rfl rfl ?_
              refine Rg.from_is (some 42) rfl rfl ?_
              refine Rg.from_is (some 43) rfl rfl ?_
              refine Rg.from_is (some 44) rfl rfl ?_
              refine Rg.from_nil ?_
              simp only [List.map, Act.put, List.setIfInBounds_toArray, List.set_cons_zero, List.set_cons_succ]
              go_wp2
              go_roundw
              case rel => exact ⟨m + 1, by go_num, by omega, by rw [HH.out]; simp [bne]; rfl, below_next hd hd.size hb⟩
              case measure => simp [intOf]; omega
            · go_wp2
              refine Rg.wp_region (l := [_, _, _, _, _, _, _, _, _, _, _, _, _, _, _, _]) (tail := [_]) (Rg.grows _ 17) [some 29, some 30, some 31, some 32, some 33, some 34, some 35, some 36, some 37, some 38, some 39, some 40, some 41, some 42, some 43, some 44, some 9] 54 (by kernel_rfl) (by kernel_rfl) (by kernel_rfl) rfl (Rg.grows_fair _ _) (Rg.keep_drew _) (trivial) ?_
              refine Rg.op_is (.bool false) [] rfl rfl (by kernel_rfl) ?_ ?_
              · intro wx hb
                refine Rg.from_nil fun T hT => ?_
                go_wp2
                exact hT _ _ rfl (by first | exact Rg.Keep.refl _ | exact below_of_dr hw2 | exact hw2 | exact (Below.refl _ _).alloc (Nat.le_refl _) _) (by first | rfl | exact congrArg _ (by decide))
              refine Rg.op_is (.bool false) [0] rfl rfl (by kernel_rfl) ?_ ?_
              · intro wx hb
                refine Rg.from_is (some 29) rfl rfl ?_
                refine Rg.from_nil fun T hT => ?_
                go_wp2
                exact hT _ _ rfl (by first | exact Rg.Keep.refl _ | exact below_of_dr hw2 | exact hw2 | exact (Below.refl _ _).alloc (Nat.le_refl _) _) (by first | rfl | exact congrArg _ (by decide))
              refine Rg.op_skip rfl ?_
              refine Rg.op_skip rfl ?_
              refine Rg.op_skip rfl ?_
              refine Rg.op_skip rfl ?_
              refine Rg.op_skip rfl ?_
              refine Rg.op_skip rfl ?_
              refine Rg.op_skip rfl ?_
              refine Rg.op_skip rfl ?_
              refine Rg.op_skip rfl ?_
              refine Rg.op_skip rfl ?_
              refine Rg.op_skip rfl ?_
              refine Rg.op_skip rfl ?_
              refine Rg.op_skip rfl ?_
              refine Rg.op_is (.bool false) [1, 14] rfl rfl (by kernel_rfl) ?_ ?_
              · intro wx hb
                refine Rg.from_is (some 30) rfl rfl ?_
                refine Rg.from_is (some 43) rfl rfl ?_
                refine Rg.from_nil fun T hT => ?_
                go_wp2
                exact hT _ _ rfl (by first | exact Rg.Keep.refl _ | exact below_of_dr hw2 | exact hw2 | exact (Below.refl _ _).alloc (Nat.le_refl _) _) (by first | rfl | exact congrArg _ (by decide))
              refine Rg.walk_nil [0, 1, 2, 3, 4, 5, 6, 7, 8, 9, 10, 11, 12, 13, 14, 15] (by kernel_rfl) ?_
              intro wx hb
              refine Rg.from_is (some 29) rfl rfl ?_
              refine Rg.from_is (some 30) rfl rfl ?_
              refine Rg.from_is (some 31) rfl rfl ?_
              refine Rg.from_is (some 32) rfl rfl ?_
              refine Rg.from_is (some 33) rfl rfl ?_
              refine Rg.from_is (some 34) rfl rfl ?_
              refine Rg.from_is (some 35) rfl rfl ?_
              refine Rg.from_is (some 36) rfl rfl ?_
              refine Rg.from_is (some 37) rfl rfl ?_
              refine Rg.from_is (some 38) rfl rfl ?_
              refine Rg.from_is (some 39) rfl rfl ?_
              refine Rg.from_is (some 40) rfl rfl ?_
              refine Rg.from_is (some 41) rfl rfl ?_
              refine Rg.from_is (some 42) rfl rfl ?_
              refine Rg.from_is (some 43) rfl rfl ?_
              refine Rg.from_is (some 44) rfl rfl ?_
              refine Rg.from_nil ?_
              simp only [List.map, Act.put, List.setIfInBounds_toArray, List.set_cons_zero, List.set_cons_succ]
              go_wp2
              go_roundw
              case rel => exact ⟨m + 1, by go_num, by omega, by rw [HH.out]; simp, below_next hd hd.size hb⟩
              case measure => simp [intOf]; omega
          · obtain rfl : m = out.length := by omega
            rw [List.take_length]
            cases hh : hasM q out x with
            | true =>
              have HE := hid (HS.out.1.trans (by rw [uniqStep, if_neg (fun e => by rw [hh] at e; cases e.2)]))
              clear hh
              go_wp2
              go_roundw
              case rel => exact ⟨k + 1, by go_num, by omega, by rw [HE.out]; exact ho.below hd, below_next hw hw.size hd⟩
              case measure => simp [intOf]; omega
            | false =>
              have HE := hid (HS.out.1.trans (by rw [uniqStep, if_pos ⟨hm, hh⟩]))
              clear hh
              have ho2 := ho.below hd
              have hw2 := below_next hw hw.size hd
              have hl8 : (u64v out).length = out.length := by simp [u64v]
              go_wp2_with (at_builtin; refine wpList_push elt_u64 _ rfl _ _ rfl w.heap.size ho2 rfl (.int .u64 x) rfl rfl (by rw [hl8]; omega) (by rw [hl8]; omega) hw2.size ?_; intro v' w3 ho3 _ hb3)
              go_roundw
              case rel => exact ⟨k + 1, by go_num, by omega, by rw [HE.out]; simpa [u64v] using ho3, hw2.trans hb3⟩
              case measure => simp [intOf]; omega
      · go_wp2
        go_ret
        exact ⟨_, rfl, by rw [HS.out.2.2.1 (by omega)]; exact ho, hw⟩
    · obtain rfl : k = xs.length := by omega
      clear hol hlen htk hc7
      rw [List.take_length] at *
      go_wp2
      go_ret
      exact ⟨_, rfl, ho, hw⟩
end Go.Proofs.YtgdfphcggjclkaaDoor
