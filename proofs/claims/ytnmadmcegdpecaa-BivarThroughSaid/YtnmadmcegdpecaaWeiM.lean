/-
  Inverses: the reference's.
  Weights: the program's and the reference's; what is wrong with places: the reference's.
  The polynomial through points: the program's.
  Weights, and polynomials through points, at given numbers. (No program in sight.)
  Numbers told and written over: nothing else is touched.
-/
import Derived.Test.YtnmadmcegdpecaaLagM
import Derived.IntWalk
import Derived.Test.YtnmadmcegdpecaaNum
import Derived.Test.YtnmadmcegdpecaaShaM
import Derived.Test.YtnmadmcegdpecaaPolM

section
namespace Go.Proofs.Ytnmadmcegdpecaa
open Go.RowKit

attribute [local go_sem] Oper.semAt_some

/-- what Euclid tells of two. -/
structure Bo (a b g x y : Int) : Prop where
  eq : a * x + b * y = g
  da : g ∣ a
  db : g ∣ b
  g0 : 0 ≤ g
  g1 : g ≤ a ∨ g ≤ b
  x0 : -(max 1 b) ≤ x
  x1 : x ≤ max 1 b
  y0 : -(max 1 a) ≤ y
  y1 : y ≤ max 1 a
  z : b = 0 → x = 1 ∧ y = 0
  z2 : a = 0 → b ≠ 0 → x = 0
theorem Bo.base {a : Int} (h : 0 ≤ a) : Bo a 0 a 1 0 := ⟨by omega, Int.dvd_refl _, Int.dvd_zero _, h, .inl (Int.le_refl _), by omega, by omega, by omega, by omega, fun _ => ⟨rfl, rfl⟩, fun _ h => absurd rfl h⟩
theorem Bo.step {a b g x y : Int} (ha : 0 ≤ a) (hb : 0 < b) (h : Bo b (a % b) g x y) : Bo a b g y (x - a / b * y) := by
  have f1 := Int.emod_nonneg a (b := b) (by omega)
  have f2 := Int.emod_lt_of_pos a hb
  have f3 := Int.mul_ediv_add_emod a b
  have q0 : 0 ≤ a / b := Int.ediv_nonneg ha (by omega)
  obtain ⟨heq, hda, hdb, hg0, hg1, hx0, hx1, hy0, hy1, hz, hz2⟩ := h
  generalize a / b = t at *
  generalize a % b = r at *
  have hy0' : -b ≤ y := by omega
  have hy1' : y ≤ b := by omega
  have m1 := Int.mul_le_mul_of_nonneg_left hy1' q0
  have m2 := Int.mul_le_mul_of_nonneg_left hy0' q0
  have e1 : t * b = b * t := Int.mul_comm _ _
  have e2 : t * -b = -(b * t) := by grind
  rw [e1] at m1
  rw [e2] at m2
  refine ⟨?_, ?_, hda, hg0, ?_, by omega, by omega, ?_, ?_, fun h => by omega, fun h0 _ => ?_⟩
  · rw [← f3]; rw [← heq]; grind
  · rw [← f3]; exact Int.dvd_add (Int.dvd_trans hda (Int.dvd_mul_right _ _)) hdb
  · exact .inr (by omega)
  · by_cases hr : r = 0
    · obtain ⟨rfl, rfl⟩ := hz hr; omega
    · omega
  · by_cases hr : r = 0
    · obtain ⟨rfl, rfl⟩ := hz hr; omega
    · omega
  · have hr : r = 0 := by
      have : 0 ≤ b * t := Int.mul_nonneg (by omega) q0
      omega
    exact (hz hr).2
theorem Bo.wrap {a b g x y : Int} (ha : 0 ≤ a) (hb : 0 < b) (h : Bo b (a % b) g x y) (la : a ≤ 2305843009213693952) (lb : b ≤ 2305843009213693952) : -2305843009213693953 ≤ a / b * y ∧ a / b * y ≤ 2305843009213693953 := by
  have f1 := Int.emod_nonneg a (b := b) (by omega)
  have f3 := Int.mul_ediv_add_emod a b
  have q0 : 0 ≤ a / b := Int.ediv_nonneg ha (by omega)
  obtain ⟨_, _, _, _, _, _, _, hy0, hy1, _, _⟩ := h
  generalize a / b = t at *
  generalize a % b = r at *
  have hy0' : -b ≤ y := by omega
  have hy1' : y ≤ b := by omega
  have m1 := Int.mul_le_mul_of_nonneg_left hy1' q0
  have m2 := Int.mul_le_mul_of_nonneg_left hy0' q0
  have e1 : t * b = b * t := Int.mul_comm _ _
  have e2 : t * -b = -(b * t) := by grind
  rw [e1] at m1
  rw [e2] at m2
  omega

def BothE (a b : Int) (w : World) (e : Ending) (w' : World) : Prop := ∃ g x y, e = .returned (.tuple #[.int .i64 g, .int .i64 x, .int .i64 y]) ∧ Bo a b g x y ∧ Dr w w'

set_option maxRecDepth 100000 in
set_option maxHeartbeats 2000000 in
theorem both_c : ∀ (n : Nat) (a b : Int) (w : World), 0 ≤ a → a ≤ 2305843009213693952 → 0 ≤ b → b ≤ 2305843009213693952 → b < n →
    Calls Try.prog 115 #[.int .i64 a, .int .i64 b] w (BothE a b w)
  | 0, _, _, _, _, _, h, _, h' => by omega
  | n + 1, a, b, w, ha, la, hb, lb, hn => by
    by_cases hz : b = 0
    · subst hz
      go_enter Try.func115, Try.ntmps115
      go_wp2
      go_ret3
      exact ⟨_, _, _, rfl, Bo.base ha, Dr.refl _⟩
    · have hp : 0 < b := by omega
      have hbz : (b == 0) = false := beq_eq_false_iff_ne.2 hz
      have f1 := Int.emod_nonneg a (b := b) (by omega)
      have f2 := Int.emod_lt_of_pos a hp
      have f4 : 0 ≤ a / b := Int.ediv_nonneg ha (by omega)
      have f5 : a / b ≤ a := Int.ediv_le_self _ ha
      go_enter Try.func115, Try.ntmps115
      go_wp2_with (fail)
      refine (both_c n b (a % b) _ (by omega) lb f1 (by omega) (by omega)).mono ?_
      rintro e w2 ⟨g, x, y, rfl, hB, hw2⟩
      have hS := hid (hB.step ha hp)
      have hW := hB.wrap ha hp la lb
      have x0 := hB.x0
      have x1 := hB.x1
      have hwr1 : IntKind.i64.wrap (a / b * y) = a / b * y := Go.IntWalk.i64_in _ (by omega)
      have hwr2 : IntKind.i64.wrap (x - a / b * y) = x - a / b * y := Go.IntWalk.i64_in _ (by omega)
      have htd : a.tdiv b = a / b := Int.tdiv_eq_ediv_of_nonneg ha
      clear hB
      go_wp2
      go_quiet (fail)
      go_wp2
      go_ret3
      exact ⟨_, _, _, rfl, hS.out, hw2.more _⟩

theorem inv_hi {a m g x y : Int} (h : okm m = true) (hB : Bo (a % m) m g x y) (hg : g = 1) (hx : 0 ≤ x) : InvIs a m (x % m) := by
  have h0 := okm_pos h
  refine ⟨Int.emod_nonneg _ (by omega), Int.emod_lt_of_pos _ h0, ?_⟩
  have heq := hB.eq
  have e1 := Int.emod_def x m
  have e2 := Int.emod_def a m
  rw [e2] at heq
  rw [e1]
  generalize x / m = u at *
  generalize a / m = v at *
  exact ⟨v * x - y - u * a, by grind⟩
theorem inv_lo {a m g x y : Int} (h : okm m = true) (hB : Bo (a % m) m g x y) (hg : g = 1) (hx : x < 0) : InvIs a m (m - (-x) % m) := by
  have h0 := okm_pos h
  have heq := hB.eq
  have f1 := Int.emod_nonneg (-x) (b := m) (by omega)
  have f2 := Int.emod_lt_of_pos (-x) h0
  have hne : (-x) % m ≠ 0 := by
    intro hz
    have hd : m ∣ x := by
      have : m ∣ -x := Int.dvd_of_emod_eq_zero hz
      exact (Int.dvd_neg).1 this
    have h1 : m ∣ 1 := by
      rw [← hg, ← heq]
      exact Int.dvd_add (Int.dvd_trans hd (Int.dvd_mul_left _ _)) (Int.dvd_mul_right _ _)
    have h2 := Int.le_of_dvd (by decide) h1
    obtain rfl : m = 1 := by omega
    have := hB.z2 (by omega) (by decide)
    omega
  refine ⟨by omega, by omega, ?_⟩
  have e1 := Int.emod_def (-x) m
  have e2 := Int.emod_def a m
  rw [e2] at heq
  rw [e1]
  generalize -x / m = u at *
  generalize a / m = v at *
  exact ⟨v * x - y + a + u * a, by grind⟩
theorem inv_none {a m g x y : Int} (hB : Bo (a % m) m g x y) (hg : g ≠ 1) : ¬ ∃ z, InvIs a m z := by
  rintro ⟨z, _, _, k, hk⟩
  have h1 := hB.db
  have h2 : g ∣ a := by
    rw [← Int.mul_ediv_add_emod a m]
    exact Int.dvd_add (Int.dvd_trans h1 (Int.dvd_mul_right _ _)) hB.da
  have h3 : g ∣ 1 := by
    have : (1 : Int) = z * a - m * k := by omega
    rw [this]
    exact Int.dvd_sub (Int.dvd_trans h2 (Int.dvd_mul_left _ _)) (Int.dvd_trans h1 (Int.dvd_mul_right _ _))
  have h4 := Int.le_of_dvd (by decide) h3
  have h5 := hB.g0
  rcases Int.lt_or_eq_of_le h5 with h6 | h6
  · omega
  · rw [← h6] at h3
    have := Int.zero_dvd.1 h3
    omega

set_option maxRecDepth 100000 in
set_option maxHeartbeats 2000000 in
theorem rinv_c (a m : Int) (ha : U64 a) (hm : U64 m) (w : World) :
    Calls Try.prog 99 #[.int .u64 a, .int .u64 m] w fun e w' => e = .returned (.tuple #[.int .u64 (iVal a m), .int .i64 (iErr a m)]) ∧ Dr w w' := by
  obtain ⟨a0, a1⟩ := ha
  obtain ⟨m0, m1⟩ := hm
  by_cases h : okm m = true
  · have h0 := okm_pos h
    have h1 := okm_le h
    have f1 := Int.emod_nonneg a (b := m) (by omega)
    have f2 := Int.emod_lt_of_pos a h0
    have hmz : (m == 0) = false := beq_eq_false_iff_ne.2 (by omega)
    go_enter Try.func99, Try.ntmps99
    go_wp2_with (fail)
    refine (both_c (m.toNat + 1) (a % m) m _ f1 (by omega) (by omega) h1 (by omega)).mono ?_
    rintro e w2 ⟨g, x, y, rfl, hB, hw2⟩
    have x0 := hB.x0
    have x1 := hB.x1
    have g0 := hB.g0
    have g1 := hB.g1
    by_cases hg : g = 1
    · by_cases hx : 0 ≤ x
      · have v1 := hid (iVal_is h (inv_hi h hB hg hx))
        have v2 := hid (iErr_is h (inv_hi h hB hg hx))
        clear hB
        subst hg
        go_wp2
        go_ret2
        rw [v1.out, v2.out]
        exact ⟨rfl, hw2⟩
      · have hx' : x < 0 := by omega
        have v1 := hid (iVal_is h (inv_lo h hB hg hx'))
        have v2 := hid (iErr_is h (inv_lo h hB hg hx'))
        have f3 := Int.emod_nonneg (-x) (b := m) (by omega)
        have f4 := Int.emod_lt_of_pos (-x) h0
        have htm : x.tmod m = -((-x) % m) := by
          have e1 := Int.neg_tmod x m
          rw [Int.tmod_eq_emod_of_nonneg (by omega)] at e1
          omega
        have hwr : IntKind.u64.wrap (m + x.tmod m) = m - (-x) % m := by
          rw [htm]; exact (Go.IntWalk.u64_in _ (by omega)).trans (by omega)
        clear htm
        clear hB
        subst hg
        go_wp2
        go_ret2
        rw [v1.out, v2.out]
        exact ⟨rfl, hw2⟩
    · have hn := inv_none hB hg
      have v1 := hid (iVal_none hn)
      have v2 := hid (iErr_none h hn)
      have hbg : (g != 1) = true := bne_iff_ne.2 hg
      clear hB hn
      go_wp2
      go_ret2
      rw [v1.out, v2.out]
      exact ⟨rfl, hw2⟩
  · have h' : okm m = false := by simpa using h
    have v1 := hid (iVal_no (a := a) h')
    have v2 := hid (iErr_no (a := a) h')
    rcases okm_ways h m0 with rfl | ⟨hgt, hmz⟩
    all_goals
      go_enter Try.func99, Try.ntmps99
      go_wp2
      go_ret2
      rw [v1.out, v2.out]
      exact ⟨rfl, Dr.refl _⟩

end Go.Proofs.Ytnmadmcegdpecaa
end

section
namespace Go.Proofs.Ytnmadmcegdpecaa
open Go.RowKit

attribute [local go_sem] Oper.semAt_some

/-- a row of the call's own, and what is wrong. -/
def NewTwo (l : List Int) (err : Int) (w : World) (e : Ending) (w' : World) : Prop := ∃ v, e = .returned (.tuple #[v, .int .i64 err]) ∧ Own w' w.heap.size 23 v (l.map (.int .u64)) ∧ Below w.heap.size w w'

open Classical in
noncomputable def eApart (xs : List Int) (q : Int) : Int := if Apart xs q then 0 else 5
noncomputable def eAll (xs : List Int) (q : Int) : Int := if eUnlike xs q = 0 then eApart xs q else eUnlike xs q
theorem eAll_bad {xs : List Int} {q : Int} (h : eUnlike xs q ≠ 0) : eAll xs q = eUnlike xs q := by unfold eAll; rw [if_neg h]
theorem eAll_yes {xs : List Int} {q : Int} (h : eUnlike xs q = 0) (ha : Apart xs q) : eAll xs q = 0 := by unfold eAll eApart; rw [if_pos h, if_pos ha]
theorem eAll_no {xs : List Int} {q : Int} (h : eUnlike xs q = 0) (ha : ¬ Apart xs q) : eAll xs q = 5 := by unfold eAll eApart; rw [if_pos h, if_neg ha]
theorem unlike_okm {xs : List Int} {q : Int} (h : eUnlike xs q = 0) : okm q = true := by
  unfold eUnlike at h
  split at h
  · assumption
  · omega
theorem unlike_len {xs : List Int} {q : Int} (h : eUnlike xs q = 0) : xs.length ≤ 1024 := by
  unfold eUnlike at h
  split at h
  · split at h
    · assumption
    · omega
  · omega
noncomputable def wAll (xs : List Int) (y q : Int) : List Int := (List.range xs.length).map (wOne xs y q)
noncomputable def wList (xs : List Int) (y q : Int) : List Int := if eAll xs q = 0 then wAll xs y q else []
theorem wAll_at {xs : List Int} {y q : Int} {k : Nat} {x : Int} (h : xs[k]? = some x) : (wAll xs y q)[k]? = some (mMul (iVal (mProd (but xs k) x q) q) (mProd (but xs k) y q) q) := by
  have hk := (List.getElem?_eq_some_iff.1 h).1
  unfold wAll
  rw [List.getElem?_map, List.getElem?_range hk, Option.map_some, wOne, List.getD_eq_getElem?_getD, h]; rfl

set_option maxRecDepth 100000 in
set_option maxHeartbeats 2000000 in
theorem pweights_c (A : Option Addr) (l : List Int) (c : Nat) (at_ q : Int) (w : World) (hA : Cells w A (l.map (.int .u64))) (hl : l.length ≤ 1000000) (hu : U64s l) (hat : U64 at_) (hq : U64 q) :
    Calls Try.prog 54 #[.slice A l.length c, .int .u64 at_, .int .u64 q] w (NewTwo (wList l at_ q) (eAll l q) w) := by
  by_cases he0 : eUnlike l q = 0
  · have hk := unlike_okm he0
    have HE0 := hid he0
    have hnb : ((0 : Int) != 0) = false := by decide
    go_enter Try.func54, Try.ntmps54
    clear he0
    go_wp2_with (go_at_call 96; refine (unlike_c A l c q _ hA (by omega) hu hq).mono ?_; rintro e w2 ⟨rfl, hb2⟩; rw [HE0.out])
    go_loopw [9, 10, 11, 12, 13, 22] (fun o _ _ _ _ i wr => ∃ k : Nat, i = .int .i64 k ∧ k ≤ l.length ∧ Own wr w.heap.size 23 o (((wAll l at_ q).take k).map (.int .u64)) ∧ Below w.heap.size w wr ∧ Hid (∀ j x, j < k → l[j]? = some x → Un (pd (but l j) x) q)) (fun _ _ _ _ _ i _ => l.length - (intOf i).toNat)
    case atStart => exact ⟨0, rfl, by omega, by simpa using Own.nil w2 w.heap.size 23, hb2, fun j x h => by omega⟩
    case round =>
      obtain ⟨k, rfl, hk1, hown, hb, hall⟩ := hrel
      by_cases hlt : k < l.length
      · obtain ⟨x, hx⟩ := get_of_lt hlt
        have hA2 := hA.keep fun p hp => hb.cell hp
        have hsh := share_c A l c k x at_ q wr hA2 hl hx hu hat hq hk
        by_cases hun : Un (pd (but l k) x) q
        · have hie : iErr (mProd (but l k) x q) q = 0 := (iErr_zero hk).2 (hun.congr (by rw [mProd_emod hk, Int.emod_emod]))
          have hz2 := wAll_at (y := at_) (q := q) hx
          have hall2 : ∀ j x, j < k + 1 → l[j]? = some x → Un (pd (but l j) x) q := fun j y hj hy => by
            rcases Nat.lt_or_ge j k with h | h
            · exact hall.out j y h hy
            · obtain rfl : j = k := by omega
              rw [hx] at hy
              obtain rfl := Option.some.inj hy
              exact hun
          have hv := iVal_u64 (mProd (but l k) x q) q
          have hp := mProd_u64 hk (but l k) at_
          rw [hie] at hsh
          obtain ⟨pu, hpu⟩ : ∃ p, iVal (mProd (but l k) x q) q = p := ⟨_, rfl⟩
          obtain ⟨pv, hpv⟩ : ∃ p, mProd (but l k) at_ q = p := ⟨_, rfl⟩
          rw [hpu, hpv] at hsh hz2
          rw [hpu] at hv
          rw [hpv] at hp
          have hs : ((wAll l at_ q).take k).map (Value.int .u64) ++ [Value.int .u64 (mMul pu pv q)] = ((wAll l at_ q).take (k + 1)).map (Value.int .u64) := by
            rw [take_snoc' hz2]; simp
          have hlen : (((wAll l at_ q).take k).map (Value.int .u64)).length = k := by simp [wAll]; omega
          have HS := hid (⟨hs, hlen, hall2, hsh⟩ : _ ∧ _ ∧ _ ∧ _)
          clear hs hlen hall2 hall hsh hz2 hx hun hie hpu hpv
          go_wp2_with (fail)
          refine HS.out.2.2.2.mono ?_
          rintro e w3 ⟨rfl, hb3⟩
          have hown3 := hown.below hb3
          have hb4 := below_next hb hb.size hb3
          go_wp2_with (first | (go_at_call 33; refine (mul_c _ _ _ hv hp hq _).mono ?_; rintro e w4 ⟨rfl, hw4⟩) | (at_builtin; refine wpList_push elt_u64 _ rfl _ _ rfl w.heap.size (hown3.dr hw4) rfl (.int .u64 (mMul pu pv q)) rfl rfl (by rw [HS.out.2.1]; omega) (by rw [HS.out.2.1]; omega) (by have := hb4.size; have := Dr.size hw4; omega) ?_; intro v' w5 hown5 _ hb5))
          go_roundw
          case rel =>
            rw [HS.out.1] at hown5
            exact ⟨k + 1, by go_num, by omega, hown5, (below_dr hb4 hw4).trans hb5, HS.out.2.2.1⟩
          case measure => simp [intOf]; omega
        · have hie : iErr (mProd (but l k) x q) q = 5 := iErr_five hk fun h => hun (h.congr (by rw [mProd_emod hk, Int.emod_emod]))
          have hea : eAll l q = 5 := eAll_no HE0.out fun ha => hun (apart_iff.1 ha k x hx)
          have hw0 : wList l at_ q = [] := by unfold wList; rw [hea, if_neg (by decide)]
          rw [hie] at hsh
          have HS := hid (⟨hsh, hea, hw0⟩ : _ ∧ _ ∧ _)
          clear hsh hea hw0 hx hie hun hall
          go_wp2_with (fail)
          refine HS.out.1.mono ?_
          rintro e w3 ⟨rfl, hb3⟩
          go_wp2
          go_ret2
          rw [HS.out.2.1, HS.out.2.2]
          exact ⟨_, rfl, Own.nil _ _ _, below_next hb hb.size hb3⟩
      · obtain rfl : k = l.length := by omega
        have ha : Apart l q := apart_iff.2 fun j x hx => hall.out j x (List.getElem?_eq_some_iff.1 hx).1 hx
        have HE := hid (eAll_yes HE0.out ha)
        clear ha
        go_wp2
        go_ret2
        unfold wList
        rw [HE.out, if_pos rfl]
        rw [List.take_of_length_le (by simp [wAll])] at hown
        exact ⟨_, rfl, hown, hb⟩
  · have hbn : (eUnlike l q != 0) = true := bne_iff_ne.2 he0
    have hea := eAll_bad he0
    have hw0 : wList l at_ q = [] := by unfold wList; rw [hea, if_neg he0]
    have HE := hid (⟨hea, hw0⟩ : _ ∧ _)
    clear hea hw0
    go_enter Try.func54, Try.ntmps54
    go_wp2_with (go_at_call 96; refine (unlike_c A l c q _ hA (by omega) hu hq).mono ?_; rintro e w2 ⟨rfl, hb2⟩)
    go_ret2
    rw [HE.out.1, HE.out.2]
    exact ⟨_, rfl, Own.nil _ _ _, hb2⟩

end Go.Proofs.Ytnmadmcegdpecaa
end

section
namespace Go.Proofs.Ytnmadmcegdpecaa
open Go.RowKit

attribute [local go_sem] Oper.semAt_some

noncomputable def tErr (xs ys : List Int) (q : Int) : Int := if xs.length = ys.length then eAll xs q else 1
noncomputable def tVal (xs ys : List Int) (q : Int) : List Int := if tErr xs ys q = 0 then pOut xs ys q xs.length else []
theorem tVal_bad {xs ys : List Int} {q : Int} (h : tErr xs ys q ≠ 0) : tVal xs ys q = [] := by unfold tVal; rw [if_neg h]
theorem tVal_ok {xs ys : List Int} {q : Int} (h : tErr xs ys q = 0) : tVal xs ys q = pOut xs ys q xs.length := by unfold tVal; rw [if_pos h]

theorem pTimes_u64 (a b : List Int) (q : Int) : U64s (pTimes a b q) := by
  unfold pTimes
  split
  · intro z hz
    obtain ⟨n, _, rfl⟩ := List.mem_map.1 hz
    exact tAt_u64 _ _ _ _ _
  · intro z hz; cases hz
theorem pSum_u64 (a b : List Int) (q : Int) : U64s (pSum a b q) := by
  unfold pSum
  split
  · intro z hz
    obtain ⟨n, _, rfl⟩ := List.mem_map.1 hz
    exact mAdd_u64 _ _ _
  · intro z hz; cases hz
theorem pScale_u64 (a : List Int) (k q : Int) : U64s (pScale a k q) := by
  unfold pScale
  split
  · intro z hz
    obtain ⟨n, _, rfl⟩ := List.mem_map.1 hz
    exact mMul_u64 _ _ _
  · intro z hz; cases hz
theorem withoutL_u64 (c : List Int) (x q : Int) : U64s (withoutL c x q) := by
  intro z hz
  obtain ⟨n, _, rfl⟩ := List.mem_map.1 hz
  exact mEval_u64 _ _ _
theorem pAll_u64 {q : Int} (h : okm q = true) (xs : List Int) : U64s (pAll xs q) := by
  unfold pAll
  have key : ∀ (l a : List Int), U64s a → U64s (l.foldl (fun a x => pTimes a [mSub 0 x q, 1] q) a) := by
    intro l
    induction l with
    | nil => exact fun a h => h
    | cons x l ih => exact fun a _ => ih _ (pTimes_u64 _ _ _)
  refine key _ _ fun z hz => ?_
  rw [List.mem_singleton] at hz
  subst hz
  exact mod_u64 h
theorem pOut_u64 (xs ys : List Int) (q : Int) : ∀ k, U64s (pOut xs ys q k)
  | 0 => by
    intro z hz
    rw [pOut, List.mem_replicate] at hz
    obtain ⟨_, rfl⟩ := hz
    exact ⟨by omega, by omega⟩
  | k + 1 => pSum_u64 _ _ _
theorem pAll_step {xs : List Int} {k : Nat} {x : Int} (h : xs[k]? = some x) (q : Int) : pAll (xs.take (k + 1)) q = pTimes (pAll (xs.take k) q) [mSub 0 x q, 1] q := by
  rw [take_snoc' h, pAll_snoc]
theorem pOut_step {xs ys : List Int} {k : Nat} {x y : Int} (h : xs[k]? = some x) (h' : ys[k]? = some y) (q : Int) : pOut xs ys q (k + 1) = pSum (pOut xs ys q k) (pScale (withoutL (pAll xs q) x q) (mMul (iVal (mProd (but xs k) x q) q) y q) q) q := by
  rw [pOut, List.getD_eq_getElem?_getD, List.getD_eq_getElem?_getD, h, h']; rfl
theorem u64_pair (a q : Int) : U64s [mSub 0 a q, 1] := by
  intro z hz
  simp only [List.mem_cons, List.not_mem_nil, or_false] at hz
  rcases hz with rfl | rfl
  · exact mSub_u64 _ _ _
  · exact ⟨by decide, by decide⟩

set_option maxRecDepth 100000 in
set_option maxHeartbeats 2000000 in
theorem pthrough_c (A B : Option Addr) (l m : List Int) (c d : Nat) (q : Int) (w : World) (hA : Cells w A (l.map (.int .u64))) (hB : Cells w B (m.map (.int .u64))) (hl : l.length ≤ 100000) (hl' : m.length ≤ 100000) (hu : U64s l) (hu' : U64s m) (hq : U64 q) :
    Calls Try.prog 56 #[.slice A l.length c, .slice B m.length d, .int .u64 q] w (NewTwo (tVal l m q) (tErr l m q) w) := by
  by_cases hlm : l.length = m.length
  · have hln : ((l.length : Int) != (m.length : Int)) = false := by simp [hlm]
    have hln2 : (l.length != m.length) = false := by simp [hlm]
    by_cases he0 : eUnlike l q = 0
    · have hk := unlike_okm he0
      have h0 := okm_pos hk
      have h1 := okm_le hk
      have HE0 := hid he0
      have HLM := hid hlm
      have hnb : ((0 : Int) != 0) = false := by decide
      clear he0 hlm
      go_enter Try.func56, Try.ntmps56
      go_wp2_with (first | (go_at_call 101; refine (pmay_c _ hq _).mono ?_; rintro e w' ⟨rfl, rfl⟩; rw [hk]) | (go_at_call 96; refine (unlike_c A l c q _ hA (by omega) hu hq).mono ?_; rintro e w2 ⟨rfl, hb2⟩; rw [HE0.out]))
      have hs2 := hb2.size
      have hr1 := row1_new w2 [.int .u64 (1 % q)] 23
      have hb3 := below_next hb2 hb2.size (below_alloc w2 (.cells #[.int .u64 (1 % q)] 23))
      simp only [List.toArray] at hr1
      generalize w2.alloc (.cells #[.int .u64 (1 % q)] 23) = w3 at *
      go_loopw [9, 11, 39] (fun v _ i wr => ∃ k : Nat, i = .int .i64 k ∧ k ≤ l.length ∧ (∃ C cc, v = .slice C (pAll (l.take k) q).length cc ∧ Cells wr C ((pAll (l.take k) q).map (.int .u64))) ∧ Below w.heap.size w wr) (fun _ _ i _ => l.length - (intOf i).toNat)
      case atStart => exact ⟨0, rfl, by omega, ⟨_, _, by first | rfl | simp [pAll], by simpa [pAll] using hr1.cells⟩, hb3⟩
      case round =>
        obtain ⟨k, rfl, hk1, ⟨C, cc, rfl, hC⟩, hb⟩ := hrel
        have hpl : (pAll (l.take k) q).length = k + 1 := by rw [(pAll_is hk _).1, List.length_take]; omega
        have hpu := pAll_u64 hk (l.take k)
        by_cases hlt : k < l.length
        · obtain ⟨x, hx⟩ := get_of_lt hlt
          obtain ⟨o2, off2, rfl, hcx⟩ := (hA.keep fun p hp => hb.cell hp).at_map hx
          have hux := hu.at_ hx
          have hst := pAll_step hx q
          generalize pAll (l.take k) q = P at *
          have HS := hid (⟨hst, hpl⟩ : _ ∧ _)
          clear hst hpl hx hr1
          go_wp2_with (go_at_call 81; refine (sub_c 0 _ _ ⟨by decide, by decide⟩ hux hq _).mono ?_; rintro e w4 ⟨rfl, hw4⟩)
          have hC4 := (hC.keep fun p hp => (below_of_dr hw4 (B := wr.heap.size)).cell hp)
          have hb4 := below_dr hb hw4
          have hr5 := row1_new w4 [.int .u64 (mSub 0 x q), .int .u64 1] 23
          have hC5 := hC4.keep fun p hp => (below_alloc w4 (.cells #[.int .u64 (mSub 0 x q), .int .u64 1] 23)).cell hp
          have hb5 := below_next hb4 hb4.size (below_alloc w4 (.cells #[.int .u64 (mSub 0 x q), .int .u64 1] 23))
          refine (ptimes_c C _ P [mSub 0 x q, 1] cc 2 q _ hC5 hr5.cells (by rw [HS.out.2]; omega) (by simp) hpu (u64_pair x q) hq).mono ?_
          rintro e w6 ⟨v, rfl, hown6, hb6⟩
          obtain ⟨C6, c6, rfl, hC6⟩ := hown6.form
          rw [List.length_map, ← HS.out.1]
          rw [← HS.out.1] at hC6
          have hb7 := below_next hb5 hb5.size hb6
          clear hown6 hr5 hC5 hC4
          go_wp2
          go_roundw
          case rel => exact ⟨k + 1, by go_num, by omega, ⟨_, _, rfl, hC6⟩, hb7⟩
          case measure => simp [intOf]; omega
        · obtain rfl : k = l.length := by omega
          rw [List.take_length] at hC hpl hpu ⊢
          generalize wr = wm at *
          have hsm := hb.size
          obtain ⟨P, hP⟩ : ∃ P, pAll l q = P := ⟨_, rfl⟩
          have hst0 := fun (k : Nat) (x y : Int) (h : l[k]? = some x) (h' : m[k]? = some y) => pOut_step h h' q
          rw [hP] at hC hpl hpu hst0 ⊢
          have HP := hid (⟨hpl, hst0⟩ : _ ∧ _)
          clear hP hpl hst0 hr1
          go_wp2_with (at_make; refine wpList_make_row elt_u64 _ rfl _ _ rfl .i64 .i64 _ _ l.length rfl rfl rfl rfl (by omega) (by omega) ?_; intro w4 hr4 hs4 hb4)
          go_loopw [12, 13, 14, 15, 16, 17, 56] (fun o _ _ _ _ _ i wr => ∃ k : Nat, i = .int .i64 k ∧ k ≤ l.length ∧ Own wr wm.heap.size 23 o ((pOut l m q k).map (.int .u64)) ∧ Below wm.heap.size wm wr ∧ Hid (∀ j x, j < k → l[j]? = some x → Un (pd (but l j) x) q)) (fun _ _ _ _ _ _ i _ => l.length - (intOf i).toNat)
          case atStart =>
            refine ⟨0, rfl, by omega, ?_, hb4, fun j x h => by omega⟩
            have h9 := hr4.own (Nat.le_refl _) (by rw [List.length_replicate]; omega)
            rw [List.length_replicate] at h9
            rw [pOut, List.map_replicate]
            exact h9
          case round =>
            obtain ⟨k, rfl, hk1, hown, hbm, hall⟩ := hrel
            have hb5 := below_next hb hsm hbm
            clear hr4 hb4 hs4
            by_cases hlt : k < l.length
            · obtain ⟨x, hx⟩ := get_of_lt hlt
              have hkm : k < m.length := by have := HLM.out; omega
              obtain ⟨y, hy⟩ := get_of_lt hkm
              have hux := hu.at_ hx
              have huy := hu'.at_ hy
              have hA5 := hA.keep fun p hp => hb5.cell hp
              have hC5 := hC.keep fun p hp => hbm.cell hp
              obtain ⟨o2, off2, rfl, hcx⟩ := hA5.at_map hx
              obtain ⟨o3, off3, rfl, hcy⟩ := (hB.keep fun p hp => hb5.cell hp).at_map hy
              have hsh := share_c _ l c k x 0 q wr hA5 (by omega) hx hu ⟨by decide, by decide⟩ hq hk
              have hol := pOut_len hk l m k
              have hou := pOut_u64 l m q k
              by_cases hun : Un (pd (but l k) x) q
              · have hie : iErr (mProd (but l k) x q) q = 0 := (iErr_zero hk).2 (hun.congr (by rw [mProd_emod hk, Int.emod_emod]))
                have hall2 : ∀ j x, j < k + 1 → l[j]? = some x → Un (pd (but l j) x) q := fun j y' hj hy' => by
                  rcases Nat.lt_or_ge j k with h | h
                  · exact hall.out j y' h hy'
                  · obtain rfl : j = k := by omega
                    rw [hx] at hy'
                    obtain rfl := Option.some.inj hy'
                    exact hun
                have hst := HP.out.2 k x y hx hy
                have hv := iVal_u64 (mProd (but l k) x q) q
                rw [hie] at hsh
                obtain ⟨pu, hpu2⟩ : ∃ p, iVal (mProd (but l k) x q) q = p := ⟨_, rfl⟩
                rw [hpu2] at hsh hv hst
                have hwl : (withoutL P x q).length = l.length := by simp [withoutL, HP.out.1]
                have hwu := withoutL_u64 P x q
                have hsl : (pScale (withoutL P x q) (mMul pu y q) q).length = l.length := by rw [scale_len hk, hwl]
                have hsu := pScale_u64 (withoutL P x q) (mMul pu y q) q
                obtain ⟨M, hM⟩ : ∃ M, pScale (withoutL P x q) (mMul pu y q) q = M := ⟨_, rfl⟩
                obtain ⟨O, hO⟩ : ∃ O, pOut l m q k = O := ⟨_, rfl⟩
                rw [hM] at hsl hsu hst
                rw [hO] at hown hol hou hst
                obtain ⟨A6, c6, rfl, hA6⟩ := hown.form
                rw [List.length_map]
                have HS := hid (⟨hall2, hsh, hst, hM, hwl, hsl, hol⟩ : _ ∧ _ ∧ _ ∧ _ ∧ _ ∧ _ ∧ _)
                clear hall2 hall hsh hst hM hwl hsl hol hx hy hun hie hpu2 hO hown
                go_wp2_with (fail)
                refine HS.out.2.1.mono ?_
                rintro e w7 ⟨rfl, hb7⟩
                have hA7 := hA6.keep fun p hp => hb7.cell hp
                have hC7 := hC5.keep fun p hp => hb7.cell hp
                have hcy7 := (hb7.cell (lt_of_cell hcy)).trans hcy
                have hbm7 := below_next hbm hbm.size hb7
                clear hA6 hC5 hcy hcx hA5
                go_upto_region 19 with (fail)
                refine Rgb.wp_region (l := [_, _, _, _, _, _, _, _, _, _, _, _, _, _, _, _]) (tail := [_]) (Rgb.grows _ 17) [some 72, some 73, some 74, some 75, some 76, some 77, some 78, some 79, some 80, some 81, some 82, some 83, some 84, some 85, some 86, some 87, some 12] 90 (by kernel_rfl) (by kernel_rfl) (by kernel_rfl) rfl (Rgb.grows_fair _ _) (Rgb.keep_drew _) (trivial) ?_
                refine' Rgb.op_is _ [] rfl rfl (by kernel_rfl) ?_ ?_
                rotate_left
                · intro wx hb
                  refine Rgb.from_nil fun T hT => ?_
                  go_wp2
                  refine hT _ _ rfl (by first | exact Rgb.Keep.refl _ | exact below_of_dr hw2 | exact hw2 | exact (Below.refl _ _).alloc (Nat.le_refl _) _) ?_
                  simp only [Rgb.last, List.getElem?_toArray, List.getElem?_cons_succ, List.getElem?_cons_zero, Option.getD_some]
                  rfl
                refine' Rgb.op_is _ [] rfl rfl (by kernel_rfl) ?_ ?_
                rotate_left
                · intro wx hb
                  refine Rgb.from_nil fun T hT => ?_
                  go_wp2
                  refine hT _ _ rfl (by first | exact Rgb.Keep.refl _ | exact below_of_dr hw2 | exact hw2 | exact (Below.refl _ _).alloc (Nat.le_refl _) _) ?_
                  simp only [Rgb.last, List.getElem?_toArray, List.getElem?_cons_succ, List.getElem?_cons_zero, Option.getD_some]
                  rfl
                refine' Rgb.op_is _ [] rfl rfl (by kernel_rfl) ?_ ?_
                rotate_left
                · intro wx hb
                  refine Rgb.from_nil fun T hT => ?_
                  go_wp2
                  refine hT _ _ rfl (by first | exact Rgb.Keep.refl _ | exact below_of_dr hw2 | exact hw2 | exact (Below.refl _ _).alloc (Nat.le_refl _) _) ?_
                  simp only [Rgb.last, List.getElem?_toArray, List.getElem?_cons_succ, List.getElem?_cons_zero, Option.getD_some]
                  rfl
                refine' Rgb.op_is _ [] rfl rfl (by kernel_rfl) ?_ ?_
                rotate_left
                · intro wx hb
                  refine Rgb.from_nil fun T hT => ?_
                  go_wp2
                  refine hT _ _ rfl (by first | exact Rgb.Keep.refl _ | exact below_of_dr hw2 | exact hw2 | exact (Below.refl _ _).alloc (Nat.le_refl _) _) ?_
                  simp only [Rgb.last, List.getElem?_toArray, List.getElem?_cons_succ, List.getElem?_cons_zero, Option.getD_some]
                  rfl
                refine Rgb.op_of (fun w' v => Own w' w7.heap.size 23 v ((withoutL P x q).map (.int .u64))) [1, 2, 3] rfl ?_ ?_ rfl (by kernel_rfl) ?_ ?_
                · exact fun w1 w2 v hk h => h.below hk
                · exact fun w1 w2 v hk h => h.below hk
                · intro wx hb
                  refine Rgb.from_is (some 73) rfl rfl ?_
                  refine Rgb.from_is (some 74) rfl rfl ?_
                  refine Rgb.from_is (some 75) rfl rfl ?_
                  refine Rgb.from_nil fun T hT => ?_
                  go_wp2_with (fail)
                  refine (without_c C P cc x q _ (hC7.keep fun p hp => hb.cell hp) (by rw [HP.out.1]; omega) (by rw [HP.out.1]; omega) hpu hux hq).mono ?_
                  rintro e w8 ⟨v, rfl, hown8, hb8⟩
                  go_wp2
                  exact hT _ _ rfl hb8 (hown8.from_ hb.size)
                refine' Rgb.op_is _ [] rfl rfl (by kernel_rfl) ?_ ?_
                rotate_left
                · intro wx hb
                  refine Rgb.from_nil fun T hT => ?_
                  go_wp2
                  refine hT _ _ rfl (by first | exact Rgb.Keep.refl _ | exact below_of_dr hw2 | exact hw2 | exact (Below.refl _ _).alloc (Nat.le_refl _) _) ?_
                  simp only [Rgb.last, List.getElem?_toArray, List.getElem?_cons_succ, List.getElem?_cons_zero, Option.getD_some]
                  rfl
                refine' Rgb.op_is _ [] rfl rfl (by kernel_rfl) ?_ ?_
                rotate_left
                · intro wx hb
                  refine Rgb.from_nil fun T hT => ?_
                  go_wp2
                  refine hT _ _ rfl (by first | exact Rgb.Keep.refl _ | exact below_of_dr hw2 | exact hw2 | exact (Below.refl _ _).alloc (Nat.le_refl _) _) ?_
                  simp only [Rgb.last, List.getElem?_toArray, List.getElem?_cons_succ, List.getElem?_cons_zero, Option.getD_some]
                  rfl
                refine' Rgb.op_is _ [] rfl rfl (by kernel_rfl) ?_ ?_
                rotate_left
                · intro wx hb
                  refine Rgb.from_nil fun T hT => ?_
                  go_wp2
                  refine hT _ _ rfl (by first | exact Rgb.Keep.refl _ | exact below_of_dr hw2 | exact hw2 | exact (Below.refl _ _).alloc (Nat.le_refl _) _) ?_
                  simp only [Rgb.last, List.getElem?_toArray, List.getElem?_cons_succ, List.getElem?_cons_zero, Option.getD_some]
                  rfl
                refine Rgb.op_is (.pointer (some ⟨o3, off3 + k, none⟩)) [6, 7] rfl rfl (by kernel_rfl) ?_ ?_
                · intro wx hb
                  refine Rgb.from_is (some 78) rfl rfl ?_
                  refine Rgb.from_is (some 79) rfl rfl ?_
                  refine Rgb.from_nil fun T hT => ?_
                  go_wp2
                  exact hT _ _ rfl (by first | exact Rgb.Keep.refl _ | exact below_of_dr hw2 | exact hw2 | exact (Below.refl _ _).alloc (Nat.le_refl _) _) (by first | rfl | exact congrArg _ (by decide))
                refine Rgb.op_is (.int .u64 y) [8] rfl rfl (by kernel_rfl) ?_ ?_
                · intro wx hb
                  refine Rgb.from_is (some 80) rfl rfl ?_
                  refine Rgb.from_nil fun T hT => ?_
                  have g1 := (hb.cell (lt_of_cell hcy7)).trans hcy7
                  go_wp2
                  exact hT _ _ rfl (by first | exact Rgb.Keep.refl _ | exact below_of_dr hw2 | exact hw2 | exact (Below.refl _ _).alloc (Nat.le_refl _) _) (by first | rfl | exact congrArg _ (by decide))
                refine' Rgb.op_is _ [] rfl rfl (by kernel_rfl) ?_ ?_
                rotate_left
                · intro wx hb
                  refine Rgb.from_nil fun T hT => ?_
                  go_wp2
                  refine hT _ _ rfl (by first | exact Rgb.Keep.refl _ | exact below_of_dr hw2 | exact hw2 | exact (Below.refl _ _).alloc (Nat.le_refl _) _) ?_
                  simp only [Rgb.last, List.getElem?_toArray, List.getElem?_cons_succ, List.getElem?_cons_zero, Option.getD_some]
                  rfl
                refine Rgb.op_is (.int .u64 (mMul pu y q)) [5, 9, 10] rfl rfl (by kernel_rfl) ?_ ?_
                · intro wx hb
                  refine Rgb.from_is (some 77) rfl rfl ?_
                  refine Rgb.from_is (some 81) rfl rfl ?_
                  refine Rgb.from_is (some 82) rfl rfl ?_
                  refine Rgb.from_nil fun T hT => ?_
                  go_wp2_with (go_at_call 33; refine (mul_c _ _ _ hv huy hq _).mono ?_; rintro e w8 ⟨rfl, hw8⟩)
                  exact hT _ _ rfl (below_of_dr hw8) rfl
                refine' Rgb.op_is _ [] rfl rfl (by kernel_rfl) ?_ ?_
                rotate_left
                · intro wx hb
                  refine Rgb.from_nil fun T hT => ?_
                  go_wp2
                  refine hT _ _ rfl (by first | exact Rgb.Keep.refl _ | exact below_of_dr hw2 | exact hw2 | exact (Below.refl _ _).alloc (Nat.le_refl _) _) ?_
                  simp only [Rgb.last, List.getElem?_toArray, List.getElem?_cons_succ, List.getElem?_cons_zero, Option.getD_some]
                  rfl
                refine Rgb.op_of (fun w' v => Own w' w7.heap.size 23 v (M.map (.int .u64))) [4, 11, 12] rfl ?_ ?_ rfl (by kernel_rfl) ?_ ?_
                · exact fun w1 w2 v hk h => h.below hk
                · exact fun w1 w2 v hk h => h.below hk
                · intro wx hb
                  refine Rgb.from_of (some 76) rfl rfl fun v76 h76 => ?_
                  refine Rgb.from_is (some 83) rfl rfl ?_
                  refine Rgb.from_is (some 84) rfl rfl ?_
                  refine Rgb.from_nil fun T hT => ?_
                  obtain ⟨A9, c9, rfl, g9⟩ := h76.form
                  rw [List.length_map]
                  go_wp2_with (fail)
                  refine (pscale_c A9 (withoutL P x q) c9 (mMul pu y q) q _ g9 (by rw [HS.out.2.2.2.2.1]; omega) hwu (mMul_u64 _ _ _) hq).mono ?_
                  rintro e w8 ⟨v, rfl, hown8, hb8⟩
                  rw [HS.out.2.2.2.1] at hown8
                  go_wp2
                  exact hT _ _ rfl hb8 (hown8.from_ hb.size)
                refine' Rgb.op_is _ [] rfl rfl (by kernel_rfl) ?_ ?_
                rotate_left
                · intro wx hb
                  refine Rgb.from_nil fun T hT => ?_
                  go_wp2
                  refine hT _ _ rfl (by first | exact Rgb.Keep.refl _ | exact below_of_dr hw2 | exact hw2 | exact (Below.refl _ _).alloc (Nat.le_refl _) _) ?_
                  simp only [Rgb.last, List.getElem?_toArray, List.getElem?_cons_succ, List.getElem?_cons_zero, Option.getD_some]
                  rfl
                refine Rgb.op_of (fun w' v => Own w' w7.heap.size 23 v ((pOut l m q (k + 1)).map (.int .u64))) [0, 13, 14] rfl ?_ ?_ rfl (by kernel_rfl) ?_ ?_
                · exact fun w1 w2 v hk h => h.below hk
                · exact fun w1 w2 v hk h => h.below hk
                · intro wx hb
                  refine Rgb.from_is (some 72) rfl rfl ?_
                  refine Rgb.from_of (some 85) rfl rfl fun v85 h85 => ?_
                  refine Rgb.from_is (some 86) rfl rfl ?_
                  refine Rgb.from_nil fun T hT => ?_
                  obtain ⟨A9, c9, rfl, g9⟩ := h85.form
                  rw [List.length_map]
                  go_wp2_with (fail)
                  refine (psum_c A6 A9 O M c6 c9 q _ (hA7.keep fun p hp => hb.cell hp) g9 (by rw [HS.out.2.2.2.2.2.2]; omega) (by rw [HS.out.2.2.2.2.2.1]; omega) hou hsu hq).mono ?_
                  rintro e w8 ⟨v, rfl, hown8, hb8⟩
                  rw [← HS.out.2.2.1] at hown8
                  go_wp2
                  exact hT _ _ rfl hb8 (hown8.from_ hb.size)
                refine Rgb.walk_nil [0, 1, 2, 3, 4, 5, 6, 7, 8, 9, 10, 11, 12, 13, 14, 15] (by kernel_rfl) ?_
                intro wx hb
                refine Rgb.from_is (some 72) rfl rfl ?_
                refine Rgb.from_is (some 73) rfl rfl ?_
                refine Rgb.from_is (some 74) rfl rfl ?_
                refine Rgb.from_is (some 75) rfl rfl ?_
                refine Rgb.from_of (some 76) rfl rfl fun v76 h76 => ?_
                refine Rgb.from_is (some 77) rfl rfl ?_
                refine Rgb.from_is (some 78) rfl rfl ?_
                refine Rgb.from_is (some 79) rfl rfl ?_
                refine Rgb.from_is (some 80) rfl rfl ?_
                refine Rgb.from_is (some 81) rfl rfl ?_
                refine Rgb.from_is (some 82) rfl rfl ?_
                refine Rgb.from_is (some 83) rfl rfl ?_
                refine Rgb.from_is (some 84) rfl rfl ?_
                refine Rgb.from_of (some 85) rfl rfl fun v85 h85 => ?_
                refine Rgb.from_is (some 86) rfl rfl ?_
                refine Rgb.from_of (some 87) rfl rfl fun v87 h87 => ?_
                refine Rgb.from_nil ?_
                simp only [List.map, Act.put, List.setIfInBounds_toArray, List.set_cons_zero, List.set_cons_succ]
                have hbm8 := below_next hbm7 hbm7.size hb
                have hs7 := hbm7.size
                clear hA7 hC7 hcy7
                go_wp2
                go_roundw
                case rel => exact ⟨k + 1, by go_num, by omega, h87.from_ hs7, hbm8, HS.out.1⟩
                case measure => simp [intOf]; omega
              · have hie : iErr (mProd (but l k) x q) q = 5 := iErr_five hk fun h => hun (h.congr (by rw [mProd_emod hk, Int.emod_emod]))
                have hea : tErr l m q = 5 := by unfold tErr; rw [if_pos HLM.out]; exact eAll_no HE0.out fun ha => hun (apart_iff.1 ha k x hx)
                have hw0 : tVal l m q = [] := tVal_bad (by rw [hea]; decide)
                rw [hie] at hsh
                have HS := hid (⟨hsh, hea, hw0⟩ : _ ∧ _ ∧ _)
                clear hsh hea hw0 hx hy hie hun hall hcy hol hou
                go_wp2_with (fail)
                refine HS.out.1.mono ?_
                rintro e w7 ⟨rfl, hb7⟩
                go_wp2
                go_ret2
                rw [HS.out.2.1, HS.out.2.2]
                exact ⟨_, rfl, Own.nil _ _ _, below_next hb5 hb5.size hb7⟩
            · obtain rfl : k = l.length := by omega
              have ha : Apart l q := apart_iff.2 fun j x hx => hall.out j x (List.getElem?_eq_some_iff.1 hx).1 hx
              have hte : tErr l m q = 0 := by unfold tErr; rw [if_pos HLM.out]; exact eAll_yes HE0.out ha
              have HE := hid (⟨hte, tVal_ok hte⟩ : _ ∧ _)
              clear ha hte hall
              go_wp2
              go_ret2
              rw [HE.out.1, HE.out.2]
              exact ⟨_, rfl, hown.from_ hsm, hb5⟩
    · have hbn : (eUnlike l q != 0) = true := bne_iff_ne.2 he0
      have hea : tErr l m q = eUnlike l q := by unfold tErr; rw [if_pos hlm]; exact eAll_bad he0
      have hw0 : tVal l m q = [] := tVal_bad (by rw [hea]; exact he0)
      cases hk : okm q with
      | true =>
        have HE := hid (⟨hea, hw0⟩ : _ ∧ _)
        clear hea hw0 he0 hlm
        go_enter Try.func56, Try.ntmps56
        go_wp2_with (first | (go_at_call 101; refine (pmay_c _ hq _).mono ?_; rintro e w' ⟨rfl, rfl⟩; rw [hk]) | (go_at_call 96; refine (unlike_c A l c q _ hA (by omega) hu hq).mono ?_; rintro e w2 ⟨rfl, hb2⟩))
        go_ret2
        rw [HE.out.1, HE.out.2]
        exact ⟨_, rfl, Own.nil _ _ _, hb2⟩
      | false =>
        have hu1 : eUnlike l q = 1 := by unfold eUnlike; rw [if_neg (by rw [hk]; decide)]
        rw [hu1] at hea
        have HE := hid (⟨hea, hw0⟩ : _ ∧ _)
        clear hea hw0 he0 hlm hu1 hbn
        go_enter Try.func56, Try.ntmps56
        go_wp2_with (go_at_call 101; refine (pmay_c _ hq _).mono ?_; rintro e w' ⟨rfl, rfl⟩; rw [hk])
        go_ret2
        rw [HE.out.1, HE.out.2]
        exact ⟨_, rfl, Own.nil _ _ _, Below.refl _ _⟩
  · have hln : ((l.length : Int) != (m.length : Int)) = true := by simp; omega
    have hln2 : (l.length != m.length) = true := by simp; omega
    have hea : tErr l m q = 1 := by unfold tErr; rw [if_neg hlm]
    have hw0 : tVal l m q = [] := tVal_bad (by rw [hea]; decide)
    have HE := hid (⟨hea, hw0⟩ : _ ∧ _)
    clear hea hw0 hlm
    cases hk : okm q with
    | true =>
      go_enter Try.func56, Try.ntmps56
      go_wp2_with (go_at_call 101; refine (pmay_c _ hq _).mono ?_; rintro e w' ⟨rfl, rfl⟩; rw [hk])
      go_ret2
      rw [HE.out.1, HE.out.2]
      exact ⟨_, rfl, Own.nil _ _ _, Below.refl _ _⟩
    | false =>
      go_enter Try.func56, Try.ntmps56
      go_wp2_with (go_at_call 101; refine (pmay_c _ hq _).mono ?_; rintro e w' ⟨rfl, rfl⟩; rw [hk])
      go_ret2
      rw [HE.out.1, HE.out.2]
      exact ⟨_, rfl, Own.nil _ _ _, Below.refl _ _⟩

end Go.Proofs.Ytnmadmcegdpecaa
end

section
namespace Go.Proofs.Ytnmadmcegdpecaa

/-- are these the inverses of the products? -/
def unitsB (xs : List Int) (q : Int) (ivs : List Int) : Bool := decide (eUnlike xs q = 0) && (List.range xs.length).all fun k => decide (0 ≤ ivs.getD k 0) && decide (ivs.getD k 0 < q) && decide ((ivs.getD k 0 * mProd (but xs k) (xs.getD k 0) q) % q = 1 % q)
theorem units_ok {xs : List Int} {q : Int} {ivs : List Int} (h : unitsB xs q ivs = true) : okm q = true ∧ eUnlike xs q = 0 ∧ eAll xs q = 0 ∧ ∀ k, k < xs.length → iVal (mProd (but xs k) (xs.getD k 0) q) q = ivs.getD k 0 := by
  simp only [unitsB, Bool.and_eq_true, decide_eq_true_eq, List.all_eq_true, List.mem_range] at h
  obtain ⟨h1, h2⟩ := h
  have hk := unlike_okm h1
  have h3 : ∀ k, k < xs.length → InvIs (mProd (but xs k) (xs.getD k 0) q) q (ivs.getD k 0) := fun k hk' => by
    obtain ⟨⟨h3, h4⟩, h5⟩ := h2 k hk'
    refine ⟨h3, h4, (ivs.getD k 0 * mProd (but xs k) (xs.getD k 0) q) / q - 1 / q, ?_⟩
    have e1 := Int.mul_ediv_add_emod (ivs.getD k 0 * mProd (but xs k) (xs.getD k 0) q) q
    have e2 := Int.mul_ediv_add_emod 1 q
    rw [h5] at e1
    rw [Int.mul_sub]
    omega
  refine ⟨hk, h1, eAll_yes h1 (apart_iff.2 fun i x hx => ?_), fun k hk' => iVal_is hk (h3 k hk')⟩
  have hi := (List.getElem?_eq_some_iff.1 hx).1
  have hgx : xs.getD i 0 = x := by rw [List.getD_eq_getElem?_getD, hx]; rfl
  have := un_of_inv (h3 i hi)
  rw [hgx] at this
  exact this.congr (by rw [mProd_emod hk, Int.emod_emod])
theorem wList_eval {xs : List Int} {q : Int} (ivs : List Int) (h : unitsB xs q ivs = true) (y : Int) : wList xs y q = (List.range xs.length).map fun k => mMul (ivs.getD k 0) (mProd (but xs k) y q) q := by
  obtain ⟨_, _, h1, h2⟩ := units_ok h
  unfold wList wAll
  rw [if_pos h1]
  apply List.map_congr_left
  intro k hk
  rw [wOne, h2 k (List.mem_range.1 hk)]
def pOutC (xs ys : List Int) (q : Int) (ivs : List Int) : Nat → List Int
  | 0 => List.replicate xs.length 0
  | k + 1 => pSum (pOutC xs ys q ivs k) (pScale (withoutL (pAll xs q) (xs.getD k 0) q) (mMul (ivs.getD k 0) (ys.getD k 0) q) q) q
theorem pOut_eval {xs : List Int} {q : Int} (ivs : List Int) (h : unitsB xs q ivs = true) (ys : List Int) : ∀ k, k ≤ xs.length → pOut xs ys q k = pOutC xs ys q ivs k
  | 0, _ => rfl
  | k + 1, hk => by
    obtain ⟨_, _, _, h2⟩ := units_ok h
    rw [pOut, pOutC, pOut_eval ivs h ys k (by omega), h2 k (by omega)]
theorem tVal_eval {xs ys : List Int} {q : Int} (ivs : List Int) (h : unitsB xs q ivs = true) (hl : xs.length = ys.length) : tErr xs ys q = 0 ∧ tVal xs ys q = pOutC xs ys q ivs xs.length := by
  obtain ⟨_, _, h1, _⟩ := units_ok h
  have he : tErr xs ys q = 0 := by unfold tErr; rw [if_pos hl, h1]
  exact ⟨he, by rw [tVal_ok he, pOut_eval ivs h ys _ (Nat.le_refl _)]⟩
theorem not_un {a q d : Int} (h1 : d ∣ a) (h2 : d ∣ q) (h3 : ¬ d ∣ 1) : ¬ Un a q := by
  rintro ⟨x, hx⟩
  apply h3
  have e1 := Int.mul_ediv_add_emod (x * a) q
  have e2 := Int.mul_ediv_add_emod 1 q
  have : (1 : Int) = x * a - q * (x * a / q) + q * (1 / q) := by rw [hx] at e1; omega
  rw [this]
  exact Int.dvd_add (Int.dvd_sub (Int.dvd_trans h1 (Int.dvd_mul_left _ _)) (Int.dvd_trans h2 (Int.dvd_mul_right _ _))) (Int.dvd_trans h2 (Int.dvd_mul_right _ _))

theorem ex_w : wList [1, 2, 3] 0 11 = [3, 8, 1] := by
  rw [wList_eval [6, 10, 6] (by decide)]; decide
theorem ex_we : eAll [1, 2, 3] 11 = 0 := (units_ok (ivs := [6, 10, 6]) (by decide)).2.2.1
theorem ex_te : tErr [1, 2, 3] [6, 0, 7] 11 = 0 := (tVal_eval [6, 10, 6] (by decide) rfl).1
theorem ex_t : tVal [1, 2, 3] [6, 0, 7] 11 = [3, 2, 1] := by
  rw [(tVal_eval (xs := [1, 2, 3]) (ys := [6, 0, 7]) (q := 11) [6, 10, 6] (by decide) rfl).2]; decide

end Go.Proofs.Ytnmadmcegdpecaa
end

section
namespace Go.Proofs.Ytnmadmcegdpecaa
open Go.RowKit

attribute [local go_sem] Oper.semAt_some

theorem own_cells {w : World} {base : Nat} {e : TypeId} {A : Option Addr} {n c : Nat} {xs : List Value} (h : Own w base e (.slice A n c) xs) : Cells w A xs := by
  obtain ⟨A', c', he, hc⟩ := h.form
  simp only [Value.slice.injEq] at he
  rw [he.1]; exact hc
theorem own_block0 (A : Option Addr) (n c : Nat) : (Value.slice A n c).ownBlock = (Value.slice A 0 0).ownBlock := by cases A <;> rfl
/-- two of unlike age lie in unlike blocks. -/
theorem own_apart {w w' : World} {b b' : Nat} {e e' : TypeId} {v v' : Value} {xs xs' : List Value} (h : Own w b e v xs) (h' : Own w' b' e' v' xs') (hs : w.heap.size ≤ b') : ∀ g, v'.ownBlock = some g → v.ownBlock ≠ some g := by
  intro g hg hg'
  have := (h.block g hg').2
  have := (h'.block g hg).1
  omega

set_option maxRecDepth 100000 in
set_option maxHeartbeats 2000000 in
theorem told2_c (A B : Option Addr) (g v : List Int) (c d base : Nat) (w : World) (hW : Writ w base 23 (.slice A g.length c) g.length) (hA : Cells w A (g.map (.int .u64))) (hB : Cells w B (v.map (.int .u64))) (hl : g.length ≤ 9223372036854775807) (hl' : v.length ≤ 9223372036854775807) :
    Calls Try.prog 58 #[.slice A g.length c, .slice B v.length d] w fun e w' => e = .returned (.bool (decide (g = v))) ∧ Below base w w' ∧ ∀ k, (Value.slice A 0 0).ownBlock ≠ some k → w'.heap[k]? = w.heap[k]? := by
  go_enter Try.func58, Try.ntmps58
  go_wp2_with (fail)
  refine (numbers_c A B g v c d w hA hB hl hl').mono ?_
  rintro e w2 ⟨rfl, hw2⟩
  have hW2 := hW.below (below_of_dr hw2)
  have hb2 : Below base w w2 := below_of_dr hw2
  have hk2 : ∀ k, (Value.slice A 0 0).ownBlock ≠ some k → w2.heap[k]? = w.heap[k]? := fun k _ => by obtain ⟨n, rfl⟩ := hw2; rfl
  obtain ⟨r, hr⟩ : ∃ r, decide (g = v) = r := ⟨_, rfl⟩
  rw [hr]
  have HR := hid hr
  have HK2 := hid hk2
  generalize g.length = n at *
  clear hr hW hw2 hA hB hk2
  go_wp2
  go_loopw [6] (fun i wr => ∃ j : Nat, i = .int .i64 j ∧ j ≤ n ∧ Writ wr base 23 (.slice A n c) n ∧ Below base w wr ∧ Hid (∀ k, (Value.slice A 0 0).ownBlock ≠ some k → wr.heap[k]? = w.heap[k]?)) (fun i _ => n - (intOf i).toNat)
  case atStart => exact ⟨0, rfl, by omega, hW2, hb2, HK2⟩
  case round =>
    obtain ⟨j, rfl, hj, hwa, hbo, hko⟩ := hrel
    clear hW2 hb2 HK2
    by_cases hltj : j < n
    · obtain ⟨g1, cap, u0, he, hg1', hg2, hg3, hg4, ar, hg5⟩ := hwa.at_ hltj
      simp only [Value.slice.injEq, true_and] at he
      obtain ⟨rfl, rfl⟩ := he
      have hwa3 := hwa.set g1 j (.int .u64 77)
      have hbo3 := hbo.setCell (p := ⟨g1, j, none⟩) hg1' (.int .u64 77)
      have hko3 := hid (fun k (hk : (Value.slice (some ⟨g1, 0, none⟩) 0 0).ownBlock ≠ some k) => (Below.heap_setCell wr ⟨g1, j, none⟩ (.int .u64 77) k (fun e => hk (by simp [Value.ownBlock, e]))).trans (hko.out k hk))
      clear hwa hbo hg5
      go_wp2
      go_roundw
      case rel => exact ⟨j + 1, by go_num, by omega, hwa3, hbo3, hko3⟩
      case measure => simp [intOf]; omega
    · obtain rfl : j = n := by omega
      go_wp2
      go_ret
      exact ⟨ret_bool HR.out.symm, hbo, hko.out⟩

end Go.Proofs.Ytnmadmcegdpecaa
end
