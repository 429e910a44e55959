/-
  Weights: the program's and the reference's; what is wrong with places: the reference's.
-/
import Derived.Test.YtnmadmcegdpecaaShareB
import Derived.Test.YtnmadmcegdpecaaRInv
import Derived.Test.YtnmadmcegdpecaaPolB
namespace Go.Proofs.Ytnmadmcegdpecaa
open Go.RowKit

attribute [local go_sem] Oper.semAt_some

/-- a row of the call's own, and what is wrong. -/
def NewTwo (l : List Int) (err : Int) (w : World) (e : Ending) (w' : World) : Prop := ∃ v, e = .returned (.tuple #[v, .int .i64 err]) ∧ Own w' w.heap.size 23 v (l.map (.int .u64)) ∧ Below w.heap.size w w'

open Classical in
noncomputable def eApart (xs : List Int) (q : Int) : Int := if Apart xs q then 0 else 5
noncomputable def eAll (xs : List Int) (q : Int) : Int := if eUnlike xs q = 0 then eApart xs q else eUnlike xs q
theorem eAll_bad {xs : List Int} {q : Int} (h : eUnlike xs q ≠ 0) : eAll xs q = eUnlike xs q := by unfold eAll; rw [if_neg h]
theorem eAll_yes {xs : List Int} {q : Int} (h : eUnlike xs q = 0) (ha : Apart xs q) : eAll xs q = 0 := by unfold eAll eApart; rw [if_pos h, if_pos ha]
theorem eAll_no {xs : List Int} {q : Int} (h : eUnlike xs q = 0) (ha : ¬ Apart xs q) : eAll xs q = 5 := by unfold eAll eApart; rw [if_pos h, if_neg ha]
theorem unlike_okm {xs : List Int} {q : Int} (h : eUnlike xs q = 0) : okm q = true := by
  unfold eUnlike at h
  split at h
  · assumption
  · omega
theorem unlike_len {xs : List Int} {q : Int} (h : eUnlike xs q = 0) : xs.length ≤ 1024 := by
  unfold eUnlike at h
  split at h
  · split at h
    · assumption
    · omega
  · omega
noncomputable def wAll (xs : List Int) (y q : Int) : List Int := (List.range xs.length).map (wOne xs y q)
noncomputable def wList (xs : List Int) (y q : Int) : List Int := if eAll xs q = 0 then wAll xs y q else []
theorem wAll_at {xs : List Int} {y q : Int} {k : Nat} {x : Int} (h : xs[k]? = some x) : (wAll xs y q)[k]? = some (mMul (iVal (mProd (but xs k) x q) q) (mProd (but xs k) y q) q) := by
  have hk := (List.getElem?_eq_some_iff.1 h).1
  unfold wAll
  rw [List.getElem?_map, List.getElem?_range hk, Option.map_some, wOne, List.getD_eq_getElem?_getD, h]; rfl

set_option maxRecDepth 100000 in
set_option maxHeartbeats 2000000 in
theorem pweights_c (A : Option Addr) (l : List Int) (c : Nat) (at_ q : Int) (w : World) (hA : Cells w A (l.map (.int .u64))) (hl : l.length ≤ 1000000) (hu : U64s l) (hat : U64 at_) (hq : U64 q) :
    Calls Try.prog 54 #[.slice A l.length c, .int .u64 at_, .int .u64 q] w (NewTwo (wList l at_ q) (eAll l q) w) := by
  by_cases he0 : eUnlike l q = 0
  · have hk := unlike_okm he0
    have HE0 := hid he0
    have hnb : ((0 : Int) != 0) = false := by decide
    go_enter Try.func54, Try.ntmps54
    clear he0
    go_wp2_with (go_at_call 96; refine (unlike_c A l c q _ hA (by omega) hu hq).mono ?_; rintro e w2 ⟨rfl, hb2⟩; rw [HE0.out])
    go_loopw [9, 10, 11, 12, 13, 22] (fun o _ _ _ _ i wr => ∃ k : Nat, i = .int .i64 k ∧ k ≤ l.length ∧ Own wr w.heap.size 23 o (((wAll l at_ q).take k).map (.int .u64)) ∧ Below w.heap.size w wr ∧ Hid (∀ j x, j < k → l[j]? = some x → Un (pd (but l j) x) q)) (fun _ _ _ _ _ i _ => l.length - (intOf i).toNat)
    case atStart => exact ⟨0, rfl, by omega, by simpa using Own.nil w2 w.heap.size 23, hb2, fun j x h => by omega⟩
    case round =>
      obtain ⟨k, rfl, hk1, hown, hb, hall⟩ := hrel
      by_cases hlt : k < l.length
      · obtain ⟨x, hx⟩ := get_of_lt hlt
        have hA2 := hA.keep fun p hp => hb.cell hp
        have hsh := share_c A l c k x at_ q wr hA2 hl hx hu hat hq hk
        by_cases hun : Un (pd (but l k) x) q
        · have hie : iErr (mProd (but l k) x q) q = 0 := (iErr_zero hk).2 (hun.congr (by rw [mProd_emod hk, Int.emod_emod]))
          have hz2 := wAll_at (y := at_) (q := q) hx
          have hall2 : ∀ j x, j < k + 1 → l[j]? = some x → Un (pd (but l j) x) q := fun j y hj hy => by
            rcases Nat.lt_or_ge j k with h | h
            · exact hall.out j y h hy
            · obtain rfl : j = k := by omega
              rw [hx] at hy
              obtain rfl := Option.some.inj hy
              exact hun
          have hv := iVal_u64 (mProd (but l k) x q) q
          have hp := mProd_u64 hk (but l k) at_
          rw [hie] at hsh
          obtain ⟨pu, hpu⟩ : ∃ p, iVal (mProd (but l k) x q) q = p := ⟨_, rfl⟩
          obtain ⟨pv, hpv⟩ : ∃ p, mProd (but l k) at_ q = p := ⟨_, rfl⟩
          rw [hpu, hpv] at hsh hz2
          rw [hpu] at hv
          rw [hpv] at hp
          have hs : ((wAll l at_ q).take k).map (Value.int .u64) ++ [Value.int .u64 (mMul pu pv q)] = ((wAll l at_ q).take (k + 1)).map (Value.int .u64) := by
            rw [take_snoc' hz2]; simp
          have hlen : (((wAll l at_ q).take k).map (Value.int .u64)).length = k := by simp [wAll]; omega
          have HS := hid (⟨hs, hlen, hall2, hsh⟩ : _ ∧ _ ∧ _ ∧ _)
          clear hs hlen hall2 hall hsh hz2 hx hun hie hpu hpv
          go_wp2_with (fail)
          refine HS.out.2.2.2.mono ?_
          rintro e w3 ⟨rfl, hb3⟩
          have hown3 := hown.below hb3
          have hb4 := below_next hb hb.size hb3
          go_wp2_with (first | (go_at_call 33; refine (mul_c _ _ _ hv hp hq _).mono ?_; rintro e w4 ⟨rfl, hw4⟩) | (at_builtin; refine wpList_push elt_u64 _ rfl _ _ rfl w.heap.size (hown3.dr hw4) rfl (.int .u64 (mMul pu pv q)) rfl rfl (by rw [HS.out.2.1]; omega) (by rw [HS.out.2.1]; omega) (by have := hb4.size; have := Dr.size hw4; omega) ?_; intro v' w5 hown5 _ hb5))
          go_roundw
          case rel =>
            rw [HS.out.1] at hown5
            exact ⟨k + 1, by go_num, by omega, hown5, (below_dr hb4 hw4).trans hb5, HS.out.2.2.1⟩
          case measure => simp [intOf]; omega
        · have hie : iErr (mProd (but l k) x q) q = 5 := iErr_five hk fun h => hun (h.congr (by rw [mProd_emod hk, Int.emod_emod]))
          have hea : eAll l q = 5 := eAll_no HE0.out fun ha => hun (apart_iff.1 ha k x hx)
          have hw0 : wList l at_ q = [] := by unfold wList; rw [hea, if_neg (by decide)]
          rw [hie] at hsh
          have HS := hid (⟨hsh, hea, hw0⟩ : _ ∧ _ ∧ _)
          clear hsh hea hw0 hx hie hun hall
          go_wp2_with (fail)
          refine HS.out.1.mono ?_
          rintro e w3 ⟨rfl, hb3⟩
          go_wp2
          go_ret2
          rw [HS.out.2.1, HS.out.2.2]
          exact ⟨_, rfl, Own.nil _ _ _, below_next hb hb.size hb3⟩
      · obtain rfl : k = l.length := by omega
        have ha : Apart l q := apart_iff.2 fun j x hx => hall.out j x (List.getElem?_eq_some_iff.1 hx).1 hx
        have HE := hid (eAll_yes HE0.out ha)
        clear ha
        go_wp2
        go_ret2
        unfold wList
        rw [HE.out, if_pos rfl]
        rw [List.take_of_length_le (by simp [wAll])] at hown
        exact ⟨_, rfl, hown, hb⟩
  · have hbn : (eUnlike l q != 0) = true := bne_iff_ne.2 he0
    have hea := eAll_bad he0
    have hw0 : wList l at_ q = [] := by unfold wList; rw [hea, if_neg he0]
    have HE := hid (⟨hea, hw0⟩ : _ ∧ _)
    clear hea hw0
    go_enter Try.func54, Try.ntmps54
    go_wp2_with (go_at_call 96; refine (unlike_c A l c q _ hA (by omega) hu hq).mono ?_; rintro e w2 ⟨rfl, hb2⟩)
    go_ret2
    rw [HE.out.1, HE.out.2]
    exact ⟨_, rfl, Own.nil _ _ _, hb2⟩

end Go.Proofs.Ytnmadmcegdpecaa
