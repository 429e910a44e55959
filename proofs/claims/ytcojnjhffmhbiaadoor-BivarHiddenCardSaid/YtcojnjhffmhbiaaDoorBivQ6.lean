/-
  Parts of these texts that the statement needs: PlyD, RaE, LitB, RaF, PlyE, BvA, BvB.
-/
import Derived.Test.YtcojnjhffmhbiaaDoorBivQ5
import Derived.Test.YtcojnjhffmhbiaaDoorBivQ2
import Derived.Test.YtcojnjhffmhbiaaDoorBivQ1
import Derived.Shelf.Abstract
import Derived.Shelf.RegionOpen
import Derived.OwnWalkIn
import Derived.TacticsInMore
import Derived.LoopNIn
import Derived.LoopIn
import Derived.Deep.Cut
import Derived.Laws.EntriesVeiled

section
namespace Go.Proofs.YtcojnjhffmhbiaaDoor
open Go.RowKit
attribute [local go_sem] Oper.semAt_some
/-- a row of the call's own, and what is wrong. -/
def NewTwo (l : List Int) (err : Int) (w : World) (e : Ending) (w' : World) : Prop := ∃ v, e = .returned (.tuple #[v, .int .i64 err]) ∧ Own w' w.heap.size 24 v (l.map (.int .u64)) ∧ Below w.heap.size w w'
open Classical in
noncomputable def eApart (xs : List Int) (q : Int) : Int := if Apart xs q then 0 else 5
noncomputable def eAll (xs : List Int) (q : Int) : Int := if eUnlike xs q = 0 then eApart xs q else eUnlike xs q
theorem eAll_bad {xs : List Int} {q : Int} (h : eUnlike xs q ≠ 0) : eAll xs q = eUnlike xs q := by unfold eAll; rw [if_neg h]
theorem eAll_yes {xs : List Int} {q : Int} (h : eUnlike xs q = 0) (ha : Apart xs q) : eAll xs q = 0 := by unfold eAll eApart; rw [if_pos h, if_pos ha]
theorem eAll_no {xs : List Int} {q : Int} (h : eUnlike xs q = 0) (ha : ¬ Apart xs q) : eAll xs q = 5 := by unfold eAll eApart; rw [if_pos h, if_neg ha]
theorem unlike_okm {xs : List Int} {q : Int} (h : eUnlike xs q = 0) : okm q = true := by
  unfold eUnlike at h
  split at h
  · assumption
  · omega
open Go.RowKit
attribute [local go_sem] Oper.semAt_some
noncomputable def tErr (xs ys : List Int) (q : Int) : Int := if xs.length = ys.length then eAll xs q else 1
noncomputable def tVal (xs ys : List Int) (q : Int) : List Int := if tErr xs ys q = 0 then pOut xs ys q xs.length else []
theorem tVal_bad {xs ys : List Int} {q : Int} (h : tErr xs ys q ≠ 0) : tVal xs ys q = [] := by unfold tVal; rw [if_neg h]
theorem tVal_ok {xs ys : List Int} {q : Int} (h : tErr xs ys q = 0) : tVal xs ys q = pOut xs ys q xs.length := by unfold tVal; rw [if_pos h]
theorem pTimes_u64 (a b : List Int) (q : Int) : U64s (pTimes a b q) := by
  unfold pTimes
  split
  · intro z hz
    obtain ⟨n, _, rfl⟩ := List.mem_map.1 hz
    exact tAt_u64 _ _ _ _ _
  · intro z hz; cases hz
theorem pSum_u64 (a b : List Int) (q : Int) : U64s (pSum a b q) := by
  unfold pSum
  split
  · intro z hz
    obtain ⟨n, _, rfl⟩ := List.mem_map.1 hz
    exact mAdd_u64 _ _ _
  · intro z hz; cases hz
theorem pScale_u64 (a : List Int) (k q : Int) : U64s (pScale a k q) := by
  unfold pScale
  split
  · intro z hz
    obtain ⟨n, _, rfl⟩ := List.mem_map.1 hz
    exact mMul_u64 _ _ _
  · intro z hz; cases hz
theorem withoutL_u64 (c : List Int) (x q : Int) : U64s (withoutL c x q) := by
  intro z hz
  obtain ⟨n, _, rfl⟩ := List.mem_map.1 hz
  exact mEval_u64 _ _ _
theorem pAll_u64 {q : Int} (h : okm q = true) (xs : List Int) : U64s (pAll xs q) := by
  unfold pAll
  have key : ∀ (l a : List Int), U64s a → U64s (l.foldl (fun a x => pTimes a [mSub 0 x q, 1] q) a) := by
    intro l
    induction l with
    | nil => exact fun a h => h
    | cons x l ih => exact fun a _ => ih _ (pTimes_u64 _ _ _)
  refine key _ _ fun z hz => ?_
  rw [List.mem_singleton] at hz
  subst hz
  exact mod_u64 h
theorem pOut_u64 (xs ys : List Int) (q : Int) : ∀ k, U64s (pOut xs ys q k)
  | 0 => by
    intro z hz
    rw [pOut, List.mem_replicate] at hz
    obtain ⟨_, rfl⟩ := hz
    exact ⟨by omega, by omega⟩
  | k + 1 => pSum_u64 _ _ _
theorem pAll_step {xs : List Int} {k : Nat} {x : Int} (h : xs[k]? = some x) (q : Int) : pAll (xs.take (k + 1)) q = pTimes (pAll (xs.take k) q) [mSub 0 x q, 1] q := by
  rw [take_snocP h, pAll_snoc]
theorem pOut_step {xs ys : List Int} {k : Nat} {x y : Int} (h : xs[k]? = some x) (h' : ys[k]? = some y) (q : Int) : pOut xs ys q (k + 1) = pSum (pOut xs ys q k) (pScale (withoutL (pAll xs q) x q) (mMul (iVal (mProd (but xs k) x q) q) y q) q) q := by
  rw [pOut, List.getD_eq_getElem?_getD, List.getD_eq_getElem?_getD, h, h']; rfl
theorem u64_pair (a q : Int) : U64s [mSub 0 a q, 1] := by
  intro z hz
  simp only [List.mem_cons, List.not_mem_nil, or_false] at hz
  rcases hz with rfl | rfl
  · exact mSub_u64 _ _ _
  · exact ⟨by decide, by decide⟩
set_option maxRecDepth 100000 in
set_option maxHeartbeats 2000000 in
theorem pthrough_c (A B : Option Addr) (l m : List Int) (c d : Nat) (q : Int) (w : World) (hA : Cells w A (l.map (.int .u64))) (hB : Cells w B (m.map (.int .u64))) (hl : l.length ≤ 100000) (_hl' : m.length ≤ 100000) (hu : U64s l) (hu' : U64s m) (hq : U64 q) :
    Calls Tryd.prog 52 #[.slice A l.length c, .slice B m.length d, .int .u64 q] w (NewTwo (tVal l m q) (tErr l m q) w) := by
  by_cases hlm : l.length = m.length
  · have hln : ((l.length : Int) != (m.length : Int)) = false := by simp [hlm]
    have hln2 : (l.length != m.length) = false := by simp [hlm]
    by_cases he0 : eUnlike l q = 0
    · have hk := unlike_okm he0
      have h0 := okm_pos hk
      have h1 := okm_le hk
      have HE0 := hid he0
      have HLM := hid hlm
      have hnb : ((0 : Int) != 0) = false := by decide
      clear he0 hlm
      go_enter Tryd.func52, Tryd.ntmps52
      go_wp2_with (first | (go_at_call 112; refine (pmay_c _ hq _).mono ?_; rintro e w' ⟨rfl, rfl⟩; rw [hk]) | (go_at_call 113; refine (unlike_c A l c q _ hA (by omega) hu hq).mono ?_; rintro e w2 ⟨rfl, hb2⟩; rw [HE0.out]))
      have hs2 := hb2.size
      have hr1 := row1_new w2 [.int .u64 (1 % q)] 24
      have hb3 := below_next hb2 hb2.size (below_alloc w2 (.cells #[.int .u64 (1 % q)] 24))
      simp only [List.toArray] at hr1
      generalize w2.alloc (.cells #[.int .u64 (1 % q)] 24) = w3 at *
      go_loopw [9, 11, 39] (fun v _ i wr => ∃ k : Nat, i = .int .i64 k ∧ k ≤ l.length ∧ (∃ C cc, v = .slice C (pAll (l.take k) q).length cc ∧ Cells wr C ((pAll (l.take k) q).map (.int .u64))) ∧ Below w.heap.size w wr) (fun _ _ i _ => l.length - (intOf i).toNat)
      case atStart => exact ⟨0, rfl, by omega, ⟨_, _, by first | rfl | simp [pAll], by simpa [pAll] using hr1.cells⟩, hb3⟩
      case round =>
        obtain ⟨k, rfl, hk1, ⟨C, cc, rfl, hC⟩, hb⟩ := hrel
        have hpl : (pAll (l.take k) q).length = k + 1 := by rw [(pAll_is hk _).1, List.length_take]; omega
        have hpu := pAll_u64 hk (l.take k)
        by_cases hlt : k < l.length
        · obtain ⟨x, hx⟩ := get_of_lt hlt
          obtain ⟨o2, off2, rfl, hcx⟩ := (hA.keep fun p hp => hb.cell hp).at_map hx
          have hux := hu.at_ hx
          have hst := pAll_step hx q
          generalize pAll (l.take k) q = P at *
          have HS := hid (⟨hst, hpl⟩ : _ ∧ _)
          clear hst hpl hx hr1
          go_wp2_with (go_at_call 115; refine (sub_c 0 _ _ ⟨by decide, by decide⟩ hux hq _).mono ?_; rintro e w4 ⟨rfl, hw4⟩)
          have hC4 := (hC.keep fun p hp => (below_of_dr hw4 (B := wr.heap.size)).cell hp)
          have hb4 := below_dr hb hw4
          have hr5 := row1_new w4 [.int .u64 (mSub 0 x q), .int .u64 1] 24
          have hC5 := hC4.keep fun p hp => (below_alloc w4 (.cells #[.int .u64 (mSub 0 x q), .int .u64 1] 24)).cell hp
          have hb5 := below_next hb4 hb4.size (below_alloc w4 (.cells #[.int .u64 (mSub 0 x q), .int .u64 1] 24))
          refine (ptimes_c C _ P [mSub 0 x q, 1] cc 2 q _ hC5 hr5.cells (by rw [HS.out.2]; omega) (by simp) hpu (u64_pair x q) hq).mono ?_
          rintro e w6 ⟨v, rfl, hown6, hb6⟩
          obtain ⟨C6, c6, rfl, hC6⟩ := hown6.form
          rw [List.length_map, ← HS.out.1]
          rw [← HS.out.1] at hC6
          have hb7 := below_next hb5 hb5.size hb6
          clear hown6 hr5 hC5 hC4
          go_wp2
          go_roundw
          case rel => exact ⟨k + 1, by go_num, by omega, ⟨_, _, rfl, hC6⟩, hb7⟩
          case measure => simp [intOf]; omega
        · obtain rfl : k = l.length := by omega
          rw [List.take_length] at hC hpl hpu ⊢
          generalize wr = wm at *
          have hsm := hb.size
          obtain ⟨P, hP⟩ : ∃ P, pAll l q = P := ⟨_, rfl⟩
          have hst0 := fun (k : Nat) (x y : Int) (h : l[k]? = some x) (h' : m[k]? = some y) => pOut_step h h' q
          rw [hP] at hC hpl hpu hst0 ⊢
          have HP := hid (⟨hpl, hst0⟩ : _ ∧ _)
          clear hP hpl hst0 hr1
          go_wp2_with (at_make; refine wpList_make_row elt_u64 _ rfl _ _ rfl .i64 .i64 _ _ l.length rfl rfl rfl rfl (by omega) (by omega) ?_; intro w4 hr4 hs4 hb4)
          go_loopw [12, 13, 14, 15, 16, 17, 56] (fun o _ _ _ _ _ i wr => ∃ k : Nat, i = .int .i64 k ∧ k ≤ l.length ∧ Own wr wm.heap.size 24 o ((pOut l m q k).map (.int .u64)) ∧ Below wm.heap.size wm wr ∧ Hid (∀ j x, j < k → l[j]? = some x → Un (pd (but l j) x) q)) (fun _ _ _ _ _ _ i _ => l.length - (intOf i).toNat)
          case atStart =>
            refine ⟨0, rfl, by omega, ?_, hb4, fun j x h => by omega⟩
            have h9 := hr4.own (Nat.le_refl _) (by rw [List.length_replicate]; omega)
            rw [List.length_replicate] at h9
            rw [pOut, List.map_replicate]
            exact h9
          case round =>
            obtain ⟨k, rfl, hk1, hown, hbm, hall⟩ := hrel
            have hb5 := below_next hb hsm hbm
            clear hr4 hb4 hs4
            by_cases hlt : k < l.length
            · obtain ⟨x, hx⟩ := get_of_lt hlt
              have hkm : k < m.length := by have := HLM.out; omega
              obtain ⟨y, hy⟩ := get_of_lt hkm
              have hux := hu.at_ hx
              have huy := hu'.at_ hy
              have hA5 := hA.keep fun p hp => hb5.cell hp
              have hC5 := hC.keep fun p hp => hbm.cell hp
              obtain ⟨o2, off2, rfl, hcx⟩ := hA5.at_map hx
              obtain ⟨o3, off3, rfl, hcy⟩ := (hB.keep fun p hp => hb5.cell hp).at_map hy
              have hsh := share_c _ l c k x 0 q wr hA5 (by omega) hx hu ⟨by decide, by decide⟩ hq hk
              have hol := pOut_len hk l m k
              have hou := pOut_u64 l m q k
              by_cases hun : Un (pd (but l k) x) q
              · have hie : iErr (mProd (but l k) x q) q = 0 := (iErr_zero hk).2 (hun.congr (by rw [mProd_emod hk, Int.emod_emod]))
                have hall2 : ∀ j x, j < k + 1 → l[j]? = some x → Un (pd (but l j) x) q := fun j y' hj hy' => by
                  rcases Nat.lt_or_ge j k with h | h
                  · exact hall.out j y' h hy'
                  · obtain rfl : j = k := by omega
                    rw [hx] at hy'
                    obtain rfl := Option.some.inj hy'
                    exact hun
                have hst := HP.out.2 k x y hx hy
                have hv := iVal_u64 (mProd (but l k) x q) q
                rw [hie] at hsh
                obtain ⟨pu, hpu2⟩ : ∃ p, iVal (mProd (but l k) x q) q = p := ⟨_, rfl⟩
                rw [hpu2] at hsh hv hst
                have hwl : (withoutL P x q).length = l.length := by simp [withoutL, HP.out.1]
                have hwu := withoutL_u64 P x q
                have hsl : (pScale (withoutL P x q) (mMul pu y q) q).length = l.length := by rw [scale_len hk, hwl]
                have hsu := pScale_u64 (withoutL P x q) (mMul pu y q) q
                obtain ⟨M, hM⟩ : ∃ M, pScale (withoutL P x q) (mMul pu y q) q = M := ⟨_, rfl⟩
                obtain ⟨O, hO⟩ : ∃ O, pOut l m q k = O := ⟨_, rfl⟩
                rw [hM] at hsl hsu hst
                rw [hO] at hown hol hou hst
                obtain ⟨A6, c6, rfl, hA6⟩ := hown.form
                rw [List.length_map]
                have HS := hid (⟨hall2, hsh, hst, hM, hwl, hsl, hol⟩ : _ ∧ _ ∧ _ ∧ _ ∧ _ ∧ _ ∧ _)
                clear hall2 hall hsh hst hM hwl hsl hol hx hy hun hie hpu2 hO hown
                go_wp2_with (fail)
                refine HS.out.2.1.mono ?_
                rintro e w7 ⟨rfl, hb7⟩
                have hA7 := hA6.keep fun p hp => hb7.cell hp
                have hC7 := hC5.keep fun p hp => hb7.cell hp
                have hcy7 := (hb7.cell (lt_of_cell hcy)).trans hcy
                have hbm7 := below_next hbm hbm.size hb7
                clear hA6 hC5 hcy hcx hA5
                go_upto_region 19 with (fail)
                refine Rgb.wp_region (l := [_, _, _, _, _, _, _, _, _, _, _, _, _, _, _, _]) (tail := [_]) (Rgb.grows _ 17) [some 72, some 73, some 74, some 75, some 76, some 77, some 78, some 79, some 80, some 81, some 82, some 83, some 84, some 85, some 86, some 87, some 12] 90 (by kernel_rfl) (by kernel_rfl) (by kernel_rfl) rfl (Rgb.grows_fair _ _) (Rgb.keep_drew _) (trivial) ?_
                refine' Rgb.op_is _ [] rfl rfl (by kernel_rfl) ?_ ?_
                rotate_left
                · intro wx hb
                  refine Rgb.from_nil fun T hT => ?_
                  go_wp2
                  refine hT _ _ rfl (by first | exact Rgb.Keep.refl _ | exact below_of_dr hw2 | exact hw2 | exact (Below.refl _ _).alloc (Nat.le_refl _) _) ?_
                  simp only [Rgb.last, List.getElem?_toArray, List.getElem?_cons_succ, List.getElem?_cons_zero, Option.getD_some]
                  rfl
                refine' Rgb.op_is _ [] rfl rfl (by kernel_rfl) ?_ ?_
                rotate_left
                · intro wx hb
                  refine Rgb.from_nil fun T hT => ?_
                  go_wp2
                  refine hT _ _ rfl (by first | exact Rgb.Keep.refl _ | exact below_of_dr hw2 | exact hw2 | exact (Below.refl _ _).alloc (Nat.le_refl _) _) ?_
                  simp only [Rgb.last, List.getElem?_toArray, List.getElem?_cons_succ, List.getElem?_cons_zero, Option.getD_some]
                  rfl
                refine' Rgb.op_is _ [] rfl rfl (by kernel_rfl) ?_ ?_
                rotate_left
                · intro wx hb
                  refine Rgb.from_nil fun T hT => ?_
                  go_wp2
                  refine hT _ _ rfl (by first | exact Rgb.Keep.refl _ | exact below_of_dr hw2 | exact hw2 | exact (Below.refl _ _).alloc (Nat.le_refl _) _) ?_
                  simp only [Rgb.last, List.getElem?_toArray, List.getElem?_cons_succ, List.getElem?_cons_zero, Option.getD_some]
                  rfl
                refine' Rgb.op_is _ [] rfl rfl (by kernel_rfl) ?_ ?_
                rotate_left
                · intro wx hb
                  refine Rgb.from_nil fun T hT => ?_
                  go_wp2
                  refine hT _ _ rfl (by first | exact Rgb.Keep.refl _ | exact below_of_dr hw2 | exact hw2 | exact (Below.refl _ _).alloc (Nat.le_refl _) _) ?_
                  simp only [Rgb.last, List.getElem?_toArray, List.getElem?_cons_succ, List.getElem?_cons_zero, Option.getD_some]
                  rfl
                refine Rgb.op_of (fun w' v => Own w' w7.heap.size 24 v ((withoutL P x q).map (.int .u64))) [1, 2, 3] rfl ?_ ?_ rfl (by kernel_rfl) ?_ ?_
                · exact fun w1 w2 v hk h => h.below hk
                · exact fun w1 w2 v hk h => h.below hk
                · intro wx hb
                  refine Rgb.from_is (some 73) rfl rfl ?_
                  refine Rgb.from_is (some 74) rfl rfl ?_
                  refine Rgb.from_is (some 75) rfl rfl ?_
                  refine Rgb.from_nil fun T hT => ?_
                  go_wp2_with (fail)
                  refine (without_c C P cc x q _ (hC7.keep fun p hp => hb.cell hp) (by rw [HP.out.1]; omega) (by rw [HP.out.1]; omega) hpu hux hq).mono ?_
                  rintro e w8 ⟨v, rfl, hown8, hb8⟩
                  go_wp2
                  exact hT _ _ rfl hb8 (hown8.from_ hb.size)
                refine' Rgb.op_is _ [] rfl rfl (by kernel_rfl) ?_ ?_
                rotate_left
                · intro wx hb
                  refine Rgb.from_nil fun T hT => ?_
                  go_wp2
                  refine hT _ _ rfl (by first | exact Rgb.Keep.refl _ | exact below_of_dr hw2 | exact hw2 | exact (Below.refl _ _).alloc (Nat.le_refl _) _) ?_
                  simp only [Rgb.last, List.getElem?_toArray, List.getElem?_cons_succ, List.getElem?_cons_zero, Option.getD_some]
                  rfl
                refine' Rgb.op_is _ [] rfl rfl (by kernel_rfl) ?_ ?_
                rotate_left
                · intro wx hb
                  refine Rgb.from_nil fun T hT => ?_
                  go_wp2
                  refine hT _ _ rfl (by first | exact Rgb.Keep.refl _ | exact below_of_dr hw2 | exact hw2 | exact (Below.refl _ _).alloc (Nat.le_refl _) _) ?_
                  simp only [Rgb.last, List.getElem?_toArray, List.getElem?_cons_succ, List.getElem?_cons_zero, Option.getD_some]
                  rfl
                refine' Rgb.op_is _ [] rfl rfl (by kernel_rfl) ?_ ?_
                rotate_left
                · intro wx hb
                  refine Rgb.from_nil fun T hT => ?_
                  go_wp2
                  refine hT _ _ rfl (by first | exact Rgb.Keep.refl _ | exact below_of_dr hw2 | exact hw2 | exact (Below.refl _ _).alloc (Nat.le_refl _) _) ?_
                  simp only [Rgb.last, List.getElem?_toArray, List.getElem?_cons_succ, List.getElem?_cons_zero, Option.getD_some]
                  rfl
                refine Rgb.op_is (.pointer (some ⟨o3, off3 + k, none⟩)) [6, 7] rfl rfl (by kernel_rfl) ?_ ?_
                · intro wx hb
                  refine Rgb.from_is (some 78) rfl rfl ?_
                  refine Rgb.from_is (some 79) rfl rfl ?_
                  refine Rgb.from_nil fun T hT => ?_
                  go_wp2
                  exact hT _ _ rfl (by first | exact Rgb.Keep.refl _ | exact below_of_dr hw2 | exact hw2 | exact (Below.refl _ _).alloc (Nat.le_refl _) _) (by first | rfl | exact congrArg _ (by decide))
                refine Rgb.op_is (.int .u64 y) [8] rfl rfl (by kernel_rfl) ?_ ?_
                · intro wx hb
                  refine Rgb.from_is (some 80) rfl rfl ?_
                  refine Rgb.from_nil fun T hT => ?_
                  have g1 := (hb.cell (lt_of_cell hcy7)).trans hcy7
                  go_wp2
                  exact hT _ _ rfl (by first | exact Rgb.Keep.refl _ | exact below_of_dr hw2 | exact hw2 | exact (Below.refl _ _).alloc (Nat.le_refl _) _) (by first | rfl | exact congrArg _ (by decide))
                refine' Rgb.op_is _ [] rfl rfl (by kernel_rfl) ?_ ?_
                rotate_left
                · intro wx hb
                  refine Rgb.from_nil fun T hT => ?_
                  go_wp2
                  refine hT _ _ rfl (by first | exact Rgb.Keep.refl _ | exact below_of_dr hw2 | exact hw2 | exact (Below.refl _ _).alloc (Nat.le_refl _) _) ?_
                  simp only [Rgb.last, List.getElem?_toArray, List.getElem?_cons_succ, List.getElem?_cons_zero, Option.getD_some]
                  rfl
                refine Rgb.op_is (.int .u64 (mMul pu y q)) [5, 9, 10] rfl rfl (by kernel_rfl) ?_ ?_
                · intro wx hb
                  refine Rgb.from_is (some 77) rfl rfl ?_
                  refine Rgb.from_is (some 81) rfl rfl ?_
                  refine Rgb.from_is (some 82) rfl rfl ?_
                  refine Rgb.from_nil fun T hT => ?_
                  go_wp2_with (go_at_call 29; refine (mul_c _ _ _ hv huy hq _).mono ?_; rintro e w8 ⟨rfl, hw8⟩)
                  exact hT _ _ rfl (below_of_dr hw8) rfl
                refine' Rgb.op_is _ [] rfl rfl (by kernel_rfl) ?_ ?_
                rotate_left
                · intro wx hb
                  refine Rgb.from_nil fun T hT => ?_
                  go_wp2
                  refine hT _ _ rfl (by first | exact Rgb.Keep.refl _ | exact below_of_dr hw2 | exact hw2 | exact (Below.refl _ _).alloc (Nat.le_refl _) _) ?_
                  simp only [Rgb.last, List.getElem?_toArray, List.getElem?_cons_succ, List.getElem?_cons_zero, Option.getD_some]
                  rfl
                refine Rgb.op_of (fun w' v => Own w' w7.heap.size 24 v (M.map (.int .u64))) [4, 11, 12] rfl ?_ ?_ rfl (by kernel_rfl) ?_ ?_
                · exact fun w1 w2 v hk h => h.below hk
                · exact fun w1 w2 v hk h => h.below hk
                · intro wx hb
                  refine Rgb.from_of (some 76) rfl rfl fun v76 h76 => ?_
                  refine Rgb.from_is (some 83) rfl rfl ?_
                  refine Rgb.from_is (some 84) rfl rfl ?_
                  refine Rgb.from_nil fun T hT => ?_
                  obtain ⟨A9, c9, rfl, g9⟩ := h76.form
                  rw [List.length_map]
                  go_wp2_with (fail)
                  refine (pscale_c A9 (withoutL P x q) c9 (mMul pu y q) q _ g9 (by rw [HS.out.2.2.2.2.1]; omega) hwu (mMul_u64 _ _ _) hq).mono ?_
                  rintro e w8 ⟨v, rfl, hown8, hb8⟩
                  rw [HS.out.2.2.2.1] at hown8
                  go_wp2
                  exact hT _ _ rfl hb8 (hown8.from_ hb.size)
                refine' Rgb.op_is _ [] rfl rfl (by kernel_rfl) ?_ ?_
                rotate_left
                · intro wx hb
                  refine Rgb.from_nil fun T hT => ?_
                  go_wp2
                  refine hT _ _ rfl (by first | exact Rgb.Keep.refl _ | exact below_of_dr hw2 | exact hw2 | exact (Below.refl _ _).alloc (Nat.le_refl _) _) ?_
                  simp only [Rgb.last, List.getElem?_toArray, List.getElem?_cons_succ, List.getElem?_cons_zero, Option.getD_some]
                  rfl
                refine Rgb.op_of (fun w' v => Own w' w7.heap.size 24 v ((pOut l m q (k + 1)).map (.int .u64))) [0, 13, 14] rfl ?_ ?_ rfl (by kernel_rfl) ?_ ?_
                · exact fun w1 w2 v hk h => h.below hk
                · exact fun w1 w2 v hk h => h.below hk
                · intro wx hb
                  refine Rgb.from_is (some 72) rfl rfl ?_
                  refine Rgb.from_of (some 85) rfl rfl fun v85 h85 => ?_
                  refine Rgb.from_is (some 86) rfl rfl ?_
                  refine Rgb.from_nil fun T hT => ?_
                  obtain ⟨A9, c9, rfl, g9⟩ := h85.form
                  rw [List.length_map]
                  go_wp2_with (fail)
                  refine (psum_c A6 A9 O M c6 c9 q _ (hA7.keep fun p hp => hb.cell hp) g9 (by rw [HS.out.2.2.2.2.2.2]; omega) (by rw [HS.out.2.2.2.2.2.1]; omega) hou hsu hq).mono ?_
                  rintro e w8 ⟨v, rfl, hown8, hb8⟩
                  rw [← HS.out.2.2.1] at hown8
                  go_wp2
                  exact hT _ _ rfl hb8 (hown8.from_ hb.size)
                refine Rgb.walk_nil [0, 1, 2, 3, 4, 5, 6, 7, 8, 9, 10, 11, 12, 13, 14, 15] (by kernel_rfl) ?_
                intro wx hb
                refine Rgb.from_is (some 72) rfl rfl ?_
                refine Rgb.from_is (some 73) rfl rfl ?_
                refine Rgb.from_is (some 74) rfl rfl ?_
                refine Rgb.from_is (some 75) rfl rfl ?_
                refine Rgb.from_of (some 76) rfl rfl fun v76 h76 => ?_
                refine Rgb.from_is (some 77) rfl rfl ?_
                refine Rgb.from_is (some 78) rfl rfl ?_
                refine Rgb.from_is (some 79) rfl rfl ?_
                refine Rgb.from_is (some 80) rfl rfl ?_
                refine Rgb.from_is (some 81) rfl rfl ?_
                refine Rgb.from_is (some 82) rfl rfl ?_
                refine Rgb.from_is (some 83) rfl rfl ?_
                refine Rgb.from_is (some 84) rfl rfl ?_
                refine Rgb.from_of (some 85) rfl rfl fun v85 h85 => ?_
                refine Rgb.from_is (some 86) rfl rfl ?_
                refine Rgb.from_of (some 87) rfl rfl fun v87 h87 => ?_
                refine Rgb.from_nil ?_
                simp only [List.map, Act.put, List.setIfInBounds_toArray, List.set_cons_zero, List.set_cons_succ]
                have hbm8 := below_next hbm7 hbm7.size hb
                have hs7 := hbm7.size
                clear hA7 hC7 hcy7
                go_wp2
                go_roundw
                case rel => exact ⟨k + 1, by go_num, by omega, h87.from_ hs7, hbm8, HS.out.1⟩
                case measure => simp [intOf]; omega
              · have hie : iErr (mProd (but l k) x q) q = 5 := iErr_five hk fun h => hun (h.congr (by rw [mProd_emod hk, Int.emod_emod]))
                have hea : tErr l m q = 5 := by unfold tErr; rw [if_pos HLM.out]; exact eAll_no HE0.out fun ha => hun (apart_iff.1 ha k x hx)
                have hw0 : tVal l m q = [] := tVal_bad (by rw [hea]; decide)
                rw [hie] at hsh
                have HS := hid (⟨hsh, hea, hw0⟩ : _ ∧ _ ∧ _)
                clear hsh hea hw0 hx hy hie hun hall hcy hol hou
                go_wp2_with (fail)
                refine HS.out.1.mono ?_
                rintro e w7 ⟨rfl, hb7⟩
                go_wp2
                go_ret2
                rw [HS.out.2.1, HS.out.2.2]
                exact ⟨_, rfl, Own.nil _ _ _, below_next hb5 hb5.size hb7⟩
            · obtain rfl : k = l.length := by omega
              have ha : Apart l q := apart_iff.2 fun j x hx => hall.out j x (List.getElem?_eq_some_iff.1 hx).1 hx
              have hte : tErr l m q = 0 := by unfold tErr; rw [if_pos HLM.out]; exact eAll_yes HE0.out ha
              have HE := hid (⟨hte, tVal_ok hte⟩ : _ ∧ _)
              clear ha hte hall
              go_wp2
              go_ret2
              rw [HE.out.1, HE.out.2]
              exact ⟨_, rfl, hown.from_ hsm, hb5⟩
    · have hbn : (eUnlike l q != 0) = true := bne_iff_ne.2 he0
      have hea : tErr l m q = eUnlike l q := by unfold tErr; rw [if_pos hlm]; exact eAll_bad he0
      have hw0 : tVal l m q = [] := tVal_bad (by rw [hea]; exact he0)
      cases hk : okm q with
      | true =>
        have HE := hid (⟨hea, hw0⟩ : _ ∧ _)
        clear hea hw0 he0 hlm
        go_enter Tryd.func52, Tryd.ntmps52
        go_wp2_with (first | (go_at_call 112; refine (pmay_c _ hq _).mono ?_; rintro e w' ⟨rfl, rfl⟩; rw [hk]) | (go_at_call 113; refine (unlike_c A l c q _ hA (by omega) hu hq).mono ?_; rintro e w2 ⟨rfl, hb2⟩))
        go_ret2
        rw [HE.out.1, HE.out.2]
        exact ⟨_, rfl, Own.nil _ _ _, hb2⟩
      | false =>
        have hu1 : eUnlike l q = 1 := by unfold eUnlike; rw [if_neg (by rw [hk]; decide)]
        rw [hu1] at hea
        have HE := hid (⟨hea, hw0⟩ : _ ∧ _)
        clear hea hw0 he0 hlm hu1 hbn
        go_enter Tryd.func52, Tryd.ntmps52
        go_wp2_with (go_at_call 112; refine (pmay_c _ hq _).mono ?_; rintro e w' ⟨rfl, rfl⟩; rw [hk])
        go_ret2
        rw [HE.out.1, HE.out.2]
        exact ⟨_, rfl, Own.nil _ _ _, Below.refl _ _⟩
  · have hln : ((l.length : Int) != (m.length : Int)) = true := by simp; omega
    have hln2 : (l.length != m.length) = true := by simp; omega
    have hea : tErr l m q = 1 := by unfold tErr; rw [if_neg hlm]
    have hw0 : tVal l m q = [] := tVal_bad (by rw [hea]; decide)
    have HE := hid (⟨hea, hw0⟩ : _ ∧ _)
    clear hea hw0 hlm
    cases hk : okm q with
    | true =>
      go_enter Tryd.func52, Tryd.ntmps52
      go_wp2_with (go_at_call 112; refine (pmay_c _ hq _).mono ?_; rintro e w' ⟨rfl, rfl⟩; rw [hk])
      go_ret2
      rw [HE.out.1, HE.out.2]
      exact ⟨_, rfl, Own.nil _ _ _, Below.refl _ _⟩
    | false =>
      go_enter Tryd.func52, Tryd.ntmps52
      go_wp2_with (go_at_call 112; refine (pmay_c _ hq _).mono ?_; rintro e w' ⟨rfl, rfl⟩; rw [hk])
      go_ret2
      rw [HE.out.1, HE.out.2]
      exact ⟨_, rfl, Own.nil _ _ _, Below.refl _ _⟩
end Go.Proofs.YtcojnjhffmhbiaaDoor
end

section
namespace Go.Proofs.YtcojnjhffmhbiaaDoor
open Go Go.RowKit Go.Maps Go.Shelf Go.Proofs
theorem elt_rows : Elt Tryd.prog 22 23 (.slice none 0 0) 24 := Elt.of Tryd.underlying22 (by kernel_rfl) rfl
/-- rows of the call's own, each in a block of its own. -/
structure RowsAt (w : World) (base : Nat) (v : Value) (n : Nat) (L : List (List Int)) (bs : List Nat) : Prop where
  own : Own w base 23 v (bs.map fun b => Value.slice (some ⟨b, 0, none⟩) n n)
  len : bs.length = L.length
  row : ∀ (i : Nat) (b : Nat) (l : List Int), bs[i]? = some b → L[i]? = some l → l.length = n ∧ Row1 w b 24 (u64v l)
  lo : ∀ b ∈ bs, base ≤ b
theorem own_ne_row {w : World} {base b : Nat} {e e' : TypeId} {v : Value} {xs ys : List Value} (h : Own w base e v xs) (k : Row1 w b e' ys) (hne : e ≠ e') : some b ≠ v.ownBlock := by
  rcases h.2 with ⟨rfl, _⟩ | ⟨g, cap, cur, rfl, _, hg, _⟩
  · intro e1; cases e1
  · intro e1
    simp only [Value.ownBlock, Option.some.injEq] at e1
    subst e1
    unfold Row1 at k
    rw [hg] at k
    simp only [Option.some.injEq, Obj.cells.injEq] at k
    exact hne k.2.1
theorem RowsAt.below {w w' : World} {base n : Nat} {v : Value} {L : List (List Int)} {bs : List Nat} (h : RowsAt w base v n L bs) (hb : Below w.heap.size w w') : RowsAt w' base v n L bs :=
  ⟨h.own.below hb, h.len, fun i b l h1 h2 => ⟨(h.row i b l h1 h2).1, (h.row i b l h1 h2).2.below hb⟩, h.lo⟩
theorem RowsAt.grid {w : World} {base n : Nat} {v : Value} {L : List (List Int)} {bs : List Nat} (h : RowsAt w base v n L bs) (hn : n ≤ 9223372036854775807) : ∃ A c, v = .slice A L.length c ∧ Grid w A L := by
  obtain ⟨A, cap, rfl, hc⟩ := h.own.form
  refine ⟨A, cap, by rw [List.length_map, h.len], _, hc, by rw [List.length_map, h.len], fun i l hl => ?_⟩
  have hi : i < bs.length := by rw [h.len]; exact (List.getElem?_eq_some_iff.1 hl).1
  obtain ⟨h1, h2⟩ := h.row i _ l (List.getElem?_eq_getElem hi) hl
  refine ⟨.slice (some ⟨bs[i], 0, none⟩) n n, by rw [List.getElem?_map, List.getElem?_eq_getElem hi]; rfl, some ⟨bs[i], 0, none⟩, n, by rw [h1], h2.cells, by omega⟩
theorem RowsAt.push {w w' : World} {base n b : Nat} {v v' : Value} {L : List (List Int)} {bs : List Nat} {l : List Int} (h : RowsAt w base v n L bs) (hk : ∀ k, k < w.heap.size → some k ≠ v.ownBlock → w'.heap[k]? = w.heap[k]?) (ho : Own w' base 23 v' ((bs.map fun b => Value.slice (some ⟨b, 0, none⟩) n n) ++ [.slice (some ⟨b, 0, none⟩) n n])) (hl : l.length = n) (hr : Row1 w b 24 (u64v l)) (hb : base ≤ b) : RowsAt w' base v' n (L ++ [l]) (bs ++ [b]) := by
  have keep : ∀ (b : Nat) (ys : List Value), Row1 w b 24 ys → Row1 w' b 24 ys := fun b ys k => k.keep (hk b k.lt (own_ne_row h.own k (by decide)))
  refine ⟨by rw [List.map_append]; exact ho, by rw [List.length_append, List.length_append, h.len]; rfl, fun i b' l' h1 h2 => ?_, fun b' hb' => ?_⟩
  · by_cases hi : i < bs.length
    · rw [List.getElem?_append_left hi] at h1
      rw [List.getElem?_append_left (by rw [← h.len]; exact hi)] at h2
      obtain ⟨a1, a2⟩ := h.row i b' l' h1 h2
      exact ⟨a1, keep _ _ a2⟩
    · rw [List.getElem?_append_right (by omega)] at h1
      rw [List.getElem?_append_right (by rw [← h.len]; omega), ← h.len] at h2
      have hi2 : i - bs.length = 0 := by
        have := (List.getElem?_eq_some_iff.1 h1).1
        simp at this
        omega
      rw [hi2] at h1 h2
      obtain rfl := Option.some.inj h1
      obtain rfl := Option.some.inj h2
      exact ⟨hl, keep _ _ hr⟩
  · rcases List.mem_append.1 hb' with h1 | h1
    · exact h.lo b' h1
    · obtain rfl := List.mem_singleton.1 h1
      exact hb
end Go.Proofs.YtcojnjhffmhbiaaDoor
end

section
namespace Go.Proofs.YtcojnjhffmhbiaaDoor
open Go.RowKit
/-- blocks that are known whole (F: for long; L: the newest ahead), and that nothing but new blocks has come since w0. -/
structure Bun (w0 w : World) (F L : List (Nat × TypeId × List Value)) : Prop where
  b : Below w0.heap.size w0 w
  old : ∀ x ∈ F, Row1 w x.1 x.2.1 x.2.2
  rows : ∀ x ∈ L, Row1 w x.1 x.2.1 x.2.2
section
variable {w0 w w' : World} {F L L' : List (Nat × TypeId × List Value)}
theorem Bun.nil (w : World) : Bun w w [] [] := ⟨Below.refl _ _, (fun x h => by cases h), (fun x h => by cases h)⟩
theorem Bun.of (h : Below w0.heap.size w0 w) : Bun w0 w [] [] := ⟨h, (fun x h => by cases h), (fun x h => by cases h)⟩
theorem Bun.more (h : Bun w0 w F L) (hb : Below w.heap.size w w') : Bun w0 w' F L := ⟨below_next h.b h.b.size hb, fun x hx => (h.old x hx).below hb, fun x hx => (h.rows x hx).below hb⟩
theorem Bun.row (h : Bun w0 w F L) {i g : Nat} {e : TypeId} {xs : List Value} (hi : L[i]? = some (g, e, xs)) : Row1 w g e xs := h.rows _ (List.mem_of_getElem? hi)
theorem Bun.fix (h : Bun w0 w F L) {i g : Nat} {e : TypeId} {xs : List Value} (hi : F[i]? = some (g, e, xs)) : Row1 w g e xs := h.old _ (List.mem_of_getElem? hi)
theorem Bun.drop (h : Bun w0 w F L) : Bun w0 w F [] := ⟨h.b, h.old, fun x hx => by cases hx⟩
theorem Bun.keep (h : Bun w0 w F L) : Bun w0 w (L ++ F) [] := ⟨h.b, fun x hx => (List.mem_append.1 hx).elim (h.rows x) (h.old x), fun x hx => by cases hx⟩
theorem Bun.alloc (h : Bun w0 w F L) (xs : List Value) (e : TypeId) : Bun w0 (w.alloc (.cells xs.toArray e)) F ((w.heap.size, e, xs) :: L) :=
  ⟨below_next h.b h.b.size (below_alloc w _), fun x hx => (h.old x hx).alloc _, fun x hx => by
    rcases List.mem_cons.1 hx with rfl | hx
    · exact row1_new w xs e
    · exact (h.rows x hx).alloc _⟩
end
def isStore : Op → Bool
  | .store .. => true
  | _ => false
/-- the block that was laid last gets a name (behind its store). -/
theorem wpList_named {P : Program} {w0 w : World} {F L : List (Nat × TypeId × List Value)} (hB : Bun w0 w F L) {ops : Array Oper} {o : Oper} {rest : List Oper} {a : Act} {Q : Exit → Act → World → Prop} {xs : List Value} {e : TypeId} (_ : isStore o.op = false)
    (h : ∀ w' g, Bun w0 w' F ((g, e, xs) :: L) → Below w.heap.size w w' → w.heap.size = g → wpList P ops Q (o :: rest) a w') : wpList P ops Q (o :: rest) a (w.alloc (.cells xs.toArray e)) :=
  h _ _ (hB.alloc xs e) (below_alloc w _) rfl
end Go.Proofs.YtcojnjhffmhbiaaDoor
end

section
namespace Go.Proofs.YtcojnjhffmhbiaaDoor
open Go Go.RowKit Go.Maps Go.Shelf Go.Proofs
def SameUpto {α : Type} (la lb : List α) (k : Nat) : Prop := ∀ i, i < k → la[i]? = lb[i]?
theorem SameUpto.step {α : Type} {la lb : List α} {k : Nat} {x : α} (h : SameUpto la lb k) (h1 : la[k]? = some x) (h2 : lb[k]? = some x) : SameUpto la lb (k + 1) := by
  intro i hi
  rcases Nat.lt_or_ge i k with h3 | h3
  · exact h i h3
  · obtain rfl : i = k := by omega
    rw [h1, h2]
theorem SameUpto.all {α : Type} {la lb : List α} (h : SameUpto la lb la.length) (hl : la.length = lb.length) : la = lb := by
  apply List.ext_getElem?
  intro i
  rcases Nat.lt_or_ge i la.length with h1 | h1
  · exact h i h1
  · rw [List.getElem?_eq_none h1, List.getElem?_eq_none (by omega)]
/-- the inverse, by trying all. -/
def invS (q x : Int) : Int := match (List.range q.toNat).find? (fun (y : Nat) => decide ((y : Int) * x % q = 1)) with
  | some y => (y : Int)
  | none => 0
theorem iVal_invS {q : Int} (h : okm q = true) (h2 : 2 ≤ q) (x : Int) : iVal x q = invS q x := by
  unfold invS
  cases hf : (List.range q.toNat).find? (fun (y : Nat) => decide ((y : Int) * x % q = 1)) with
  | some y =>
    have h1 := List.find?_some hf
    have h3 := List.mem_range.1 (List.mem_of_find?_eq_some hf)
    have h1 : (y : Int) * x % q = 1 := by simpa using h1
    show iVal x q = (y : Int)
    refine iVal_is h ⟨by omega, by omega, (y : Int) * x / q, ?_⟩
    have := Int.mul_ediv_add_emod ((y : Int) * x) q
    omega
  | none =>
    refine iVal_none ?_
    rintro ⟨z, z0, z1, k, hk⟩
    rw [List.find?_eq_none] at hf
    refine hf z.toNat (List.mem_range.2 (by omega)) ?_
    have e : ((z.toNat : Nat) : Int) = z := by omega
    simp only [decide_eq_true_eq]
    rw [e, hk, Int.add_mul_emod_self_left]
    exact Int.emod_eq_of_lt (by omega) (by omega)
theorem iv_invS {q : Int} (h : primeV q = true) : iv q = invS q := funext fun x => iVal_invS (okm_prime h).1 (okm_prime h).2 x
theorem hangsV_at {f : List (List Int)} {row : List Int} {q : Int} (h : primeV q = true) : hangsV f row q = hangsL q (invS q) f row := by
  unfold hangsV
  rw [h, iv_invS h]; rfl
/-- rows, one by one. -/
def RowsV (w : World) : List Value → List (List Int) → Prop
  | [], [] => True
  | v :: vs, l :: f => RowV w v l ∧ RowsV w vs f
  | _, _ => False
theorem RowsV.len {w : World} : ∀ {vs : List Value} {f : List (List Int)}, RowsV w vs f → vs.length = f.length
  | [], [], _ => rfl
  | _ :: _, _ :: _, h => by rw [List.length_cons, List.length_cons, RowsV.len h.2]
theorem RowsV.at_ {w : World} : ∀ {vs : List Value} {f : List (List Int)} (_ : RowsV w vs f) (i : Nat) (l : List Int), f[i]? = some l → ∃ v, vs[i]? = some v ∧ RowV w v l
  | v :: _, l' :: _, h, 0, l, hl => ⟨v, rfl, by obtain rfl : l' = l := by simpa using hl
                                                exact h.1⟩
  | _ :: _, _ :: _, h, i + 1, l, hl => by
    obtain ⟨v, h1, h2⟩ := RowsV.at_ h.2 i l (by simpa using hl)
    exact ⟨v, by simpa using h1, h2⟩
  | [], [], _, i, l, hl => by simp at hl
theorem u64s_of {l : List Int} (h : (l.all fun z => decide (0 ≤ z) && decide (z < 18446744073709551616)) = true) : U64s l := by
  intro z hz
  have := List.all_eq_true.1 h z hz
  simp only [Bool.and_eq_true, decide_eq_true_eq] at this
  exact this
theorem p2 : primeV 2 = true := by decide +kernel
theorem p3 : primeV 3 = true := by decide +kernel
theorem hg1 : hangsV [[1, 2]] [3, 6] 7 = true := by rw [hangsV_at prime_7]; decide +kernel
theorem hg2 : hangsV [] [0, 0] 7 = true := by rw [hangsV_at prime_7]; decide +kernel
theorem hg3 : hangsV [[1, 2]] [1] 7 = false := by rw [hangsV_at prime_7]; decide +kernel
end Go.Proofs.YtcojnjhffmhbiaaDoor
end

section
namespace Go.Proofs.YtcojnjhffmhbiaaDoor
open Go.RowKit
attribute [local go_sem] Oper.semAt_some
/-- are these the inverses of the products? -/
def unitsB (xs : List Int) (q : Int) (ivs : List Int) : Bool := decide (eUnlike xs q = 0) && (List.range xs.length).all fun k => decide (0 ≤ ivs.getD k 0) && decide (ivs.getD k 0 < q) && decide ((ivs.getD k 0 * mProd (but xs k) (xs.getD k 0) q) % q = 1 % q)
theorem units_ok {xs : List Int} {q : Int} {ivs : List Int} (h : unitsB xs q ivs = true) : okm q = true ∧ eUnlike xs q = 0 ∧ eAll xs q = 0 ∧ ∀ k, k < xs.length → iVal (mProd (but xs k) (xs.getD k 0) q) q = ivs.getD k 0 := by
  simp only [unitsB, Bool.and_eq_true, decide_eq_true_eq, List.all_eq_true, List.mem_range] at h
  obtain ⟨h1, h2⟩ := h
  have hk := unlike_okm h1
  have h3 : ∀ k, k < xs.length → InvIs (mProd (but xs k) (xs.getD k 0) q) q (ivs.getD k 0) := fun k hk' => by
    obtain ⟨⟨h3, h4⟩, h5⟩ := h2 k hk'
    refine ⟨h3, h4, (ivs.getD k 0 * mProd (but xs k) (xs.getD k 0) q) / q - 1 / q, ?_⟩
    have e1 := Int.mul_ediv_add_emod (ivs.getD k 0 * mProd (but xs k) (xs.getD k 0) q) q
    have e2 := Int.mul_ediv_add_emod 1 q
    rw [h5] at e1
    rw [Int.mul_sub]
    omega
  refine ⟨hk, h1, eAll_yes h1 (apart_iff.2 fun i x hx => ?_), fun k hk' => iVal_is hk (h3 k hk')⟩
  have hi := (List.getElem?_eq_some_iff.1 hx).1
  have hgx : xs.getD i 0 = x := by rw [List.getD_eq_getElem?_getD, hx]; rfl
  have := un_of_inv (h3 i hi)
  rw [hgx] at this
  exact this.congr (by rw [mProd_emod hk, Int.emod_emod])
def pOutC (xs ys : List Int) (q : Int) (ivs : List Int) : Nat → List Int
  | 0 => List.replicate xs.length 0
  | k + 1 => pSum (pOutC xs ys q ivs k) (pScale (withoutL (pAll xs q) (xs.getD k 0) q) (mMul (ivs.getD k 0) (ys.getD k 0) q) q) q
theorem pOut_eval {xs : List Int} {q : Int} (ivs : List Int) (h : unitsB xs q ivs = true) (ys : List Int) : ∀ k, k ≤ xs.length → pOut xs ys q k = pOutC xs ys q ivs k
  | 0, _ => rfl
  | k + 1, hk => by
    obtain ⟨_, _, _, h2⟩ := units_ok h
    rw [pOut, pOutC, pOut_eval ivs h ys k (by omega), h2 k (by omega)]
theorem tVal_eval {xs ys : List Int} {q : Int} (ivs : List Int) (h : unitsB xs q ivs = true) (hl : xs.length = ys.length) : tErr xs ys q = 0 ∧ tVal xs ys q = pOutC xs ys q ivs xs.length := by
  obtain ⟨_, _, h1, _⟩ := units_ok h
  have he : tErr xs ys q = 0 := by unfold tErr; rw [if_pos hl, h1]
  exact ⟨he, by rw [tVal_ok he, pOut_eval ivs h ys _ (Nat.le_refl _)]⟩
open Go.RowKit
/-- the first k are the same. -/
def SameUptoN (la lb : List Int) (k : Nat) : Prop := ∀ i, i < k → la[i]? = lb[i]?
theorem SameUptoN.step {la lb : List Int} {k : Nat} {x : Int} (h : SameUptoN la lb k) (ha : la[k]? = some x) (hb : lb[k]? = some x) : SameUptoN la lb (k + 1) := by
  intro i hi
  rcases Nat.lt_or_ge i k with h' | h'
  · exact h i h'
  · obtain rfl : i = k := by omega
    rw [ha, hb]
theorem SameUptoN.all {la lb : List Int} (hl : la.length = lb.length) (h : SameUptoN la lb la.length) : la = lb := by
  apply List.ext_getElem?
  intro i
  rcases Nat.lt_or_ge i la.length with h' | h'
  · exact h i h'
  · rw [List.getElem?_eq_none h', List.getElem?_eq_none (by omega)]
open Go.RowKit
attribute [local go_sem] Oper.semAt_some
/-- a row that has just been laid. -/
theorem new_cells (w : World) (l : List Int) (e : TypeId) : Cells (w.alloc (.cells (l.map (Value.int .u64)).toArray e)) (some ⟨w.heap.size, 0, none⟩) (l.map (.int .u64)) := (row1_new w _ e).cells
theorem Cells.more {w w' : World} {A : Option Addr} {xs : List Value} (h : Cells w A xs) (hb : Below w.heap.size w w') : Cells w' A xs := h.keep fun _p hp => hb.cell hp
end Go.Proofs.YtcojnjhffmhbiaaDoor
end

section
namespace Go.Proofs.YtcojnjhffmhbiaaDoor
open Go.RowKit
set_option maxHeartbeats 400000 in
theorem nums06_c (A B : Option Addr) (la lb : List Int) (ca cb : Nat) (w : World) (hA : Cells w A (la.map (.int .u64))) (hB : Cells w B (lb.map (.int .u64))) (hl : la.length ≤ 9223372036854775807) (hl' : lb.length ≤ 9223372036854775807) :
    Calls Tryd.prog 53 #[.slice A la.length ca, .slice B lb.length cb] w fun e w' => e = .returned (.bool (decide (la = lb))) ∧ Dr w w' := by
  by_cases hlen : la.length = lb.length
  · have hb : (((la.length : Nat) : Int) != ((lb.length : Nat) : Int)) = false := by simp [hlen]
    have HL := hid hlen
    clear hlen
    go_enter Tryd.func53, Tryd.ntmps53
    go_wp2
    go_loopw [5] (fun i wr => ∃ k : Nat, i = .int .i64 k ∧ k ≤ la.length ∧ SameUptoN la lb k ∧ Dr w wr) (fun i _ => la.length - (intOf i).toNat)
    case atStart => exact ⟨0, rfl, by omega, fun i hi => absurd hi (by omega), Dr.refl w⟩
    case round =>
      obtain ⟨k, rfl, hk, hsame, hw⟩ := hrel
      by_cases hlt : k < la.length
      · obtain ⟨x, hx⟩ := get_of_lt hlt
        obtain ⟨y, hy⟩ := get_of_lt (l := lb) (show k < lb.length by have := HL.out; omega)
        obtain ⟨b, off, rfl, hc⟩ := (hA.dr hw).at_map hx
        obtain ⟨b', off', rfl, hc'⟩ := (hB.dr hw).at_map hy
        have hlt' : k < lb.length := by have := HL.out; omega
        by_cases hxy : x = y
        · subst hxy
          have hn : (x != x) = false := by simp
          have hs := hsame.step hx hy
          go_wp2
          go_quiet (fail)
          go_wp2
          go_roundw
          case rel => exact ⟨k + 1, by go_num, by omega, hs, hw.more _⟩
          case measure => simp [intOf]; omega
        · have hn : (x != y) = true := by simpa using hxy
          have hfin : decide (la = lb) = false := by
            simp only [decide_eq_false_iff_not]
            rintro rfl
            rw [hx] at hy
            exact hxy (Option.some.inj hy)
          have HF := hid hfin
          clear hfin hxy
          go_wp2
          go_quiet (fail)
          go_wp2
          go_ret
          exact ⟨ret_bool HF.out.symm, hw.more _⟩
      · have hfin : decide (la = lb) = true := by
          obtain rfl : k = la.length := by omega
          simp only [decide_eq_true_eq]
          exact hsame.all HL.out
        have HF := hid hfin
        clear hfin
        go_wp2
        go_ret
        exact ⟨ret_bool HF.out.symm, hw⟩
  · have hb : (((la.length : Nat) : Int) != ((lb.length : Nat) : Int)) = true := by simp; omega
    have hfin : decide (la = lb) = false := by
      simp only [decide_eq_false_iff_not]
      rintro rfl
      exact hlen rfl
    have HF := hid hfin
    clear hfin hlen
    go_enter Tryd.func53, Tryd.ntmps53
    go_wp2
    go_ret
    exact ⟨ret_bool HF.out.symm, Dr.refl w⟩
open Go.RowKit
/-- how long the longest list is. -/
def wide (f : List (List Int)) : Nat := f.foldl (fun n l => max n l.length) 0
theorem wide_take {f : List (List Int)} {k : Nat} {l : List Int} (h : f[k]? = some l) : wide (f.take (k + 1)) = max (wide (f.take k)) l.length := by
  rw [take_snocP h]; unfold wide; rw [List.foldl_append]; rfl
theorem foldl_max_ge (f : List (List Int)) : ∀ n : Nat, n ≤ f.foldl (fun n l => max n l.length) n := by
  induction f with
  | nil => intro n; exact Nat.le_refl _
  | cons a f ih => intro n; exact Nat.le_trans (Nat.le_max_left _ _) (ih _)
theorem foldl_max_mem (f : List (List Int)) : ∀ (n : Nat) (l : List Int), l ∈ f → l.length ≤ f.foldl (fun n l => max n l.length) n := by
  induction f with
  | nil => intro n l h; cases h
  | cons a f ih =>
    intro n l h
    rcases List.mem_cons.1 h with rfl | h
    · exact Nat.le_trans (Nat.le_max_right _ _) (foldl_max_ge f _)
    · exact ih _ l h
theorem le_wide {f : List (List Int)} {l : List Int} (h : l ∈ f) : l.length ≤ wide f := foldl_max_mem f 0 l h
theorem foldl_max_le (f : List (List Int)) (m : Nat) (hf : ∀ l ∈ f, l.length ≤ m) : ∀ n : Nat, n ≤ m → f.foldl (fun n l => max n l.length) n ≤ m := by
  induction f with
  | nil => intro n h; exact h
  | cons a f ih =>
    intro n h
    exact ih (fun l hl => hf l (List.mem_cons_of_mem _ hl)) _ (Nat.max_le.2 ⟨h, hf a (List.mem_cons_self ..)⟩)
theorem wide_le {f : List (List Int)} {m : Nat} (hf : ∀ l ∈ f, l.length ≤ m) : wide f ≤ m := foldl_max_le f m hf 0 (Nat.zero_le _)
set_option maxHeartbeats 400000 in
theorem pwide_c (A : Option Addr) (f : List (List Int)) (c : Nat) (w : World) (hA : Grid w A f) (hl : f.length ≤ 9223372036854775807) :
    Calls Tryd.prog 111 #[.slice A f.length c] w fun e w' => e = .returned (.int .i64 (wide f : Int)) ∧ w = w' := by
  go_enter Tryd.func111, Tryd.ntmps111
  go_wp2
  go_loop [3, 5, 8] (fun n _ i => ∃ k : Nat, i = .int .i64 k ∧ k ≤ f.length ∧ n = .int .i64 (wide (f.take k) : Int)) (fun _ _ i => f.length - (intOf i).toNat)
  case atStart => exact ⟨0, rfl, by omega, rfl⟩
  case round =>
    obtain ⟨k, rfl, hk, rfl⟩ := hrel
    by_cases hlt : k < f.length
    · obtain ⟨l, hx⟩ := get_of_lt hlt
      obtain ⟨b, off, A', c', rfl, hc, hcs, hln⟩ := hA.at_ hx
      have hs := wide_take hx
      obtain ⟨n, hn⟩ : ∃ n, wide (f.take k) = n := ⟨_, rfl⟩
      rw [hn] at hs ⊢
      have HS := hid hs
      clear hs hn
      go_wp2
      go_round
      case rel => exact ⟨k + 1, by go_num, by omega, by rw [HS.out]; exact congrArg _ (by omega)⟩
      case measure => simp [intOf]; omega
    · obtain rfl : k = f.length := by omega
      go_wp2
      go_ret
      exact ⟨ret_int (by first | rfl | rw [List.take_length]), rfl⟩
set_option maxHeartbeats 400000 in
theorem rwide_c (A : Option Addr) (f : List (List Int)) (c : Nat) (w : World) (hA : Grid w A f) (hl : f.length ≤ 9223372036854775807) :
    Calls Tryd.prog 49 #[.slice A f.length c] w fun e w' => e = .returned (.int .i64 (wide f : Int)) ∧ w = w' := by
  go_enter Tryd.func49, Tryd.ntmps49
  go_wp2
  go_loop [3, 4] (fun n i => ∃ k : Nat, i = .int .i64 k ∧ k ≤ f.length ∧ n = .int .i64 (wide (f.take k) : Int)) (fun _ i => f.length - (intOf i).toNat)
  case atStart => exact ⟨0, rfl, by omega, rfl⟩
  case round =>
    obtain ⟨k, rfl, hk, rfl⟩ := hrel
    by_cases hlt : k < f.length
    · obtain ⟨l, hx⟩ := get_of_lt hlt
      obtain ⟨b, off, A', c', rfl, hc, hcs, hln⟩ := hA.at_ hx
      have hs := wide_take hx
      obtain ⟨n, hn⟩ : ∃ n, wide (f.take k) = n := ⟨_, rfl⟩
      rw [hn] at hs ⊢
      have HS := hid hs
      clear hs hn
      go_wp2
      go_round
      case rel => exact ⟨k + 1, by go_num, by omega, by rw [HS.out]; exact congrArg _ (by omega)⟩
      case measure => simp [intOf]; omega
    · obtain rfl : k = f.length := by omega
      go_wp2
      go_ret
      exact ⟨ret_int (by first | rfl | rw [List.take_length]), rfl⟩
open Go.RowKit
def Words (f : List (List Int)) : Prop := ∀ l ∈ f, U64s l
theorem Words.at_ {f : List (List Int)} (h : Words f) {k : Nat} {l : List Int} (hk : f[k]? = some l) : U64s l := h l (List.mem_of_getElem? hk)
/-- the column at y. -/
def mCol (f : List (List Int)) (y q : Int) : List Int := f.map fun l => mEval l y q
theorem mCol_u64 (f : List (List Int)) (y q : Int) : U64s (mCol f y q) := by
  intro z hz
  obtain ⟨l, _, rfl⟩ := List.mem_map.1 hz
  exact mEval_u64 _ _ _
set_option maxHeartbeats 400000 in
theorem col_c (A : Option Addr) (f : List (List Int)) (c : Nat) (y q : Int) (w : World) (hA : Grid w A f) (hl : f.length ≤ 17592186044416) (hu : Words f) (hy : U64 y) (hq : U64 q) :
    Calls Tryd.prog 51 #[.slice A f.length c, .int .u64 y, .int .u64 q] w (NewNumsP (mCol f y q) w) := by
  have hlen : (mCol f y q).length = f.length := by simp [mCol]
  go_enter Tryd.func51, Tryd.ntmps51
  go_wp2_with (at_make; refine wpList_make_row elt_u64 _ rfl _ _ rfl .i64 .i64 _ _ f.length rfl rfl rfl rfl (by omega) (by omega) ?_; intro w1 hr1 hs1 hb1)
  go_loopw [8, 9, 15] (fun _ _ i wr => ∃ k : Nat, i = .int .i64 k ∧ k ≤ f.length ∧ Row1 wr w.heap.size 24 (filled (mCol f y q) f.length k) ∧ Below w.heap.size w wr) (fun _ _ i _ => f.length - (intOf i).toNat)
  case atStart => exact ⟨0, rfl, by omega, by rw [filled_zero]; exact hr1, hb1⟩
  case round =>
    obtain ⟨k, rfl, hk, hr, hb⟩ := hrel
    by_cases hlt : k < f.length
    · obtain ⟨l, hx⟩ := get_of_lt hlt
      obtain ⟨b, off, A', c', rfl, hc, hcs, hln⟩ := (hA.below hb).at_ hx
      have hz : (mCol f y q)[k]? = some (mEval l y q) := by simp [mCol, hx]
      have hul := hu.at_ hx
      go_wp2_with (go_at_call 50; refine (eval_c _ _ _ _ _ _ hcs hln hul hy hq).mono ?_; rintro e w2 ⟨rfl, hw2⟩; have hc2 := (hr.dr hw2).cell (filled_at _ _ _ hlt hlen); have hf2 := (hr.dr hw2).frozen k)
      go_roundw
      case rel => exact ⟨k + 1, by go_num, by omega, by rw [← filled_set _ _ _ _ hlt hlen hz]; exact (hr.dr hw2).set k _, (below_dr hb hw2).setCell (by simp) _⟩
      case measure => simp [intOf]; omega
    · obtain rfl : k = f.length := by omega
      go_wp2
      go_ret
      refine ⟨_, rfl, ?_, hb⟩
      rw [filled_all _ _ hlen] at hr
      have := hr.own (Nat.le_refl _) (by simp [hlen]; omega)
      simpa [hlen] using this
/-- the value at two places. -/
def mAt (f : List (List Int)) (x y q : Int) : Int := mEval (mCol f y q) x q
set_option maxHeartbeats 400000 in
theorem at_c (A : Option Addr) (f : List (List Int)) (c : Nat) (x y q : Int) (w : World) (hA : Grid w A f) (hl : f.length ≤ 17592186044416) (hu : Words f) (hx : U64 x) (hy : U64 y) (hq : U64 q) :
    Calls Tryd.prog 55 #[.slice A f.length c, .int .u64 x, .int .u64 y, .int .u64 q] w fun e w' => e = .returned (.int .u64 (mAt f x y q)) ∧ Below w.heap.size w w' := by
  have hlen : (mCol f y q).length ≤ 9223372036854775807 := by simp [mCol]; omega
  go_enter Tryd.func55, Tryd.ntmps55
  go_wp2_with (fail)
  refine (col_c _ _ _ _ _ _ hA hl hu hy hq).mono ?_
  rintro e w1 ⟨v, rfl, hown, hb⟩
  obtain ⟨A', c', rfl, hcs⟩ := hown.form
  have hcs' := hcs
  rw [List.length_map]
  go_wp2_with (fail)
  refine (eval_c _ _ _ _ _ _ hcs' hlen (mCol_u64 f y q) hx hq).mono ?_
  rintro e w2 ⟨rfl, hw2⟩
  go_wp2
  go_ret
  exact ⟨rfl, below_dr hb hw2⟩
set_option maxHeartbeats 400000 in
theorem polys_c (A B : Option Addr) (f g : List (List Int)) (c d : Nat) (w : World) (hA : Grid w A f) (hB : Grid w B g) (hl : f.length ≤ 9223372036854775807) (hl' : g.length ≤ 9223372036854775807) :
    Calls Tryd.prog 107 #[.slice A f.length c, .slice B g.length d] w fun e w' => e = .returned (.bool (decide (f = g))) ∧ Dr w w' := by
  by_cases hlen : f.length = g.length
  · have hb : (((f.length : Nat) : Int) != ((g.length : Nat) : Int)) = false := by simp [hlen]
    have HL := hid hlen
    clear hlen
    go_enter Tryd.func107, Tryd.ntmps107
    go_wp2
    go_loopw [5] (fun i wr => ∃ k : Nat, i = .int .i64 k ∧ k ≤ f.length ∧ (∀ i, i < k → f[i]? = g[i]?) ∧ Dr w wr) (fun i _ => f.length - (intOf i).toNat)
    case atStart => exact ⟨0, rfl, by omega, fun i hi => absurd hi (by omega), Dr.refl w⟩
    case round =>
      obtain ⟨k, rfl, hk, hsame, hw⟩ := hrel
      have HSM := hid hsame
      clear hsame
      by_cases hlt : k < f.length
      · have hlt' : k < g.length := by have := HL.out; omega
        obtain ⟨l, hx⟩ := get_of_lt hlt
        obtain ⟨m, hy⟩ := get_of_lt hlt'
        obtain ⟨b, off, A', c', rfl, hc, hcs, hln⟩ := (hA.dr hw).at_ hx
        obtain ⟨b', off', B', d', rfl, hc', hcs', hln'⟩ := (hB.dr hw).at_ hy
        by_cases hxy : l = m
        · have hd : decide (l = m) = true := by simpa using hxy
          have hs : ∀ i, i < k + 1 → f[i]? = g[i]? := by
            intro i hi
            rcases Nat.lt_or_ge i k with h' | h'
            · exact HSM.out i h'
            · obtain rfl : i = k := by omega
              rw [hx, hy, hxy]
          have HS := hid hs
          clear hs hxy
          go_wp2
          go_quiet ((go_at_call 53; exact quiet_dr (nums06_c _ _ _ _ _ _ _ (hcs.drewN _) (hcs'.drewN _) hln hln')))
          go_wp2
          go_roundw
          case rel => exact ⟨k + 1, by go_num, by omega, HS.out, hw.more _⟩
          case measure => simp [intOf]; omega
        · have hd : decide (l = m) = false := by simpa using hxy
          have hfin : decide (f = g) = false := by
            simp only [decide_eq_false_iff_not]
            rintro rfl
            rw [hx] at hy
            exact hxy (Option.some.inj hy)
          have HF := hid hfin
          clear hfin hxy
          go_wp2
          go_quiet ((go_at_call 53; exact quiet_dr (nums06_c _ _ _ _ _ _ _ (hcs.drewN _) (hcs'.drewN _) hln hln')))
          go_wp2
          go_ret
          exact ⟨ret_bool HF.out.symm, hw.more _⟩
      · have hfin : decide (f = g) = true := by
          obtain rfl : k = f.length := by omega
          simp only [decide_eq_true_eq]
          apply List.ext_getElem?
          intro i
          rcases Nat.lt_or_ge i f.length with h' | h'
          · exact HSM.out i h'
          · rw [List.getElem?_eq_none h', List.getElem?_eq_none (by have := HL.out; omega)]
        have HF := hid hfin
        clear hfin
        go_wp2
        go_ret
        exact ⟨ret_bool HF.out.symm, hw⟩
  · have hb : (((f.length : Nat) : Int) != ((g.length : Nat) : Int)) = true := by simp; omega
    have hfin : decide (f = g) = false := by
      simp only [decide_eq_false_iff_not]
      rintro rfl
      exact hlen rfl
    have HF := hid hfin
    clear hfin hlen
    go_enter Tryd.func107, Tryd.ntmps107
    go_wp2
    go_ret
    exact ⟨ret_bool HF.out.symm, Dr.refl w⟩
open Go.RowKit
/-- the j-th numbers of all lists. -/
def colJ (f : List (List Int)) (j : Nat) : List Int := f.map fun l => l.getD j 0
theorem colJ_at {f : List (List Int)} {k : Nat} {l : List Int} (h : f[k]? = some l) (j : Nat) : (colJ f j)[k]? = some (l.getD j 0) := by simp [colJ, h]
theorem colJ_len (f : List (List Int)) (j : Nat) : (colJ f j).length = f.length := by simp [colJ]
theorem getD_in (l : List Int) (i : Nat) : l.getD i 0 = 0 ∨ l.getD i 0 ∈ l := by
  rw [List.getD_eq_getElem?_getD]
  cases h : l[i]? with
  | none => exact .inl rfl
  | some z => exact .inr (List.mem_of_getElem? h)
theorem colJ_u64 {f : List (List Int)} (h : Words f) (j : Nat) : U64s (colJ f j) := by
  intro z hz
  obtain ⟨l, hl, rfl⟩ := List.mem_map.1 hz
  rcases getD_in l j with h0 | h0
  · rw [h0]; exact ⟨by decide, by decide⟩
  · exact h l hl _ h0
/-- the row at a place. -/
def mRow (f : List (List Int)) (x q : Int) : List Int := (List.range (wide f)).map fun j => mEval (colJ f j) x q
theorem mRow_u64 (f : List (List Int)) (x q : Int) : U64s (mRow f x q) := by
  intro z hz
  obtain ⟨j, _, rfl⟩ := List.mem_map.1 hz
  exact mEval_u64 _ _ _
open Go.RowKit
/-- is a polynomial more than a statement goes over? -/
def largeF (f : List (List Int)) : Bool := decide ((f.length : Int) > 20) || decide ((wide f : Int) > 20)
set_option maxRecDepth 100000 in
set_option maxHeartbeats 1000000 in
theorem large06_c (g : Nat) (A : Option Addr) (f : List (List Int)) (c : Nat) (w : World) (hr : Row1 w g 22 [.slice A f.length c]) (hA : Grid w A f) (hl : f.length ≤ 9223372036854775807) :
    Calls Tryd.prog 44 #[.slice (some ⟨g, 0, none⟩) 1 1] w fun e w' => e = .returned (.bool (largeF f)) ∧ Dr w w' := by
  have hrw : ∀ w', Dr w w' → Calls Tryd.prog 49 #[.slice A f.length c] w' fun e w'' => e = .returned (.int .i64 (wide f : Int)) ∧ w' = w'' := fun w' hd => rwide_c A f c w' (hA.dr hd) hl
  have HRW := hid hrw
  have hc := hr.cell (k := 0) rfl
  clear hrw
  go_enter Tryd.func44, Tryd.ntmps44
  cases h1 : decide ((f.length : Int) > 20) with
  | true =>
    have HF := hid (show largeF f = true by simp [largeF, h1])
    go_wp2
    go_loopw [3] (fun i wr => i = .int .i64 0 ∧ Dr w wr) (fun _ _ => 0)
    case atStart => exact ⟨rfl, Dr.refl _⟩
    case round =>
      obtain ⟨rfl, hw⟩ := hrel
      have hc2 := (hw.cell _).trans hc
      go_wp2
      go_ret
      exact ⟨ret_bool HF.out.symm, hw⟩
  | false =>
  cases h2 : decide ((wide f : Int) > 20) with
  | true =>
    have HF := hid (show largeF f = true by simp [largeF, h2])
    go_wp2
    go_loopw [3] (fun i wr => i = .int .i64 0 ∧ Dr w wr) (fun _ _ => 0)
    case atStart => exact ⟨rfl, Dr.refl _⟩
    case round =>
      obtain ⟨rfl, hw⟩ := hrel
      have hc2 := (hw.cell _).trans hc
      go_wp2_with (go_at_call 49; refine (HRW.out _ hw).mono ?_; rintro e w2 ⟨rfl, rfl⟩)
      go_ret
      exact ⟨ret_bool HF.out.symm, hw⟩
  | false =>
    have HF := hid (show largeF f = false by simp [largeF, h1, h2])
    go_wp2
    go_loopw [3] (fun i wr => ∃ k : Nat, i = .int .i64 k ∧ k ≤ 1 ∧ Dr w wr) (fun i _ => 1 - (intOf i).toNat)
    case atStart => exact ⟨0, rfl, by omega, Dr.refl _⟩
    case round =>
      obtain ⟨k, rfl, hk, hw⟩ := hrel
      by_cases hlt : k < 1
      · obtain rfl : k = 0 := by omega
        have hc2 := (hw.cell _).trans hc
        go_wp2_with (go_at_call 49; refine (HRW.out _ hw).mono ?_; rintro e w2 ⟨rfl, rfl⟩)
        go_roundw
        case rel => exact ⟨1, by go_num, by omega, hw⟩
        case measure => simp [intOf]
      · obtain rfl : k = 1 := by omega
        go_wp2
        go_ret
        exact ⟨ret_bool HF.out.symm, hw⟩
end Go.Proofs.YtcojnjhffmhbiaaDoor
end

section
namespace Go.Proofs.YtcojnjhffmhbiaaDoor
open Go.RowKit Go.Shelf
attribute [local go_sem] Oper.semAt_some
/-- what the iterator has captured. -/
structure Fit (A : Option Addr) (f : List (List Int)) (c g1 g2 g3 : Nat) (w : World) : Prop where
  r1 : Row1 w g1 22 [.slice A f.length c]
  r2 : Row1 w g2 22 [.slice A f.length c]
  r3 : Row1 w g3 160 [.func (.func 158) #[] #[.pointer (some ⟨g2, 0, none⟩)]]
  A : Grid w A f
theorem Fit.below {A : Option Addr} {f : List (List Int)} {c g1 g2 g3 : Nat} {w w' : World} (h : Fit A f c g1 g2 g3 w) (hb : Below w.heap.size w w') : Fit A f c g1 g2 g3 w' := ⟨h.r1.below hb, h.r2.below hb, h.r3.below hb, h.A.below hb⟩
theorem Fit.dr {A : Option Addr} {f : List (List Int)} {c g1 g2 g3 : Nat} {w w' : World} (h : Fit A f c g1 g2 g3 w) (hd : Dr w w') : Fit A f c g1 g2 g3 w' := h.below (below_of_dr hd)
/-- one number; 0, if there is nothing. -/
theorem reads1_c (A : Option Addr) (f : List (List Int)) (c g2 i j : Nat) (l : List Int) (w : World) (hA : Grid w A f) (hr : Row1 w g2 22 [.slice A f.length c]) (_ : f.length ≤ 9223372036854775807) (hx : f[i]? = some l) (_ : j ≤ 9223372036854775807) :
    Calls Tryd.prog 158 #[.int .i64 i, .int .i64 j, .pointer (some ⟨g2, 0, none⟩)] w fun e w' => e = .returned (.int .u64 (l.getD j 0)) ∧ w = w' := by
  have hc := hr.cell (k := 0) rfl
  have hi : i < f.length := (List.getElem?_eq_some_iff.1 hx).1
  obtain ⟨o1, off, A', c', rfl, hc1, hcs, hln⟩ := hA.at_ hx
  clear hx
  go_enter Tryd.func158, Tryd.ntmps158
  by_cases hin : j < l.length
  · obtain ⟨z, hz⟩ := get_of_lt hin
    obtain ⟨o2, off2, rfl, hcz⟩ := hcs.at_map hz
    have hgd := hid (show l.getD j 0 = z by rw [List.getD_eq_getElem?_getD, hz]; rfl)
    clear hz
    go_wp2
    go_ret
    exact ⟨ret_int hgd.out.symm, rfl⟩
  · have hgd := hid (show l.getD j 0 = 0 by rw [List.getD_eq_getElem?_getD, List.getElem?_eq_none (by omega)]; rfl)
    go_wp2
    go_ret
    exact ⟨ret_int hgd.out.symm, rfl⟩
theorem reads_c (A : Option Addr) (n c : Nat) (w : World) : Calls Tryd.prog 146 #[.slice A n c] w fun e w' => e = .returned (.func (.func 158) #[] #[.pointer (some ⟨w.heap.size, 0, none⟩)]) ∧ w.alloc (.cells #[.slice A n c] 22) = w' := by
  go_enter Tryd.func146, Tryd.ntmps146
  go_wp2
  go_ret
  exact ⟨rfl, rfl⟩
set_option maxRecDepth 100000 in
set_option maxHeartbeats 2000000 in
theorem columns1_c (A : Option Addr) (f : List (List Int)) (c g1 g2 g3 l n : Nat) (w : World) (J : List (Nat × Value) → World → Prop) (hJ : ∀ xs A B, w.heap.size ≤ A.heap.size → J xs A → Below A.heap.size A B → J xs B)
    (hY : ∀ pre x W, w.heap.size ≤ W.heap.size → J pre W → x.1 < wide f → RowT W 24 x.2 ((colJ f x.1).map (.int .u64)) → YieldAt Fence.wide n Tryd.prog l #[.int .i64 (x.1 : Int), x.2] W fun e B => e = .returned (.bool true) ∧ J (pre ++ [x]) B ∧ (Fit A f c g1 g2 g3 W → Fit A f c g1 g2 g3 B) ∧ W.heap.size ≤ B.heap.size)
    (hF : Fit A f c g1 g2 g3 w) (hl : f.length ≤ 1000000) (hwd : wide f ≤ 1000000) (h0 : J [] w) :
    Calls Tryd.prog 147 #[.func (.yield l) #[] #[], .pointer (some ⟨g1, 0, none⟩), .pointer (some ⟨g3, 0, none⟩)] w fun e w' => (∃ v, e = .returned v) ∧ ∃ xs, xs.map Prod.fst = List.range (wide f) ∧ J xs w' := by
  have hc1 := hF.r1.cell (k := 0) rfl
  go_enter Tryd.func147, Tryd.ntmps147
  have hpw := pwide_c A f c w hF.A (by omega)
  obtain ⟨m, hm⟩ : ∃ m, wide f = m := ⟨_, rfl⟩
  rw [hm] at hpw hwd hY ⊢
  have HPW := hid hpw
  clear hpw hm
  go_wp2_with (go_at_call 111; refine HPW.out.mono ?_; rintro e w2 ⟨rfl, rfl⟩)
  clear hc1
  go_loopw [4, 5, 6, 9] (fun _ _ _ j wr => ∃ k : Nat, j = .int .i64 k ∧ k ≤ m ∧ w.heap.size ≤ wr.heap.size ∧ Fit A f c g1 g2 g3 wr ∧ ∃ xs : List (Nat × Value), xs.map Prod.fst = List.range k ∧ J xs wr) (fun _ _ _ j _ => m - (intOf j).toNat)
  case atStart => exact ⟨0, rfl, by omega, Nat.le_refl _, hF, [], rfl, h0⟩
  case round =>
    obtain ⟨k, rfl, hk, hsz, hF2, xs, hxs, hJx⟩ := hrel
    have HXS := hid hxs
    clear hxs
    by_cases hlt : k < m
    · have hc1 := hF2.r1.cell (k := 0) rfl
      go_wp2
      generalize wr = wo at *
      clear hc1
      go_loopw [5, 6, 14] (fun o _ i w4 => ∃ i' : Nat, i = .int .i64 i' ∧ i' ≤ f.length ∧ Own w4 wo.heap.size 24 o (((colJ f k).take i').map (.int .u64)) ∧ Below wo.heap.size wo w4) (fun _ _ i _ => f.length - (intOf i).toNat)
      case atStart => exact ⟨0, rfl, by omega, by simpa using Own.nil wo wo.heap.size 24, Below.refl _ _⟩
      case round =>
        obtain ⟨i, rfl, hi, hown4, hb4⟩ := hrel
        have hF4 := hF2.below hb4
        by_cases hlt2 : i < f.length
        · obtain ⟨l2, hxl⟩ := get_of_lt hlt2
          have hcj := colJ_at hxl k
          have hs : ((colJ f k).take i).map (Value.int .u64) ++ [Value.int .u64 (l2.getD k 0)] = ((colJ f k).take (i + 1)).map (Value.int .u64) := by
            rw [take_snocP hcj]; simp
          have hlen : (((colJ f k).take i).map (Value.int .u64)).length = i := by simp [colJ_len]; omega
          have HS := hid (⟨hs, hlen, hxl⟩ : _ ∧ _ ∧ _)
          clear hs hlen hcj hxl
          have hc3 := hF4.r3.cell (k := 0) rfl
          go_wp2_with (first | (go_at_call 158; refine (reads1_c A f c g2 i k l2 _ hF4.A hF4.r2 (by omega) HS.out.2.2 (by omega)).mono ?_; rintro e w2 ⟨rfl, rfl⟩) | (at_builtin; refine wpList_push elt_u64 wr rfl _ _ rfl wo.heap.size hown4 rfl (.int .u64 (l2.getD k 0)) rfl rfl (by rw [HS.out.2.1]; omega) (by rw [HS.out.2.1]; omega) hb4.size ?_; intro v' w3 hown5 _ hb5))
          go_roundw
          case rel =>
            rw [HS.out.1] at hown5
            exact ⟨i + 1, by go_num, by omega, hown5, hb4.trans hb5⟩
          case measure => simp [intOf]; omega
        · obtain rfl : i = f.length := by omega
          rw [List.take_of_length_le (by rw [colJ_len]; exact Nat.le_refl _)] at hown4
          have hrt := hown4.rowT
          obtain ⟨A5, c5, rfl, _⟩ := hown4.form
          rw [List.length_map] at hrt
          have hs4 := hb4.size
          have hJ4 := hJ _ _ _ hsz hJx hb4
          obtain ⟨fn, tmps, assign, body, hy, hR⟩ := hY xs (k, .slice A5 (colJ f k).length c5) wr (by omega) hJ4 hlt hrt
          dsimp only at hy
          clear hown4 hJx
          go_upto_region 9 with (fail)
          refine (wpIn_wide (n := n + 1)).1 ?_
          gi_wp2
          refine hR.mono ?_
          rintro e B ⟨rfl, hJB, hKB, hszB⟩
          gi_wp2
          go_wp2
          go_roundw
          case rel => exact ⟨k + 1, by go_num, by omega, by omega, hKB hF4, xs ++ [(k, .slice A5 (colJ f k).length c5)], by rw [List.map_append, HXS.out, List.range_succ]; rfl, hJB⟩
          case measure => simp [intOf]; omega
    · obtain rfl : k = m := by omega
      go_wp2
      go_end0
      exact ⟨⟨_, rfl⟩, xs, HXS.out, hJx⟩
open Go.RowKit Go.Shelf
attribute [local go_sem] Oper.semAt_some
section
variable {A : World} {l : Nat} {o : Obj} (o' : Obj)
theorem Fit.put {B : Option Addr} {f : List (List Int)} {c g1 g2 g3 : Nat} (h : Fit B f c g1 g2 g3 A) (hl : A.heap[l]? = some o) (hc : o.isCells = false) : Fit B f c g1 g2 g3 (A.putObj l o') := ⟨h.r1.put o' hl hc, h.r2.put o' hl hc, h.r3.put o' hl hc, h.A.put o' hl hc⟩
end
theorem columns_c (A : Option Addr) (f : List (List Int)) (c : Nat) (w : World) (hA : Grid w A f) :
    Calls Tryd.prog 110 #[.slice A f.length c] w fun e w' => ∃ g1 g2 g3, e = .returned (.func (.func 147) #[] #[.pointer (some ⟨g1, 0, none⟩), .pointer (some ⟨g3, 0, none⟩)]) ∧ Fit A f c g1 g2 g3 w' ∧ Below w.heap.size w w' ∧ w.heap.size ≤ g1 ∧ w.heap.size ≤ g2 ∧ w.heap.size ≤ g3 := by
  go_enter Tryd.func110, Tryd.ntmps110
  have hr1 := row1_new w [.slice A f.length c] 22
  have hc1 := hr1.cell (k := 0) rfl
  simp only [List.toArray] at hc1
  go_wp2_with (go_at_call 146; refine (reads_c A f.length c _).mono ?_; rintro e w2 ⟨rfl, hw2⟩; rw [← hw2]; clear hw2)
  go_ret
  have h1 := ((row1_new w [.slice A f.length c] 22).alloc (.cells #[.slice A f.length c] 22)).alloc (.cells #[.func (.func 158) #[] #[.pointer (some ⟨w.heap.size + 1, 0, none⟩)]] 160)
  have h2 := (row1_in (w.alloc (.cells #[.slice A f.length c] 22)) [.slice A f.length c] 22 (w.heap.size + 1) (by simp)).alloc (.cells #[.func (.func 158) #[] #[.pointer (some ⟨w.heap.size + 1, 0, none⟩)]] 160)
  have h3 := row1_in ((w.alloc (.cells #[.slice A f.length c] 22)).alloc (.cells #[.slice A f.length c] 22)) [.func (.func 158) #[] #[.pointer (some ⟨w.heap.size + 1, 0, none⟩)]] 160 (w.heap.size + 1 + 1) (by simp)
  have hb := ((below_alloc w (.cells #[.slice A f.length c] 22)).alloc (by simp) (.cells #[.slice A f.length c] 22)).alloc (by simp; omega) (.cells #[.func (.func 158) #[] #[.pointer (some ⟨w.heap.size + 1, 0, none⟩)]] 160)
  exact ⟨_, _, _, rfl, ⟨h1, h2, h3, hA.below hb⟩, hb, by omega, by omega, by omega⟩
/-- the numbers of the columns that have come. -/
def rowOf (f : List (List Int)) (x q : Int) (pre : List (Nat × Value)) : List Int := (List.range (wide f)).map fun j => if j ∈ pre.map Prod.fst then mEval (colJ f j) x q else 0
theorem rowOf_nil (f : List (List Int)) (x q : Int) : rowOf f x q [] = List.replicate (wide f) 0 := by
  unfold rowOf
  rw [List.eq_replicate_iff]
  refine ⟨by simp, fun b hb => ?_⟩
  obtain ⟨j, _, rfl⟩ := List.mem_map.1 hb
  simp
theorem rowOf_len (f : List (List Int)) (x q : Int) (pre : List (Nat × Value)) : (rowOf f x q pre).length = wide f := by simp [rowOf]
theorem rowOf_set (f : List (List Int)) (x q : Int) (pre : List (Nat × Value)) (y : Nat × Value) (h : y.1 < wide f) : (rowOf f x q pre).set y.1 (mEval (colJ f y.1) x q) = rowOf f x q (pre ++ [y]) := by
  apply List.ext_getElem?
  intro j
  rw [List.getElem?_set]
  split
  · rename_i hj
    subst hj
    rw [if_pos (by rw [rowOf_len]; exact h)]
    simp only [rowOf, List.getElem?_map, List.getElem?_range h, Option.map_some]
    rw [if_pos (by simp)]
  · rename_i hj
    simp only [rowOf, List.getElem?_map]
    rcases Nat.lt_or_ge j (wide f) with h1 | h1
    · rw [List.getElem?_range h1]
      simp only [Option.map_some]
      have he : j ∈ (pre ++ [y]).map Prod.fst ↔ j ∈ pre.map Prod.fst := by
        rw [List.map_append, List.mem_append]
        simp only [List.map_cons, List.map_nil, List.mem_singleton]
        exact ⟨fun h => h.elim id fun h => absurd h.symm hj, .inl⟩
      by_cases hjm : j ∈ pre.map Prod.fst
      · rw [if_pos hjm, if_pos (he.2 hjm)]
      · rw [if_neg hjm, if_neg (fun h => hjm (he.1 h))]
    · rw [List.getElem?_eq_none (by simpa using h1)]; rfl
theorem rowOf_all (f : List (List Int)) (x q : Int) (xs : List (Nat × Value)) (h : xs.map Prod.fst = List.range (wide f)) : rowOf f x q xs = mRow f x q := by
  unfold rowOf mRow
  rw [h]
  apply List.map_congr_left
  intro j hj
  rw [if_pos hj]
/-- what lies in memory while a row is made. -/
structure Bw (A : Option Addr) (f : List (List Int)) (c g1 g2 g3 : Nat) (x q : Int) (gx gq gc go : Nat) (w0 : World) (pre : List (Nat × Value)) (w : World) : Prop where
  F : Fit A f c g1 g2 g3 w
  X : Row1 w gx 24 [.int .u64 x]
  Q : Row1 w gq 24 [.int .u64 q]
  C : Row1 w gc 23 [.slice (some ⟨go, 0, none⟩) (wide f) (wide f)]
  O : Row1 w go 24 ((rowOf f x q pre).map (.int .u64))
  b : Below w0.heap.size w0 w
set_option maxRecDepth 100000 in
set_option maxHeartbeats 4000000 in
theorem brow_c (A : Option Addr) (f : List (List Int)) (c : Nat) (x q : Int) (w : World) (hA : Grid w A f) (hl : f.length ≤ 1000000) (hwd : wide f ≤ 1000000) (hu : Words f) (hx : U64 x) (hq : U64 q) :
    Calls Tryd.prog 48 #[.slice A f.length c, .int .u64 x, .int .u64 q] w (NewNumsP (mRow f x q) w) := by
  have hpw := fun w' (hb : Below w.heap.size w w') => pwide_c A f c w' (hA.below hb) (by omega)
  have hB0 : Below w.heap.size w ((w.alloc (.cells #[.int .u64 x] 24)).alloc (.cells #[.int .u64 q] 24)) := (below_alloc w _).alloc (by simp) _
  have HPW := hid hpw
  clear hpw
  refine (callsIn_wide (n := 10)).1 ?_
  refine callsIn_of_wp_marks Tryd.func48 rfl trivial ?_ rfl
  refine (wpIn_wide (n := 10)).2 ?_
  simp only [Tryd.ntmps48, List.size_toArray, List.length_cons, List.length_nil, Nat.reduceAdd, Nat.reduceSub, Array.replicate_succ, Array.replicate_zero, List.push_toArray, List.append_toArray, List.nil_append, List.cons_append]
  go_wp2_with (first | (go_at_call 111; refine (HPW.out _ hB0).mono ?_; rintro e w2 ⟨rfl, rfl⟩) | (at_make; refine wpList_make_row elt_u64 _ rfl _ _ rfl .i64 .i64 _ _ (wide f) rfl rfl rfl rfl (by omega) (by omega) ?_; intro w1 hr1 hs1 hb1))
  simp only [World.size_alloc] at hr1 hs1 hb1
  have hX := (((row1_new w [.int .u64 x] 24).alloc (.cells #[.int .u64 q] 24)).below (by simpa using hb1)).alloc (.cells #[.slice (some ⟨w.heap.size + 1 + 1, 0, none⟩) (wide f) (wide f)] 23)
  have hQ := ((row1_in (w.alloc (.cells #[.int .u64 x] 24)) [.int .u64 q] 24 (w.heap.size + 1) (by simp)).below (by simpa using hb1)).alloc (.cells #[.slice (some ⟨w.heap.size + 1 + 1, 0, none⟩) (wide f) (wide f)] 23)
  have hO := hr1.alloc (.cells #[.slice (some ⟨w.heap.size + 1 + 1, 0, none⟩) (wide f) (wide f)] 23)
  have hC := row1_in w1 [.slice (some ⟨w.heap.size + 1 + 1, 0, none⟩) (wide f) (wide f)] 23 (w.heap.size + 1 + 1 + 1) (by rw [hs1])
  have hb2 := below_next (below_next hB0 hB0.size (by simpa using hb1)) (by omega) (below_alloc w1 (.cells #[.slice (some ⟨w.heap.size + 1 + 1, 0, none⟩) (wide f) (wide f)] 23))
  simp only [List.toArray] at hC hX hQ
  generalize w1.alloc (.cells #[.slice (some ⟨w.heap.size + 1 + 1, 0, none⟩) (wide f) (wide f)] 23) = w2 at *
  have hs2 := hC.lt
  clear hr1 hs1 hb1 hB0 HPW
  refine (columns_c A f c w2 (hA.below hb2)).mono ?_
  rintro e w3 ⟨g1, g2, g3, rfl, hF, hb3, hgl1, hgl2, hgl3⟩
  have S : Bw A f c g1 g2 g3 x q w.heap.size (w.heap.size + 1) (w.heap.size + 1 + 1 + 1) (w.heap.size + 1 + 1) w [] w3 := ⟨hF, hX.below hb3, hQ.below hb3, hC.below hb3, by rw [rowOf_nil, List.map_replicate]; exact hO.below hb3, below_next hb2 hb2.size hb3⟩
  have hs3 := S.b.size
  have hsz3 : w.heap.size + 1 + 1 + 1 < w3.heap.size := S.C.lt
  clear hX hQ hO hC hF hb2 hb3
  go_wp2
  refine (wpIn_wide (n := 10)).1 ?_
  refine wpIn_rangeAll (n := 10) rfl (by decide) (gf := 147) (lb := #[.pointer (some ⟨g1, 0, none⟩), .pointer (some ⟨g3, 0, none⟩)]) rfl trivial (enters_of Tryd.func147 (by kernel_rfl) rfl) (encs := fun y : Nat × Value => #[.int .i64 (y.1 : Int), y.2]) (fun _ => rfl)
    (Bw A f c g1 g2 g3 x q w.heap.size (w.heap.size + 1) (w.heap.size + 1 + 1 + 1) (w.heap.size + 1 + 1) w) (fun y W => y.1 < wide f ∧ RowT W 24 y.2 ((colJ f y.1).map (.int .u64))) (fun xs => xs.map Prod.fst = List.range (wide f)) (fun B1 B2 => Fit A f c g1 g2 g3 B1 → Fit A f c g1 g2 g3 B2)
    ?ib ?ip ?op (fun _ _ _ h1 h2 h3 => h2 (h1 h3)) (fun B1 l o o' _ h1 h2 h3 => h3.put o' h1 h2) S ?it ?a₁ ?assign ?body ?done
  case assign =>
    intro l y W K hK
    gi_wp2
    exact hK
  case ib => exact fun xs B1 B2 hs h hb => ⟨h.F.below hb, h.X.below hb, h.Q.below hb, h.C.below hb, h.O.below hb, below_next h.b h.b.size hb⟩
  case ip => exact fun xs B1 l o o' h hs h1 h2 => ⟨h.F.put o' h1 h2, h.X.put o' h1 h2, h.Q.put o' h1 h2, h.C.put o' h1 h2, h.O.put o' h1 h2, below_put o' h.b (by omega)⟩
  case op => exact fun y B1 l o o' h hs h1 h2 => ⟨h.1, h.2.put o' h1 h2⟩
  case it =>
    intro l J W hbW hJ hY h0
    exact callsIn_wide.2 (columns1_c A f c g1 g2 g3 l 8 W J hJ (fun pre y W' hs hj hlt hrt => hY pre y W' hs hj ⟨hlt, hrt⟩) (S.F.below hbW) hl hwd h0)
  case body =>
    intro l pre y W hsW hI hOk
    obtain ⟨k, v⟩ := y
    obtain ⟨hlt, hrt⟩ := hOk
    dsimp only at hlt hrt
    obtain ⟨A5, c5, rfl, hcs, hln⟩ := hrt.form
    rw [List.length_map] at hln ⊢
    have hcC := hI.C.cell (k := 0) rfl
    have hcX := hI.X.cell (k := 0) rfl
    have hcQ := hI.Q.cell (k := 0) rfl
    have huc : ∀ z ∈ colJ f k, U64 z := colJ_u64 hu k
    obtain ⟨m, hm⟩ : ∃ m, wide f = m := ⟨_, rfl⟩
    have HM := hid hm
    rw [hm] at hcC hlt ⊢
    clear hm
    have hbW := hI.b
    gi_wp2
    refine Rgb.round_region (by rintro ⟨a, w, h⟩; cases h.1) (L := [_, _, _, _, _, _]) (tail := [_, _]) (Rgb.grows _ 8) [some 17, some 18, some 19, some 20, some 21, some 22, some 23, none] 25 (by kernel_rfl) (by kernel_rfl) (by kernel_rfl) (by kernel_rfl) rfl (Rgb.grows_fair _ _) (Rgb.keep_drew _) (trivial) ?_
    refine Rgb.op_is (.slice (some ⟨w.heap.size + 1 + 1, 0, none⟩) m m) [] rfl rfl (by kernel_rfl) ?_ ?_
    · intro wx hb
      refine Rgb.from_nil fun T hT => ?_
      have g1 := (hb.cell (lt_of_cell hcC)).trans hcC
      go_wp2
      exact hT _ _ rfl (by first | exact Rgb.Keep.refl _ | exact below_of_dr hw2 | exact hw2 | exact (Below.refl _ _).alloc (Nat.le_refl _) _) (by first | rfl | exact congrArg _ (by decide))
    refine' Rgb.op_is _ [] rfl rfl (by kernel_rfl) ?_ ?_
    rotate_left
    · intro wx hb
      refine Rgb.from_nil fun T hT => ?_
      go_wp2
      refine hT _ _ rfl (by first | exact Rgb.Keep.refl _ | exact below_of_dr hw2 | exact hw2 | exact (Below.refl _ _).alloc (Nat.le_refl _) _) ?_
      simp only [Rgb.last, List.getElem?_toArray, List.getElem?_cons_succ, List.getElem?_cons_zero, Option.getD_some]
      rfl
    refine' Rgb.op_is _ [] rfl rfl (by kernel_rfl) ?_ ?_
    rotate_left
    · intro wx hb
      refine Rgb.from_nil fun T hT => ?_
      go_wp2
      refine hT _ _ rfl (by first | exact Rgb.Keep.refl _ | exact below_of_dr hw2 | exact hw2 | exact (Below.refl _ _).alloc (Nat.le_refl _) _) ?_
      simp only [Rgb.last, List.getElem?_toArray, List.getElem?_cons_succ, List.getElem?_cons_zero, Option.getD_some]
      rfl
    refine Rgb.op_is (.int .u64 x) [] rfl rfl (by kernel_rfl) ?_ ?_
    · intro wx hb
      refine Rgb.from_nil fun T hT => ?_
      have g1 := (hb.cell (lt_of_cell hcX)).trans hcX
      go_wp2
      exact hT _ _ rfl (by first | exact Rgb.Keep.refl _ | exact below_of_dr hw2 | exact hw2 | exact (Below.refl _ _).alloc (Nat.le_refl _) _) (by first | rfl | exact congrArg _ (by decide))
    refine Rgb.op_is (.int .u64 q) [] rfl rfl (by kernel_rfl) ?_ ?_
    · intro wx hb
      refine Rgb.from_nil fun T hT => ?_
      have g1 := (hb.cell (lt_of_cell hcQ)).trans hcQ
      go_wp2
      exact hT _ _ rfl (by first | exact Rgb.Keep.refl _ | exact below_of_dr hw2 | exact hw2 | exact (Below.refl _ _).alloc (Nat.le_refl _) _) (by first | rfl | exact congrArg _ (by decide))
    refine Rgb.op_is (.int .u64 (mEval (colJ f k) x q)) [2, 3, 4] rfl rfl (by kernel_rfl) ?_ ?_
    · intro wx hb
      refine Rgb.from_is (some 19) rfl rfl ?_
      refine Rgb.from_is (some 20) rfl rfl ?_
      refine Rgb.from_is (some 21) rfl rfl ?_
      refine Rgb.from_nil fun T hT => ?_
      have hcs2 := hcs.keep fun p hp => hb.cell hp
      go_wp2_with (go_at_call 50; refine (eval_c _ _ _ _ _ _ hcs2 hln huc hx hq).mono ?_; rintro e w5 ⟨rfl, hw5⟩)
      exact hT _ _ rfl (below_of_dr hw5) rfl
    refine Rgb.walk_nil [0, 1, 2, 3, 4, 5] (by kernel_rfl) ?_
    intro wx hb
    refine Rgb.from_is (some 17) rfl rfl ?_
    refine Rgb.from_is (some 18) rfl rfl ?_
    refine Rgb.from_is (some 19) rfl rfl ?_
    refine Rgb.from_is (some 20) rfl rfl ?_
    refine Rgb.from_is (some 21) rfl rfl ?_
    refine Rgb.from_is (some 22) rfl rfl ?_
    refine Rgb.from_nil ?_
    simp only [List.map, Act.put, List.setIfInBounds_toArray, List.set_cons_zero, List.set_cons_succ]
    have hI2 : Bw A f c g1 g2 g3 x q w.heap.size (w.heap.size + 1) (w.heap.size + 1 + 1 + 1) (w.heap.size + 1 + 1) w pre wx := ⟨hI.F.below hb, hI.X.below hb, hI.Q.below hb, hI.C.below hb, hI.O.below hb, below_next hI.b hI.b.size hb⟩
    have hfO := hI2.O.frozen k
    have hlk : k < (rowOf f x q pre).length := by rw [rowOf_len]; have := HM.out; omega
    obtain ⟨z0, hz0⟩ := get_of_lt hlk
    have hcO := hI2.O.cell (k := k) (u := .int .u64 z0) (by rw [List.getElem?_map, hz0]; rfl)
    clear hcC hcX hcQ huc hz0 hlk
    go_wp2
    have hlt2 : k < wide f := by have := HM.out; omega
    have hBw : Below w.heap.size w (wx.setCell ⟨w.heap.size + 1 + 1, k, none⟩ (.int .u64 (mEval (colJ f k) x q))) := hI2.b.setCell (p := ⟨w.heap.size + 1 + 1, k, none⟩) (Nat.le_trans (Nat.le_add_right _ 1) (Nat.le_add_right _ 1)) _
    have hFk : ∀ B1, Fit A f c g1 g2 g3 B1 → Fit A f c g1 g2 g3 wx → Fit A f c g1 g2 g3 (wx.setCell ⟨w.heap.size + 1 + 1, k, none⟩ (.int .u64 (mEval (colJ f k) x q))) := fun B1 _ h2 => ⟨h2.r1.far (by simp; omega) _, h2.r2.far (by simp; omega) _, h2.r3.far (by simp; omega) _, hA.below hBw⟩
    refine (show GoesOn _ _ _ _ _ _ _ from ⟨rfl, ?_, fun h => hFk _ h (h.below hb), ?_, ?_⟩)
    · exact (KeepsOthers.mk hb.size fun k o hk _ => (hb.block k (Array.getElem?_eq_some_iff.1 hk).1).trans hk).trans (KeepsOthers.setCell _ _ _)
    · exact Nat.le_trans hb.size (KeepsOthers.setCell wx ⟨w.heap.size + 1 + 1, k, none⟩ (.int .u64 (mEval (colJ f k) x q))).size
    · refine ⟨hFk _ hI2.F hI2.F, hI2.X.far (by simp <;> omega) _, hI2.Q.far (by simp <;> omega) _, hI2.C.far (by simp <;> omega) _, ?_, hBw⟩
      have := hI2.O.set k (.int .u64 (mEval (colJ f k) x q))
      rw [← List.map_set, rowOf_set f x q pre (k, _) hlt2] at this
      exact this
  case done =>
    intro D xs W hD hS hI hK
    have hcC := hI.C.cell (k := 0) rfl
    have hO := hI.O
    rw [rowOf_all _ _ _ _ hS] at hO
    have hlR := hid (show (mRow f x q).length = wide f by simp [mRow])
    have hBW := hI.b
    clear hI
    go_wp2
    refine ⟨by simp, .inl ⟨_, _, rfl, run_takeDeferred hK, ?_⟩⟩
    have hO2 := (hO.put (.deferred none) hK rfl).own (base := w.heap.size) (by omega) (by rw [List.length_map, hlR.out]; omega)
    rw [List.length_map, hlR.out] at hO2
    refine ⟨_, results_tmp (t := 6) rfl _ _ _, _, rfl, hO2, below_put _ hBW ?_⟩
    omega
end Go.Proofs.YtcojnjhffmhbiaaDoor
end
