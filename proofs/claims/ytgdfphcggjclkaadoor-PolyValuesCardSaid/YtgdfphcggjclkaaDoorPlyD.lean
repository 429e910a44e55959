/-
  Parts of: XWei, XThr (by pick.py).
-/
import Derived.Test.YtgdfphcggjclkaaDoorPlyC
namespace Go.Proofs.YtgdfphcggjclkaaDoor
/-! From XWei. -/
open Go.RowKit

attribute [local go_sem] Oper.semAt_some

/-- a row of the call's own, and what is wrong. -/
def NewTwo (l : List Int) (err : Int) (w : World) (e : Ending) (w' : World) : Prop := ∃ v, e = .returned (.tuple #[v, .int .i64 err]) ∧ Own w' w.heap.size 23 v (l.map (.int .u64)) ∧ Below w.heap.size w w'

open Classical in
noncomputable def eApart (xs : List Int) (q : Int) : Int := if Apart xs q then 0 else 5
noncomputable def eAll (xs : List Int) (q : Int) : Int := if eUnlike xs q = 0 then eApart xs q else eUnlike xs q
theorem eAll_bad {xs : List Int} {q : Int} (h : eUnlike xs q ≠ 0) : eAll xs q = eUnlike xs q := by unfold eAll; rw [if_neg h]
theorem eAll_yes {xs : List Int} {q : Int} (h : eUnlike xs q = 0) (ha : Apart xs q) : eAll xs q = 0 := by unfold eAll eApart; rw [if_pos h, if_pos ha]
theorem eAll_no {xs : List Int} {q : Int} (h : eUnlike xs q = 0) (ha : ¬ Apart xs q) : eAll xs q = 5 := by unfold eAll eApart; rw [if_pos h, if_neg ha]
theorem unlike_okm {xs : List Int} {q : Int} (h : eUnlike xs q = 0) : okm q = true := by
  unfold eUnlike at h
  split at h
  · assumption
  · omega
theorem unlike_len {xs : List Int} {q : Int} (h : eUnlike xs q = 0) : xs.length ≤ 1024 := by
  unfold eUnlike at h
  split at h
  · split at h
    · assumption
    · omega
  · omega
noncomputable def wAll (xs : List Int) (y q : Int) : List Int := (List.range xs.length).map (wOne xs y q)
noncomputable def wList (xs : List Int) (y q : Int) : List Int := if eAll xs q = 0 then wAll xs y q else []
theorem wAll_at {xs : List Int} {y q : Int} {k : Nat} {x : Int} (h : xs[k]? = some x) : (wAll xs y q)[k]? = some (mMul (iVal (mProd (but xs k) x q) q) (mProd (but xs k) y q) q) := by
  have hk := (List.getElem?_eq_some_iff.1 h).1
  unfold wAll
  rw [List.getElem?_map, List.getElem?_range hk, Option.map_some, wOne, List.getD_eq_getElem?_getD, h]; rfl

set_option maxRecDepth 100000 in
set_option maxHeartbeats 2000000 in
theorem pweights_c (A : Option Addr) (l : List Int) (c : Nat) (at_ q : Int) (w : World) (hA : Cells w A (l.map (.int .u64))) (hl : l.length ≤ 1000000) (hu : U64s l) (hat : U64 at_) (hq : U64 q) :
    Calls Tryd.prog 20 #[.slice A l.length c, .int .u64 at_, .int .u64 q] w (NewTwo (wList l at_ q) (eAll l q) w) := by
  by_cases he0 : eUnlike l q = 0
  · have hk := unlike_okm he0
    have HE0 := hid he0
    have hnb : ((0 : Int) != 0) = false := by decide
    go_enter Tryd.func20, Tryd.ntmps20
    clear he0
    go_wp2_with (go_at_call 59; refine (unlike_c A l c q _ hA (by omega) hu hq).mono ?_; rintro e w2 ⟨rfl, hb2⟩; rw [HE0.out])
    go_loopw [9, 10, 11, 12, 13, 22] (fun o _ _ _ _ i wr => ∃ k : Nat, i = .int .i64 k ∧ k ≤ l.length ∧ Own wr w.heap.size 23 o (((wAll l at_ q).take k).map (.int .u64)) ∧ Below w.heap.size w wr ∧ Hid (∀ j x, j < k → l[j]? = some x → Un (pd (but l j) x) q)) (fun _ _ _ _ _ i _ => l.length - (intOf i).toNat)
    case atStart => exact ⟨0, rfl, by omega, by simpa using Own.nil w2 w.heap.size 23, hb2, fun j x h => by omega⟩
    case round =>
      obtain ⟨k, rfl, hk1, hown, hb, hall⟩ := hrel
      by_cases hlt : k < l.length
      · obtain ⟨x, hx⟩ := get_of_lt hlt
        have hA2 := hA.keep fun p hp => hb.cell hp
        have hsh := share_c A l c k x at_ q wr hA2 hl hx hu hat hq hk
        by_cases hun : Un (pd (but l k) x) q
        · have hie : iErr (mProd (but l k) x q) q = 0 := (iErr_zero hk).2 (hun.congr (by rw [mProd_emod hk, Int.emod_emod]))
          have hz2 := wAll_at (y := at_) (q := q) hx
          have hall2 : ∀ j x, j < k + 1 → l[j]? = some x → Un (pd (but l j) x) q := fun j y hj hy => by
            rcases Nat.lt_or_ge j k with h | h
            · exact hall.out j y h hy
            · obtain rfl : j = k := by omega
              rw [hx] at hy
              obtain rfl := Option.some.inj hy
              exact hun
          have hv := iVal_u64 (mProd (but l k) x q) q
          have hp := mProd_u64 hk (but l k) at_
          rw [hie] at hsh
          obtain ⟨pu, hpu⟩ : ∃ p, iVal (mProd (but l k) x q) q = p := ⟨_, rfl⟩
          obtain ⟨pv, hpv⟩ : ∃ p, mProd (but l k) at_ q = p := ⟨_, rfl⟩
          rw [hpu, hpv] at hsh hz2
          rw [hpu] at hv
          rw [hpv] at hp
          have hs : ((wAll l at_ q).take k).map (Value.int .u64) ++ [Value.int .u64 (mMul pu pv q)] = ((wAll l at_ q).take (k + 1)).map (Value.int .u64) := by
            rw [take_snocP hz2]; simp
          have hlen : (((wAll l at_ q).take k).map (Value.int .u64)).length = k := by simp [wAll]; omega
          have HS := hid (⟨hs, hlen, hall2, hsh⟩ : _ ∧ _ ∧ _ ∧ _)
          clear hs hlen hall2 hall hsh hz2 hx hun hie hpu hpv
          go_wp2_with (fail)
          refine HS.out.2.2.2.mono ?_
          rintro e w3 ⟨rfl, hb3⟩
          have hown3 := hown.below hb3
          have hb4 := below_next hb hb.size hb3
          go_wp2_with (first | (go_at_call 22; refine (mul_c _ _ _ hv hp hq _).mono ?_; rintro e w4 ⟨rfl, hw4⟩) | (at_builtin; refine wpList_push elt_u64 _ rfl _ _ rfl w.heap.size (hown3.dr hw4) rfl (.int .u64 (mMul pu pv q)) rfl rfl (by rw [HS.out.2.1]; omega) (by rw [HS.out.2.1]; omega) (by have := hb4.size; have := Dr.size hw4; omega) ?_; intro v' w5 hown5 _ hb5))
          go_roundw
          case rel =>
            rw [HS.out.1] at hown5
            exact ⟨k + 1, by go_num, by omega, hown5, (below_dr hb4 hw4).trans hb5, HS.out.2.2.1⟩
          case measure => simp [intOf]; omega
        · have hie : iErr (mProd (but l k) x q) q = 5 := iErr_five hk fun h => hun (h.congr (by rw [mProd_emod hk, Int.emod_emod]))
          have hea : eAll l q = 5 := eAll_no HE0.out fun ha => hun (apart_iff.1 ha k x hx)
          have hw0 : wList l at_ q = [] := by unfold wList; rw [hea, if_neg (by decide)]
          rw [hie] at hsh
          have HS := hid (⟨hsh, hea, hw0⟩ : _ ∧ _ ∧ _)
          clear hsh hea hw0 hx hie hun hall
          go_wp2_with (fail)
          refine HS.out.1.mono ?_
          rintro e w3 ⟨rfl, hb3⟩
          go_wp2
          go_ret2
          rw [HS.out.2.1, HS.out.2.2]
          exact ⟨_, rfl, Own.nil _ _ _, below_next hb hb.size hb3⟩
      · obtain rfl : k = l.length := by omega
        have ha : Apart l q := apart_iff.2 fun j x hx => hall.out j x (List.getElem?_eq_some_iff.1 hx).1 hx
        have HE := hid (eAll_yes HE0.out ha)
        clear ha
        go_wp2
        go_ret2
        unfold wList
        rw [HE.out, if_pos rfl]
        rw [List.take_of_length_le (by simp [wAll])] at hown
        exact ⟨_, rfl, hown, hb⟩
  · have hbn : (eUnlike l q != 0) = true := bne_iff_ne.2 he0
    have hea := eAll_bad he0
    have hw0 : wList l at_ q = [] := by unfold wList; rw [hea, if_neg he0]
    have HE := hid (⟨hea, hw0⟩ : _ ∧ _)
    clear hea hw0
    go_enter Tryd.func20, Tryd.ntmps20
    go_wp2_with (go_at_call 59; refine (unlike_c A l c q _ hA (by omega) hu hq).mono ?_; rintro e w2 ⟨rfl, hb2⟩)
    go_ret2
    rw [HE.out.1, HE.out.2]
    exact ⟨_, rfl, Own.nil _ _ _, hb2⟩

/-! From XThr. -/
open Go.RowKit

attribute [local go_sem] Oper.semAt_some

noncomputable def tErr (xs ys : List Int) (q : Int) : Int := if xs.length = ys.length then eAll xs q else 1
noncomputable def tVal (xs ys : List Int) (q : Int) : List Int := if tErr xs ys q = 0 then pOut xs ys q xs.length else []
theorem tVal_bad {xs ys : List Int} {q : Int} (h : tErr xs ys q ≠ 0) : tVal xs ys q = [] := by unfold tVal; rw [if_neg h]
theorem tVal_ok {xs ys : List Int} {q : Int} (h : tErr xs ys q = 0) : tVal xs ys q = pOut xs ys q xs.length := by unfold tVal; rw [if_pos h]

theorem pTimes_u64 (a b : List Int) (q : Int) : U64s (pTimes a b q) := by
  unfold pTimes
  split
  · intro z hz
    obtain ⟨n, _, rfl⟩ := List.mem_map.1 hz
    exact tAt_u64 _ _ _ _ _
  · intro z hz; cases hz
theorem pSum_u64 (a b : List Int) (q : Int) : U64s (pSum a b q) := by
  unfold pSum
  split
  · intro z hz
    obtain ⟨n, _, rfl⟩ := List.mem_map.1 hz
    exact mAdd_u64 _ _ _
  · intro z hz; cases hz
theorem pScale_u64 (a : List Int) (k q : Int) : U64s (pScale a k q) := by
  unfold pScale
  split
  · intro z hz
    obtain ⟨n, _, rfl⟩ := List.mem_map.1 hz
    exact mMul_u64 _ _ _
  · intro z hz; cases hz
theorem withoutL_u64 (c : List Int) (x q : Int) : U64s (withoutL c x q) := by
  intro z hz
  obtain ⟨n, _, rfl⟩ := List.mem_map.1 hz
  exact mEval_u64 _ _ _
theorem pAll_u64 {q : Int} (h : okm q = true) (xs : List Int) : U64s (pAll xs q) := by
  unfold pAll
  have key : ∀ (l a : List Int), U64s a → U64s (l.foldl (fun a x => pTimes a [mSub 0 x q, 1] q) a) := by
    intro l
    induction l with
    | nil => exact fun a h => h
    | cons x l ih => exact fun a _ => ih _ (pTimes_u64 _ _ _)
  refine key _ _ fun z hz => ?_
  rw [List.mem_singleton] at hz
  subst hz
  exact mod_u64 h
theorem pOut_u64 (xs ys : List Int) (q : Int) : ∀ k, U64s (pOut xs ys q k)
  | 0 => by
    intro z hz
    rw [pOut, List.mem_replicate] at hz
    obtain ⟨_, rfl⟩ := hz
    exact ⟨by omega, by omega⟩
  | k + 1 => pSum_u64 _ _ _
theorem pAll_step {xs : List Int} {k : Nat} {x : Int} (h : xs[k]? = some x) (q : Int) : pAll (xs.take (k + 1)) q = pTimes (pAll (xs.take k) q) [mSub 0 x q, 1] q := by
  rw [take_snocP h, pAll_snoc]
theorem pOut_step {xs ys : List Int} {k : Nat} {x y : Int} (h : xs[k]? = some x) (h' : ys[k]? = some y) (q : Int) : pOut xs ys q (k + 1) = pSum (pOut xs ys q k) (pScale (withoutL (pAll xs q) x q) (mMul (iVal (mProd (but xs k) x q) q) y q) q) q := by
  rw [pOut, List.getD_eq_getElem?_getD, List.getD_eq_getElem?_getD, h, h']; rfl
theorem u64_pair (a q : Int) : U64s [mSub 0 a q, 1] := by
  intro z hz
  simp only [List.mem_cons, List.not_mem_nil, or_false] at hz
  rcases hz with rfl | rfl
  · exact mSub_u64 _ _ _
  · exact ⟨by decide, by decide⟩

set_option maxRecDepth 100000 in
set_option maxHeartbeats 2000000 in
theorem pthrough_c (A B : Option Addr) (l m : List Int) (c d : Nat) (q : Int) (w : World) (hA : Cells w A (l.map (.int .u64))) (hB : Cells w B (m.map (.int .u64))) (hl : l.length ≤ 100000) (hl' : m.length ≤ 100000) (hu : U64s l) (hu' : U64s m) (hq : U64 q) :
    Calls Tryd.prog 30 #[.slice A l.length c, .slice B m.length d, .int .u64 q] w (NewTwo (tVal l m q) (tErr l m q) w) := by
  by_cases hlm : l.length = m.length
  · have hln : ((l.length : Int) != (m.length : Int)) = false := by simp [hlm]
    have hln2 : (l.length != m.length) = false := by simp [hlm]
    by_cases he0 : eUnlike l q = 0
    · have hk := unlike_okm he0
      have h0 := okm_pos hk
      have h1 := okm_le hk
      have HE0 := hid he0
      have HLM := hid hlm
      have hnb : ((0 : Int) != 0) = false := by decide
      clear he0 hlm
      go_enter Tryd.func30, Tryd.ntmps30
      go_wp2_with (first | (go_at_call 64; refine (pmay_c _ hq _).mono ?_; rintro e w' ⟨rfl, rfl⟩; rw [hk]) | (go_at_call 59; refine (unlike_c A l c q _ hA (by omega) hu hq).mono ?_; rintro e w2 ⟨rfl, hb2⟩; rw [HE0.out]))
      have hs2 := hb2.size
      have hr1 := row1_new w2 [.int .u64 (1 % q)] 23
      have hb3 := below_next hb2 hb2.size (below_alloc w2 (.cells #[.int .u64 (1 % q)] 23))
      simp only [List.toArray] at hr1
      generalize w2.alloc (.cells #[.int .u64 (1 % q)] 23) = w3 at *
      go_loopw [9, 11, 39] (fun v _ i wr => ∃ k : Nat, i = .int .i64 k ∧ k ≤ l.length ∧ (∃ C cc, v = .slice C (pAll (l.take k) q).length cc ∧ Cells wr C ((pAll (l.take k) q).map (.int .u64))) ∧ Below w.heap.size w wr) (fun _ _ i _ => l.length - (intOf i).toNat)
      case atStart => exact ⟨0, rfl, by omega, ⟨_, _, by first | rfl | simp [pAll], by simpa [pAll] using hr1.cells⟩, hb3⟩
      case round =>
        obtain ⟨k, rfl, hk1, ⟨C, cc, rfl, hC⟩, hb⟩ := hrel
        have hpl : (pAll (l.take k) q).length = k + 1 := by rw [(pAll_is hk _).1, List.length_take]; omega
        have hpu := pAll_u64 hk (l.take k)
        by_cases hlt : k < l.length
        · obtain ⟨x, hx⟩ := get_of_lt hlt
          obtain ⟨o2, off2, rfl, hcx⟩ := (hA.keep fun p hp => hb.cell hp).at_map hx
          have hux := hu.at_ hx
          have hst := pAll_step hx q
          generalize pAll (l.take k) q = P at *
          have HS := hid (⟨hst, hpl⟩ : _ ∧ _)
          clear hst hpl hx hr1
          go_wp2_with (go_at_call 25; refine (sub_c 0 _ _ ⟨by decide, by decide⟩ hux hq _).mono ?_; rintro e w4 ⟨rfl, hw4⟩)
          have hC4 := (hC.keep fun p hp => (below_of_dr hw4 (B := wr.heap.size)).cell hp)
          have hb4 := below_dr hb hw4
          have hr5 := row1_new w4 [.int .u64 (mSub 0 x q), .int .u64 1] 23
          have hC5 := hC4.keep fun p hp => (below_alloc w4 (.cells #[.int .u64 (mSub 0 x q), .int .u64 1] 23)).cell hp
          have hb5 := below_next hb4 hb4.size (below_alloc w4 (.cells #[.int .u64 (mSub 0 x q), .int .u64 1] 23))
          refine (ptimes_c C _ P [mSub 0 x q, 1] cc 2 q _ hC5 hr5.cells (by rw [HS.out.2]; omega) (by simp) hpu (u64_pair x q) hq).mono ?_
          rintro e w6 ⟨v, rfl, hown6, hb6⟩
          obtain ⟨C6, c6, rfl, hC6⟩ := hown6.form
          rw [List.length_map, ← HS.out.1]
          rw [← HS.out.1] at hC6
          have hb7 := below_next hb5 hb5.size hb6
          clear hown6 hr5 hC5 hC4
          go_wp2
          go_roundw
          case rel => exact ⟨k + 1, by go_num, by omega, ⟨_, _, rfl, hC6⟩, hb7⟩
          case measure => simp [intOf]; omega
        · obtain rfl : k = l.length := by omega
          rw [List.take_length] at hC hpl hpu ⊢
          generalize wr = wm at *
          have hsm := hb.size
          obtain ⟨P, hP⟩ : ∃ P, pAll l q = P := ⟨_, rfl⟩
          have hst0 := fun (k : Nat) (x y : Int) (h : l[k]? = some x) (h' : m[k]? = some y) => pOut_step h h' q
          rw [hP] at hC hpl hpu hst0 ⊢
          have HP := hid (⟨hpl, hst0⟩ : _ ∧ _)
          clear hP hpl hst0 hr1
          go_wp2_with (at_make; refine wpList_make_row elt_u64 _ rfl _ _ rfl .i64 .i64 _ _ l.length rfl rfl rfl rfl (by omega) (by omega) ?_; intro w4 hr4 hs4 hb4)
          go_loopw [12, 13, 14, 15, 16, 17, 56] (fun o _ _ _ _ _ i wr => ∃ k : Nat, i = .int .i64 k ∧ k ≤ l.length ∧ Own wr wm.heap.size 23 o ((pOut l m q k).map (.int .u64)) ∧ Below wm.heap.size wm wr ∧ Hid (∀ j x, j < k → l[j]? = some x → Un (pd (but l j) x) q)) (fun _ _ _ _ _ _ i _ => l.length - (intOf i).toNat)
          case atStart =>
            refine ⟨0, rfl, by omega, ?_, hb4, fun j x h => by omega⟩
            have h9 := hr4.own (Nat.le_refl _) (by rw [List.length_replicate]; omega)
            rw [List.length_replicate] at h9
            rw [pOut, List.map_replicate]
            exact h9
          case round =>
            obtain ⟨k, rfl, hk1, hown, hbm, hall⟩ := hrel
            have hb5 := below_next hb hsm hbm
            clear hr4 hb4 hs4
            by_cases hlt : k < l.length
            · obtain ⟨x, hx⟩ := get_of_lt hlt
              have hkm : k < m.length := by have := HLM.out; omega
              obtain ⟨y, hy⟩ := get_of_lt hkm
              have hux := hu.at_ hx
              have huy := hu'.at_ hy
              have hA5 := hA.keep fun p hp => hb5.cell hp
              have hC5 := hC.keep fun p hp => hbm.cell hp
              obtain ⟨o2, off2, rfl, hcx⟩ := hA5.at_map hx
              obtain ⟨o3, off3, rfl, hcy⟩ := (hB.keep fun p hp => hb5.cell hp).at_map hy
              have hsh := share_c _ l c k x 0 q wr hA5 (by omega) hx hu ⟨by decide, by decide⟩ hq hk
              have hol := pOut_len hk l m k
              have hou := pOut_u64 l m q k
              by_cases hun : Un (pd (but l k) x) q
              · have hie : iErr (mProd (but l k) x q) q = 0 := (iErr_zero hk).2 (hun.congr (by rw [mProd_emod hk, Int.emod_emod]))
                have hall2 : ∀ j x, j < k + 1 → l[j]? = some x → Un (pd (but l j) x) q := fun j y' hj hy' => by
                  rcases Nat.lt_or_ge j k with h | h
                  · exact hall.out j y' h hy'
                  · obtain rfl : j = k := by omega
                    rw [hx] at hy'
                    obtain rfl := Option.some.inj hy'
                    exact hun
                have hst := HP.out.2 k x y hx hy
                have hv := iVal_u64 (mProd (but l k) x q) q
                rw [hie] at hsh
                obtain ⟨pu, hpu2⟩ : ∃ p, iVal (mProd (but l k) x q) q = p := ⟨_, rfl⟩
                rw [hpu2] at hsh hv hst
                have hwl : (withoutL P x q).length = l.length := by simp [withoutL, HP.out.1]
                have hwu := withoutL_u64 P x q
                have hsl : (pScale (withoutL P x q) (mMul pu y q) q).length = l.length := by rw [scale_len hk, hwl]
                have hsu := pScale_u64 (withoutL P x q) (mMul pu y q) q
                obtain ⟨M, hM⟩ : ∃ M, pScale (withoutL P x q) (mMul pu y q) q = M := ⟨_, rfl⟩
                obtain ⟨O, hO⟩ : ∃ O, pOut l m q k = O := ⟨_, rfl⟩
                rw [hM] at hsl hsu hst
                rw [hO] at hown hol hou hst
                obtain ⟨A6, c6, rfl, hA6⟩ := hown.form
                rw [List.length_map]
                have HS := hid (⟨hall2, hsh, hst, hM, hwl, hsl, hol⟩ : _ ∧ _ ∧ _ ∧ _ ∧ _ ∧ _ ∧ _)
                clear hall2 hall hsh hst hM hwl hsl hol hx hy hun hie hpu2 hO hown
                go_wp2_with (fail)
                refine HS.out.2.1.mono ?_
                rintro e w7 ⟨rfl, hb7⟩
                have hA7 := hA6.keep fun p hp => hb7.cell hp
                have hC7 := hC5.keep fun p hp => hb7.cell hp
                have hcy7 := (hb7.cell (lt_of_cell hcy)).trans hcy
                have hbm7 := below_next hbm hbm.size hb7
                clear hA6 hC5 hcy hcx hA5
                go_upto_region 19 with (fail)
                refine Rgb.wp_region (l := [_, _, _, _, _, _, _, _, _, _, _, _, _, _, _, _]) (tail := [_]) (Rgb.grows _ 17) [some 72, some 73, some 74, some 75, some 76, some 77, some 78, some 79, some 80, some 81, some 82, some 83, some 84, some 85, some 86, some 87, some 12] 90 (by kernel_rfl) (by kernel_rfl) (by kernel_rfl) rfl (Rgb.grows_fair _ _) (Rgb.keep_drew _) (trivial) ?_
                refine' Rgb.op_is _ [] rfl rfl (by kernel_rfl) ?_ ?_
                rotate_left
                · intro wx hb
                  refine Rgb.from_nil fun T hT => ?_
                  go_wp2
                  refine hT _ _ rfl (by first | exact Rgb.Keep.refl _ | exact below_of_dr hw2 | exact hw2 | exact (Below.refl _ _).alloc (Nat.le_refl _) _) ?_
                  simp only [Rgb.last, List.getElem?_toArray, List.getElem?_cons_succ, List.getElem?_cons_zero, Option.getD_some]
                  rfl
                refine' Rgb.op_is _ [] rfl rfl (by kernel_rfl) ?_ ?_
                rotate_left
                · intro wx hb
                  refine Rgb.from_nil fun T hT => ?_
                  go_wp2
                  refine hT _ _ rfl (by first | exact Rgb.Keep.refl _ | exact below_of_dr hw2 | exact hw2 | exact (Below.refl _ _).alloc (Nat.le_refl _) _) ?_
                  simp only [Rgb.last, List.getElem?_toArray, List.getElem?_cons_succ, List.getElem?_cons_zero, Option.getD_some]
                  rfl
                refine' Rgb.op_is _ [] rfl rfl (by kernel_rfl) ?_ ?_
                rotate_left
                · intro wx hb
                  refine Rgb.from_nil fun T hT => ?_
                  go_wp2
                  refine hT _ _ rfl (by first | exact Rgb.Keep.refl _ | exact below_of_dr hw2 | exact hw2 | exact (Below.refl _ _).alloc (Nat.le_refl _) _) ?_
                  simp only [Rgb.last, List.getElem?_toArray, List.getElem?_cons_succ, List.getElem?_cons_zero, Option.getD_some]
                  rfl
                refine' Rgb.op_is _ [] rfl rfl (by kernel_rfl) ?_ ?_
                rotate_left
                · intro wx hb
                  refine Rgb.from_nil fun T hT => ?_
                  go_wp2
                  refine hT _ _ rfl (by first | exact Rgb.Keep.refl _ | exact below_of_dr hw2 | exact hw2 | exact (Below.refl _ _).alloc (Nat.le_refl _) _) ?_
                  simp only [Rgb.last, List.getElem?_toArray, List.getElem?_cons_succ, List.getElem?_cons_zero, Option.getD_some]
                  rfl
                refine Rgb.op_of (fun w' v => Own w' w7.heap.size 23 v ((withoutL P x q).map (.int .u64))) [1, 2, 3] rfl ?_ ?_ rfl (by kernel_rfl) ?_ ?_
                · exact fun w1 w2 v hk h => h.below hk
                · exact fun w1 w2 v hk h => h.below hk
                · intro wx hb
                  refine Rgb.from_is (some 73) rfl rfl ?_
                  refine Rgb.from_is (some 74) rfl rfl ?_
                  refine Rgb.from_is (some 75) rfl rfl ?_
                  refine Rgb.from_nil fun T hT => ?_
                  go_wp2_with (fail)
                  refine (without_c C P cc x q _ (hC7.keep fun p hp => hb.cell hp) (by rw [HP.out.1]; omega) (by rw [HP.out.1]; omega) hpu hux hq).mono ?_
                  rintro e w8 ⟨v, rfl, hown8, hb8⟩
                  go_wp2
                  exact hT _ _ rfl hb8 (hown8.from_ hb.size)
                refine' Rgb.op_is _ [] rfl rfl (by kernel_rfl) ?_ ?_
                rotate_left
                · intro wx hb
                  refine Rgb.from_nil fun T hT => ?_
                  go_wp2
                  refine hT _ _ rfl (by first | exact Rgb.Keep.refl _ | exact below_of_dr hw2 | exact hw2 | exact (Below.refl _ _).alloc (Nat.le_refl _) _) ?_
                  simp only [Rgb.last, List.getElem?_toArray, List.getElem?_cons_succ, List.getElem?_cons_zero, Option.getD_some]
                  rfl
                refine' Rgb.op_is _ [] rfl rfl (by kernel_rfl) ?_ ?_
                rotate_left
                · intro wx hb
                  refine Rgb.from_nil fun T hT => ?_
                  go_wp2
                  refine hT _ _ rfl (by first | exact Rgb.Keep.refl _ | exact below_of_dr hw2 | exact hw2 | exact (Below.refl _ _).alloc (Nat.le_refl _) _) ?_
                  simp only [Rgb.last, List.getElem?_toArray, List.getElem?_cons_succ, List.getElem?_cons_zero, Option.getD_some]
                  rfl
                refine' Rgb.op_is _ [] rfl rfl (by kernel_rfl) ?_ ?_
                rotate_left
                · intro wx hb
                  refine Rgb.from_nil fun T hT => ?_
                  go_wp2
                  refine hT _ _ rfl (by first | exact Rgb.Keep.refl _ | exact below_of_dr hw2 | exact hw2 | exact (Below.refl _ _).alloc (Nat.le_refl _) _) ?_
                  simp only [Rgb.last, List.getElem?_toArray, List.getElem?_cons_succ, List.getElem?_cons_zero, Option.getD_some]
                  rfl
                refine Rgb.op_is (.pointer (some ⟨o3, off3 + k, none⟩)) [6, 7] rfl rfl (by kernel_rfl) ?_ ?_
                · intro wx hb
                  refine Rgb.from_is (some 78) rfl rfl ?_
                  refine Rgb.from_is (some 79) rfl rfl ?_
                  refine Rgb.from_nil fun T hT => ?_
                  go_wp2
                  exact hT _ _ rfl (by first | exact Rgb.Keep.refl _ | exact below_of_dr hw2 | exact hw2 | exact (Below.refl _ _).alloc (Nat.le_refl _) _) (by first | rfl | exact congrArg _ (by decide))
                refine Rgb.op_is (.int .u64 y) [8] rfl rfl (by kernel_rfl) ?_ ?_
                · intro wx hb
                  refine Rgb.from_is (some 80) rfl rfl ?_
                  refine Rgb.from_nil fun T hT => ?_
                  have g1 := (hb.cell (lt_of_cell hcy7)).trans hcy7
                  go_wp2
                  exact hT _ _ rfl (by first | exact Rgb.Keep.refl _ | exact below_of_dr hw2 | exact hw2 | exact (Below.refl _ _).alloc (Nat.le_refl _) _) (by first | rfl | exact congrArg _ (by decide))
                refine' Rgb.op_is _ [] rfl rfl (by kernel_rfl) ?_ ?_
                rotate_left
                · intro wx hb
                  refine Rgb.from_nil fun T hT => ?_
                  go_wp2
                  refine hT _ _ rfl (by first | exact Rgb.Keep.refl _ | exact below_of_dr hw2 | exact hw2 | exact (Below.refl _ _).alloc (Nat.le_refl _) _) ?_
                  simp only [Rgb.last, List.getElem?_toArray, List.getElem?_cons_succ, List.getElem?_cons_zero, Option.getD_some]
                  rfl
                refine Rgb.op_is (.int .u64 (mMul pu y q)) [5, 9, 10] rfl rfl (by kernel_rfl) ?_ ?_
                · intro wx hb
                  refine Rgb.from_is (some 77) rfl rfl ?_
                  refine Rgb.from_is (some 81) rfl rfl ?_
                  refine Rgb.from_is (some 82) rfl rfl ?_
                  refine Rgb.from_nil fun T hT => ?_
                  go_wp2_with (go_at_call 22; refine (mul_c _ _ _ hv huy hq _).mono ?_; rintro e w8 ⟨rfl, hw8⟩)
                  exact hT _ _ rfl (below_of_dr hw8) rfl
                refine' Rgb.op_is _ [] rfl rfl (by kernel_rfl) ?_ ?_
                rotate_left
                · intro wx hb
                  refine Rgb.from_nil fun T hT => ?_
                  go_wp2
                  refine hT _ _ rfl (by first | exact Rgb.Keep.refl _ | exact below_of_dr hw2 | exact hw2 | exact (Below.refl _ _).alloc (Nat.le_refl _) _) ?_
                  simp only [Rgb.last, List.getElem?_toArray, List.getElem?_cons_succ, List.getElem?_cons_zero, Option.getD_some]
                  rfl
                refine Rgb.op_of (fun w' v => Own w' w7.heap.size 23 v (M.map (.int .u64))) [4, 11, 12] rfl ?_ ?_ rfl (by kernel_rfl) ?_ ?_
                · exact fun w1 w2 v hk h => h.below hk
                · exact fun w1 w2 v hk h => h.below hk
                · intro wx hb
                  refine Rgb.from_of (some 76) rfl rfl fun v76 h76 => ?_
                  refine Rgb.from_is (some 83) rfl rfl ?_
                  refine Rgb.from_is (some 84) rfl rfl ?_
                  refine Rgb.from_nil fun T hT => ?_
                  obtain ⟨A9, c9, rfl, g9⟩ := h76.form
                  rw [List.length_map]
                  go_wp2_with (fail)
                  refine (pscale_c A9 (withoutL P x q) c9 (mMul pu y q) q _ g9 (by rw [HS.out.2.2.2.2.1]; omega) hwu (mMul_u64 _ _ _) hq).mono ?_
                  rintro e w8 ⟨v, rfl, hown8, hb8⟩
                  rw [HS.out.2.2.2.1] at hown8
                  go_wp2
                  exact hT _ _ rfl hb8 (hown8.from_ hb.size)
                refine' Rgb.op_is _ [] rfl rfl (by kernel_rfl) ?_ ?_
                rotate_left
                · intro wx hb
                  refine Rgb.from_nil fun T hT => ?_
                  go_wp2
                  refine hT _ _ rfl (by first | exact Rgb.Keep.refl _ | exact below_of_dr hw2 | exact hw2 | exact (Below.refl _ _).alloc (Nat.le_refl _) _) ?_
                  simp only [Rgb.last, List.getElem?_toArray, List.getElem?_cons_succ, List.getElem?_cons_zero, Option.getD_some]
                  rfl
                refine Rgb.op_of (fun w' v => Own w' w7.heap.size 23 v ((pOut l m q (k + 1)).map (.int .u64))) [0, 13, 14] rfl ?_ ?_ rfl (by kernel_rfl) ?_ ?_
                · exact fun w1 w2 v hk h => h.below hk
                · exact fun w1 w2 v hk h => h.below hk
                · intro wx hb
                  refine Rgb.from_is (some 72) rfl rfl ?_
                  refine Rgb.from_of (some 85) rfl rfl fun v85 h85 => ?_
                  refine Rgb.from_is (some 86) rfl rfl ?_
                  refine Rgb.from_nil fun T hT => ?_
                  obtain ⟨A9, c9, rfl, g9⟩ := h85.form
                  rw [List.length_map]
                  go_wp2_with (fail)
                  refine (psum_c A6 A9 O M c6 c9 q _ (hA7.keep fun p hp => hb.cell hp) g9 (by rw [HS.out.2.2.2.2.2.2]; omega) (by rw [HS.out.2.2.2.2.2.1]; omega) hou hsu hq).mono ?_
                  rintro e w8 ⟨v, rfl, hown8, hb8⟩
                  rw [← HS.out.2.2.1] at hown8
                  go_wp2
                  exact hT _ _ rfl hb8 (hown8.from_ hb.size)
                refine Rgb.walk_nil [0, 1, 2, 3, 4, 5, 6, 7, 8, 9, 10, 11, 12, 13, 14, 15] (by kernel_rfl) ?_
                intro wx hb
                refine Rgb.from_is (some 72) rfl rfl ?_
                refine Rgb.from_is (some 73) rfl rfl ?_
                refine Rgb.from_is (some 74) rfl rfl ?_
                refine Rgb.from_is (some 75) rfl rfl ?_
                refine Rgb.from_of (some 76) rfl rfl fun v76 h76 => ?_
                refine Rgb.from_is (some 77) rfl rfl ?_
                refine Rgb.from_is (some 78) rfl rfl ?_
                refine Rgb.from_is (some 79) rfl rfl ?_
                refine Rgb.from_is (some 80) rfl rfl ?_
                refine Rgb.from_is (some 81) rfl rfl ?_
                refine Rgb.from_is (some 82) rfl rfl ?_
                refine Rgb.from_is (some 83) rfl rfl ?_
                refine Rgb.from_is (some 84) rfl rfl ?_
                refine Rgb.from_of (some 85) rfl rfl fun v85 h85 => ?_
                refine Rgb.from_is (some 86) rfl rfl ?_
                refine Rgb.from_of (some 87) rfl rfl fun v87 h87 => ?_
                refine Rgb.from_nil ?_
                simp only [List.map, Act.put, List.setIfInBounds_toArray, List.set_cons_zero, List.set_cons_succ]
                have hbm8 := below_next hbm7 hbm7.size hb
                have hs7 := hbm7.size
                clear hA7 hC7 hcy7
                go_wp2
                go_roundw
                case rel => exact ⟨k + 1, by go_num, by omega, h87.from_ hs7, hbm8, HS.out.1⟩
                case measure => simp [intOf]; omega
              · have hie : iErr (mProd (but l k) x q) q = 5 := iErr_five hk fun h => hun (h.congr (by rw [mProd_emod hk, Int.emod_emod]))
                have hea : tErr l m q = 5 := by unfold tErr; rw [if_pos HLM.out]; exact eAll_no HE0.out fun ha => hun (apart_iff.1 ha k x hx)
                have hw0 : tVal l m q = [] := tVal_bad (by rw [hea]; decide)
                rw [hie] at hsh
                have HS := hid (⟨hsh, hea, hw0⟩ : _ ∧ _ ∧ _)
                clear hsh hea hw0 hx hy hie hun hall hcy hol hou
                go_wp2_with (fail)
                refine HS.out.1.mono ?_
                rintro e w7 ⟨rfl, hb7⟩
                go_wp2
                go_ret2
                rw [HS.out.2.1, HS.out.2.2]
                exact ⟨_, rfl, Own.nil _ _ _, below_next hb5 hb5.size hb7⟩
            · obtain rfl : k = l.length := by omega
              have ha : Apart l q := apart_iff.2 fun j x hx => hall.out j x (List.getElem?_eq_some_iff.1 hx).1 hx
              have hte : tErr l m q = 0 := by unfold tErr; rw [if_pos HLM.out]; exact eAll_yes HE0.out ha
              have HE := hid (⟨hte, tVal_ok hte⟩ : _ ∧ _)
              clear ha hte hall
              go_wp2
              go_ret2
              rw [HE.out.1, HE.out.2]
              exact ⟨_, rfl, hown.from_ hsm, hb5⟩
    · have hbn : (eUnlike l q != 0) = true := bne_iff_ne.2 he0
      have hea : tErr l m q = eUnlike l q := by unfold tErr; rw [if_pos hlm]; exact eAll_bad he0
      have hw0 : tVal l m q = [] := tVal_bad (by rw [hea]; exact he0)
      cases hk : okm q with
      | true =>
        have HE := hid (⟨hea, hw0⟩ : _ ∧ _)
        clear hea hw0 he0 hlm
        go_enter Tryd.func30, Tryd.ntmps30
        go_wp2_with (first | (go_at_call 64; refine (pmay_c _ hq _).mono ?_; rintro e w' ⟨rfl, rfl⟩; rw [hk]) | (go_at_call 59; refine (unlike_c A l c q _ hA (by omega) hu hq).mono ?_; rintro e w2 ⟨rfl, hb2⟩))
        go_ret2
        rw [HE.out.1, HE.out.2]
        exact ⟨_, rfl, Own.nil _ _ _, hb2⟩
      | false =>
        have hu1 : eUnlike l q = 1 := by unfold eUnlike; rw [if_neg (by rw [hk]; decide)]
        rw [hu1] at hea
        have HE := hid (⟨hea, hw0⟩ : _ ∧ _)
        clear hea hw0 he0 hlm hu1 hbn
        go_enter Tryd.func30, Tryd.ntmps30
        go_wp2_with (go_at_call 64; refine (pmay_c _ hq _).mono ?_; rintro e w' ⟨rfl, rfl⟩; rw [hk])
        go_ret2
        rw [HE.out.1, HE.out.2]
        exact ⟨_, rfl, Own.nil _ _ _, Below.refl _ _⟩
  · have hln : ((l.length : Int) != (m.length : Int)) = true := by simp; omega
    have hln2 : (l.length != m.length) = true := by simp; omega
    have hea : tErr l m q = 1 := by unfold tErr; rw [if_neg hlm]
    have hw0 : tVal l m q = [] := tVal_bad (by rw [hea]; decide)
    have HE := hid (⟨hea, hw0⟩ : _ ∧ _)
    clear hea hw0 hlm
    cases hk : okm q with
    | true =>
      go_enter Tryd.func30, Tryd.ntmps30
      go_wp2_with (go_at_call 64; refine (pmay_c _ hq _).mono ?_; rintro e w' ⟨rfl, rfl⟩; rw [hk])
      go_ret2
      rw [HE.out.1, HE.out.2]
      exact ⟨_, rfl, Own.nil _ _ _, Below.refl _ _⟩
    | false =>
      go_enter Tryd.func30, Tryd.ntmps30
      go_wp2_with (go_at_call 64; refine (pmay_c _ hq _).mono ?_; rintro e w' ⟨rfl, rfl⟩; rw [hk])
      go_ret2
      rw [HE.out.1, HE.out.2]
      exact ⟨_, rfl, Own.nil _ _ _, Below.refl _ _⟩

end Go.Proofs.YtgdfphcggjclkaaDoor
