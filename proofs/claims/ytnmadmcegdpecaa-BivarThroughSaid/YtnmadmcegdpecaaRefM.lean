/-
  What is wrong with places: the reference's.
  Weights: the reference's.
  The polynomial through points: the reference's.
-/
import Derived.Test.YtnmadmcegdpecaaWeiM
import Derived.Test.YtnmadmcegdpecaaPolM
import Derived.Test.YtnmadmcegdpecaaFixC
import Derived.Test.YtnmadmcegdpecaaEval

section
namespace Go.Proofs.Ytnmadmcegdpecaa
open Go.RowKit

attribute [local go_sem] Oper.semAt_some

/-- pair j and m has been looked at, when i and k come up. -/
def seen (i k j m : Nat) : Prop := j < i ∧ m < j ∨ j = i ∧ m < k
structure Wr (l : List Int) (q : Int) (i k : Nat) (nb : Bool) : Prop where
  bad : nb = true → ¬ Apart l q
  good : nb = false → ∀ j m a b, seen i k j m → l[j]? = some a → l[m]? = some b → Un (a - b) q
  ne : ∀ j m a b, seen i k j m → l[j]? = some a → l[m]? = some b → a % q ≠ b % q
theorem Wr.start (l : List Int) (q : Int) : Wr l q 0 0 false := ⟨fun h => by simp at h, fun _ j m a b h => by unfold seen at h; omega, fun j m a b h => by unfold seen at h; omega⟩
theorem Wr.row {l : List Int} {q : Int} {i : Nat} {nb : Bool} (h : Wr l q i i nb) : Wr l q (i + 1) 0 nb := by
  refine ⟨h.bad, fun hn j m a b hs => h.good hn j m a b ?_, fun j m a b hs => h.ne j m a b ?_⟩
  all_goals
    unfold seen at hs ⊢
    omega
theorem sub_zero_iff {a b q : Int} (h : okm q = true) : mSub a b q = 0 ↔ a % q = b % q := by
  rw [mSub_ok h]
  constructor
  · intro hz
    have : a = (a - b) + b := by omega
    rw [this, emod_add_congr (b := 0) (by rw [hz]; simp) rfl, Int.zero_add]
  · intro he
    rw [emod_sub_congr he rfl, Int.sub_self, Int.zero_emod]
theorem Wr.step {l : List Int} {q : Int} {i k : Nat} {nb : Bool} {x z : Int} (hq : okm q = true) (h : Wr l q i k nb) (hki : k < i) (hx : l[i]? = some x) (hz : l[k]? = some z) (hd : mSub x z q ≠ 0) : Wr l q i (k + 1) (nb || decide (¬ iErr (mSub x z q) q = 0)) := by
  have hne : x % q ≠ z % q := fun he => hd ((sub_zero_iff hq).2 he)
  have hun : iErr (mSub x z q) q = 0 ↔ Un (x - z) q := (iErr_zero hq).trans ⟨fun h => h.congr (by rw [mSub_ok hq, Int.emod_emod]), fun h => h.congr (by rw [mSub_ok hq, Int.emod_emod])⟩
  have hil := (List.getElem?_eq_some_iff.1 hx).1
  have hkl := (List.getElem?_eq_some_iff.1 hz).1
  refine ⟨fun hn => ?_, fun hn j m a b hs ha hb => ?_, fun j m a b hs ha hb => ?_⟩
  · simp only [Bool.or_eq_true, decide_eq_true_eq] at hn
    rcases hn with hn | hn
    · exact h.bad hn
    · intro hap
      have h1 := List.pairwise_iff_getElem.1 hap k i hkl hil hki
      obtain ⟨_, rfl⟩ := List.getElem?_eq_some_iff.1 hx
      obtain ⟨_, rfl⟩ := List.getElem?_eq_some_iff.1 hz
      exact hn (hun.2 h1)
  · simp only [Bool.or_eq_false_iff, decide_eq_false_iff_not, Classical.not_not] at hn
    by_cases hjm : j = i ∧ m = k
    · obtain ⟨rfl, rfl⟩ := hjm
      rw [hx] at ha
      rw [hz] at hb
      obtain rfl := Option.some.inj ha
      obtain rfl := Option.some.inj hb
      exact hun.1 hn.2
    · exact h.good hn.1 j m a b (by unfold seen at hs ⊢; omega) ha hb
  · by_cases hjm : j = i ∧ m = k
    · obtain ⟨rfl, rfl⟩ := hjm
      rw [hx] at ha
      rw [hz] at hb
      obtain rfl := Option.some.inj ha
      obtain rfl := Option.some.inj hb
      exact hne
    · exact h.ne j m a b (by unfold seen at hs ⊢; omega) ha hb
theorem Wr.nodup {l : List Int} {q : Int} {nb : Bool} (h : Wr l q l.length 0 nb) : (mods l q).Nodup := by
  refine List.pairwise_iff_getElem.2 fun i j hi hj hij => ?_
  simp only [mods, List.length_map] at hi hj
  simp only [mods, List.getElem_map]
  exact (h.ne j i l[j] l[i] (.inl ⟨hj, hij⟩) (List.getElem?_eq_getElem hj) (List.getElem?_eq_getElem hi)).symm
theorem Wr.end_ {l : List Int} {q : Int} {nb : Bool} (hq : okm q = true) (hl : l.length ≤ 1024) (h : Wr l q l.length 0 nb) : eAll l q = if nb then 5 else 0 := by
  have h0 : eUnlike l q = 0 := by unfold eUnlike; rw [if_pos hq, if_pos hl, if_pos h.nodup]
  cases nb with
  | true => exact eAll_no h0 (h.bad rfl)
  | false =>
    refine eAll_yes h0 (List.pairwise_iff_getElem.2 fun i j hi hj hij => ?_)
    exact h.good rfl j i l[j] l[i] (.inl ⟨hj, hij⟩) (List.getElem?_eq_getElem hj) (List.getElem?_eq_getElem hi)
theorem twice_all {l : List Int} {q : Int} (hq : okm q = true) (hl : l.length ≤ 1024) {i k : Nat} {x z : Int} (hki : k < i) (hx : l[i]? = some x) (hz : l[k]? = some z) (hd : mSub x z q = 0) : eAll l q = 6 := by
  have h6 : eUnlike l q = 6 := by
    unfold eUnlike
    rw [if_pos hq, if_pos hl, if_neg]
    intro hn
    obtain ⟨hil, rfl⟩ := List.getElem?_eq_some_iff.1 hx
    obtain ⟨hkl, rfl⟩ := List.getElem?_eq_some_iff.1 hz
    have := List.pairwise_iff_getElem.1 hn k i (by simpa [mods] using hkl) (by simpa [mods] using hil) hki
    simp only [mods, List.getElem_map] at this
    exact this ((sub_zero_iff hq).1 hd).symm
  rw [eAll_bad (by rw [h6]; decide), h6]

set_option maxRecDepth 100000 in
set_option maxHeartbeats 2000000 in
theorem rwrong_c (A : Option Addr) (l : List Int) (c : Nat) (q : Int) (w : World) (hA : Cells w A (l.map (.int .u64))) (hl : l.length ≤ 1000000) (hu : U64s l) (hq : U64 q) :
    Calls Try.prog 98 #[.slice A l.length c, .int .u64 q] w fun e w' => e = .returned (.int .i64 (eAll l q)) ∧ Dr w w' := by
  cases hk : okm q with
  | false =>
    have hu1 : eUnlike l q = 1 := by unfold eUnlike; rw [if_neg (by rw [hk]; decide)]
    have HE := hid (show eAll l q = 1 by rw [eAll_bad (by rw [hu1]; decide), hu1])
    clear hu1
    go_enter Try.func98, Try.ntmps98
    go_wp2_with (go_at_call 103; refine (rmay3_c _ hq _).mono ?_; rintro e w' ⟨rfl, rfl⟩; rw [hk])
    go_ret
    exact ⟨ret_int HE.out.symm, Dr.refl _⟩
  | true =>
    have h0 := okm_pos hk
    have h1 := okm_le hk
    by_cases hbig : l.length ≤ 1024
    · go_enter Try.func98, Try.ntmps98
      go_wp2_with (go_at_call 103; refine (rmay3_c _ hq _).mono ?_; rintro e w' ⟨rfl, rfl⟩; rw [hk])
      go_loopw [5, 6, 7, 8, 9, 10] (fun n i _ _ _ _ wr => ∃ (k : Nat) (nb : Bool), n = .bool nb ∧ i = .int .i64 k ∧ k ≤ l.length ∧ Hid (Wr l q k 0 nb) ∧ Dr w wr) (fun _ i _ _ _ _ _ => l.length - (intOf i).toNat)
      case atStart => exact ⟨0, false, rfl, rfl, by omega, Wr.start l q, Dr.refl _⟩
      case round =>
        obtain ⟨i, nb, rfl, rfl, hi, hW, hw⟩ := hrel
        by_cases hlt : i < l.length
        · obtain ⟨x, hx⟩ := get_of_lt hlt
          have hux := hu.at_ hx
          have HX := hid hx
          clear hx
          go_wp2
          generalize wr = wo at *
          go_loopw [5, 7, 8, 9, 10] (fun n k _ _ _ wr => ∃ (j : Nat) (nb : Bool), n = .bool nb ∧ k = .int .i64 j ∧ j ≤ i ∧ Hid (Wr l q i j nb) ∧ Dr w wr) (fun _ k _ _ _ _ => i - (intOf k).toNat)
          case atStart => exact ⟨0, nb, rfl, rfl, by omega, hW, hw⟩
          case round =>
            obtain ⟨k, n2, rfl, rfl, hki, hW2, hw2⟩ := hrel
            clear hW
            by_cases hltk : k < i
            · obtain ⟨z, hz⟩ := get_of_lt (l := l) (show k < l.length by omega)
              have huz := hu.at_ hz
              have hkl : k < l.length := by omega
              obtain ⟨o1, off1, rfl, hcx⟩ := (hA.dr hw2).at_map HX.out
              obtain ⟨o2, off2, he2, hcz⟩ := (hA.dr hw2).at_map hz
              simp only [Option.some.injEq, Addr.mk.injEq, and_true] at he2
              obtain ⟨rfl, rfl⟩ := he2
              by_cases hd : mSub x z q = 0
              · have HE := hid (twice_all hk hbig hltk HX.out hz hd)
                clear hz
                go_wp2
                go_quiet ((go_at_call 100; exact quiet_dr (rsub_c _ _ _ hux huz hq _)))
                go_wp2
                go_ret
                exact ⟨ret_int HE.out.symm, hw2.more _⟩
              · have hst := hW2.out.step hk hltk HX.out hz hd
                have hdn : (mSub x z q == 0) = false := beq_eq_false_iff_ne.2 hd
                have hum := mSub_u64 x z q
                obtain ⟨dd, hdd⟩ : ∃ d, mSub x z q = d := ⟨_, rfl⟩
                rw [hdd] at hst hdn hum
                have hsub := fun w => rsub_c x z q hux huz hq w
                rw [hdd] at hsub
                have HSUB := hid hsub
                have HST := hid hst
                clear hz hst hsub hdd hd
                cases n2 with
                | true =>
                  go_wp2
                  go_quiet ((go_at_call 100; exact quiet_dr (HSUB.out _)))
                  go_wp2_with (go_at_call 99; refine (rinv_c _ _ hum hq _).mono ?_; rintro e w5 ⟨rfl, hw5⟩)
                  go_roundw
                  case rel => exact ⟨k + 1, true, rfl, by go_num, by omega, by have := HST.out; rw [Bool.true_or] at this; exact this, (hw2.more _).trans hw5⟩
                  case measure => simp [intOf]; omega
                | false =>
                  by_cases hie : iErr dd q = 0
                  · have hie2 : (iErr dd q != 0) = false := by simp [hie]
                    have HS2 := HST.out
                    rw [Bool.false_or, decide_eq_false (by simpa using hie)] at HS2
                    have HS3 := hid HS2
                    clear HS2 hie
                    go_wp2
                    go_quiet ((go_at_call 100; exact quiet_dr (HSUB.out _)))
                    go_wp2_with (go_at_call 99; refine (rinv_c _ _ hum hq _).mono ?_; rintro e w5 ⟨rfl, hw5⟩)
                    go_roundw
                    case rel => exact ⟨k + 1, false, rfl, by go_num, by omega, HS3, (hw2.more _).trans hw5⟩
                    case measure => simp [intOf]; omega
                  · have hie2 : (iErr dd q != 0) = true := bne_iff_ne.2 hie
                    have HS2 := HST.out
                    rw [Bool.false_or, decide_eq_true (by simpa using hie)] at HS2
                    have HS3 := hid HS2
                    clear HS2 hie
                    go_wp2
                    go_quiet ((go_at_call 100; exact quiet_dr (HSUB.out _)))
                    go_wp2_with (go_at_call 99; refine (rinv_c _ _ hum hq _).mono ?_; rintro e w5 ⟨rfl, hw5⟩)
                    go_roundw
                    case rel => exact ⟨k + 1, true, rfl, by go_num, by omega, HS3, (hw2.more _).trans hw5⟩
                    case measure => simp [intOf]; omega
            · obtain rfl : k = i := by omega
              have HR := hid hW2.out.row
              go_wp2
              go_roundw
              case rel => exact ⟨k + 1, n2, rfl, by go_num, by omega, HR, hw2⟩
              case measure => simp [intOf]; omega
        · obtain rfl : i = l.length := by omega
          have HE := hid (hW.out.end_ hk hbig)
          cases nb with
          | true =>
            have HE2 := HE.out
            rw [if_pos rfl] at HE2
            have HE3 := hid HE2
            clear HE2
            go_wp2
            go_ret
            exact ⟨ret_int HE3.out.symm, hw⟩
          | false =>
            have HE2 := HE.out
            rw [if_neg (by decide)] at HE2
            have HE3 := hid HE2
            clear HE2
            go_wp2
            go_ret
            exact ⟨ret_int HE3.out.symm, hw⟩
    · have hu1 : eUnlike l q = 40 := by unfold eUnlike; rw [if_pos hk, if_neg hbig]
      have HE := hid (show eAll l q = 40 by rw [eAll_bad (by rw [hu1]; decide), hu1])
      clear hu1
      go_enter Try.func98, Try.ntmps98
      go_wp2_with (go_at_call 103; refine (rmay3_c _ hq _).mono ?_; rintro e w' ⟨rfl, rfl⟩; rw [hk])
      go_ret
      exact ⟨ret_int HE.out.symm, Dr.refl _⟩

end Go.Proofs.Ytnmadmcegdpecaa
end

section
namespace Go.Proofs.Ytnmadmcegdpecaa
open Go.RowKit

attribute [local go_sem] Oper.semAt_some

theorem but_take_ne {l : List Int} {z : Int} {k i : Nat} (hz : l[k]? = some z) (h : k ≠ i) : but (l.take (k + 1)) i = but (l.take k) i ++ [z] := by
  have hk := (List.getElem?_eq_some_iff.1 hz).1
  rw [take_snoc' hz, but_ne (by rw [List.length_take]; omega)]
theorem but_take_eq {l : List Int} {z : Int} {k i : Nat} (hz : l[k]? = some z) (h : k = i) : but (l.take (k + 1)) i = but (l.take k) i := by
  have hk := (List.getElem?_eq_some_iff.1 hz).1
  rw [take_snoc' hz, but_eq (by rw [List.length_take]; omega)]
theorem wAll_ref {l : List Int} {y q : Int} (hk : okm q = true) (ha : Apart l q) {i : Nat} {x : Int} (hx : l[i]? = some x) : (wAll l y q)[i]? = some (wRef (but l i) x y q) := by
  have hi := (List.getElem?_eq_some_iff.1 hx).1
  unfold wAll
  rw [List.getElem?_map, List.getElem?_range hi, Option.map_some, weights_same hk ha y hx]
theorem eAll_apart {l : List Int} {q : Int} (h : eAll l q = 0) : okm q = true ∧ Apart l q := by
  by_cases h0 : eUnlike l q = 0
  · refine ⟨unlike_okm h0, ?_⟩
    by_cases ha : Apart l q
    · exact ha
    · rw [eAll_no h0 ha] at h; omega
  · rw [eAll_bad h0] at h; exact absurd h h0

set_option maxRecDepth 100000 in
set_option maxHeartbeats 2000000 in
theorem rweights_c (A : Option Addr) (l : List Int) (c : Nat) (at_ q : Int) (w : World) (hA : Cells w A (l.map (.int .u64))) (hl : l.length ≤ 1000000) (hu : U64s l) (hat : U64 at_) (hq : U64 q) :
    Calls Try.prog 55 #[.slice A l.length c, .int .u64 at_, .int .u64 q] w (NewTwo (wList l at_ q) (eAll l q) w) := by
  by_cases he : eAll l q = 0
  · obtain ⟨hk, hap⟩ := eAll_apart he
    have hwl : wList l at_ q = wAll l at_ q := by unfold wList; rw [if_pos he]
    have HE := hid (⟨he, hap, hwl⟩ : _ ∧ _ ∧ _)
    have hnb : ((0 : Int) != 0) = false := by decide
    clear he hap hwl
    go_enter Try.func55, Try.ntmps55
    go_wp2_with (go_at_call 98; refine (rwrong_c A l c q _ hA hl hu hq).mono ?_; rintro e w2 ⟨rfl, hw2⟩; rw [HE.out.1])
    have hb2 : Below w.heap.size w w2 := below_of_dr hw2
    go_loopw [9, 10, 11, 12, 13, 14] (fun o i _ _ _ _ wr => ∃ k : Nat, i = .int .i64 k ∧ k ≤ l.length ∧ Own wr w.heap.size 23 o (((wAll l at_ q).take k).map (.int .u64)) ∧ Below w.heap.size w wr) (fun _ i _ _ _ _ _ => l.length - (intOf i).toNat)
    case atStart => exact ⟨0, rfl, by omega, by simpa using Own.nil w2 w.heap.size 23, hb2⟩
    case round =>
      obtain ⟨i, rfl, hi, hown, hb⟩ := hrel
      clear hw2 hb2
      by_cases hlt : i < l.length
      · obtain ⟨x, hx⟩ := get_of_lt hlt
        have hux := hu.at_ hx
        have hAr := hA.keep fun p hp => hb.cell hp
        have hz2 := wAll_ref (y := at_) hk HE.out.2.1 hx
        have hs : ∀ r, wRef (but l i) x at_ q = r → ((wAll l at_ q).take i).map (Value.int .u64) ++ [Value.int .u64 r] = ((wAll l at_ q).take (i + 1)).map (Value.int .u64) := fun r hr => by
          rw [take_snoc' hz2, hr]; simp
        have hlen : (((wAll l at_ q).take i).map (Value.int .u64)).length = i := by simp [wAll]; omega
        have HX := hid (⟨hx, hs, hlen⟩ : _ ∧ _ ∧ _)
        clear hx hz2 hs hlen
        go_wp2_with (go_at_call 80; refine (radd_c 1 0 q ⟨by decide, by decide⟩ ⟨by decide, by decide⟩ hq _).mono ?_; rintro e w3 ⟨rfl, hw3⟩)
        generalize wr = wo at *
        go_loopw [11, 12, 13, 14] (fun v k _ _ wr => ∃ j : Nat, k = .int .i64 j ∧ j ≤ l.length ∧ v = .int .u64 (wRef (but (l.take j) i) x at_ q) ∧ Dr wo wr) (fun _ k _ _ _ => l.length - (intOf k).toNat)
        case atStart => exact ⟨0, rfl, by omega, by rw [List.take_zero, but_nil, wRef_nil], hw3⟩
        case round =>
          obtain ⟨k, rfl, hk1, rfl, hw4⟩ := hrel
          clear hw3
          by_cases hltk : k < l.length
          · obtain ⟨z, hz⟩ := get_of_lt hltk
            have huz := hu.at_ hz
            by_cases hki : k = i
            · have hst := hid (but_take_eq hz hki)
              have hki2 : ((k : Int) == (i : Int)) = true := by simp [hki]
              have hki3 : (k == i) = true := by simp [hki]
              clear hz
              go_wp2
              go_roundw
              case rel => exact ⟨k + 1, by go_num, by omega, by rw [hst.out], hw4⟩
              case measure => simp [intOf]; omega
            · have hst := but_take_ne hz hki
              have hki2 : ((k : Int) == (i : Int)) = false := by simp; omega
              have hki3 : (k == i) = false := by simp; omega
              have hAw := hAr.dr hw4
              obtain ⟨o1, off1, rfl, hcx⟩ := hAw.at_map HX.out.1
              obtain ⟨o2, off2, he2, hcz⟩ := hAw.at_map hz
              simp only [Option.some.injEq, Addr.mk.injEq, and_true] at he2
              obtain ⟨rfl, rfl⟩ := he2
              have hsn := wRef_snoc (but (l.take k) i) z x at_ q
              rw [← hst] at hsn
              have hur := wRef_u64 (but (l.take k) i) x at_ q
              have HST := hid hsn
              have huv := iVal_u64 (mSub x z q) q
              have hum := mSub_u64 x z q
              generalize wRef (but (l.take k) i) x at_ q = r at *
              clear hst hz hsn hAw
              go_wp2
              go_quiet (first | (go_at_call 100; exact quiet_dr (rsub_c _ _ _ hux huz hq _)) | (go_at_call 99; exact quiet_dr (rinv_c _ _ hum hq _)))
              go_wp2_with (first | (go_at_call 100; refine (rsub_c _ _ _ hat huz hq _).mono ?_; rintro e w5 ⟨rfl, hw5⟩) | (go_at_call 78; refine (rmul_c _ _ _ (by first | exact mSub_u64 _ _ _ | exact hur) (by first | exact huv | exact mMul_u64 _ _ _) hq _).mono ?_; rintro e w6 ⟨rfl, hw6⟩; replace hw5 := Dr.trans hw5 hw6; clear hw6))
              go_roundw
              case rel => exact ⟨k + 1, by go_num, by omega, by rw [HST.out], (hw4.more _).trans hw5⟩
              case measure => simp [intOf]; omega
          · obtain rfl : k = l.length := by omega
            have hs := HX.out.2.1 _ (show wRef (but l i) x at_ q = wRef (but (l.take l.length) i) x at_ q by rw [List.take_length])
            generalize wRef (but (l.take l.length) i) x at_ q = r at *
            have HS := hid hs
            clear hs
            have hown4 := hown.dr hw4
            have hb4 := below_dr hb hw4
            go_wp2_with (at_builtin; refine wpList_push elt_u64 _ rfl _ _ rfl w.heap.size hown4 rfl (.int .u64 r) rfl rfl (by rw [HX.out.2.2]; omega) (by rw [HX.out.2.2]; omega) hb4.size ?_; intro v' w5 hown5 _ hb5)
            go_roundw
            case rel =>
              rw [HS.out] at hown5
              exact ⟨i + 1, by go_num, by omega, hown5, hb4.trans hb5⟩
            case measure => simp [intOf]; omega
      · obtain rfl : i = l.length := by omega
        go_wp2
        go_ret2
        rw [HE.out.2.2, HE.out.1]
        rw [List.take_of_length_le (by simp [wAll])] at hown
        exact ⟨_, rfl, hown, hb⟩
  · have hbn : (eAll l q != 0) = true := bne_iff_ne.2 he
    have hw0 : wList l at_ q = [] := by unfold wList; rw [if_neg he]
    have HE := hid hw0
    clear hw0
    go_enter Try.func55, Try.ntmps55
    go_wp2_with (go_at_call 98; refine (rwrong_c A l c q _ hA hl hu hq).mono ?_; rintro e w2 ⟨rfl, hw2⟩)
    go_ret2
    rw [HE.out]
    exact ⟨_, rfl, Own.nil _ _ _, below_of_dr hw2⟩

end Go.Proofs.Ytnmadmcegdpecaa
end

section
namespace Go.Proofs.Ytnmadmcegdpecaa
open Go.RowKit

attribute [local go_sem] Oper.semAt_some

theorem rOut_u64 (xs ys : List Int) (q : Int) : ∀ k, U64s (rOut xs ys q k)
  | 0 => fun z hz => by cases hz
  | k + 1 => pSum_u64 _ _ _
theorem rOut_step {xs ys : List Int} {k : Nat} {x y : Int} (h : xs[k]? = some x) (h' : ys[k]? = some y) (q : Int) : rOut xs ys q (k + 1) = pSum (rOut xs ys q k) (pScale (pAll (xs.take k) q) (mMul (mSub y (mEval (rOut xs ys q k) x q) q) (iVal (mEval (pAll (xs.take k) q) x q) q) q) q) q := by
  rw [rOut, List.getD_eq_getElem?_getD, List.getD_eq_getElem?_getD, h, h']; rfl
theorem pAll_zero {q : Int} (h : okm q = true) : pAll ([] : List Int) q = [mAdd 1 0 q] := by
  unfold pAll; rw [mAdd_ok h]; rfl

set_option maxRecDepth 100000 in
set_option maxHeartbeats 2000000 in
theorem rthrough_c (A B : Option Addr) (l m : List Int) (c d : Nat) (q : Int) (w : World) (hA : Cells w A (l.map (.int .u64))) (hB : Cells w B (m.map (.int .u64))) (hl : l.length ≤ 100000) (hl' : m.length ≤ 100000) (hu : U64s l) (hu' : U64s m) (hq : U64 q) :
    Calls Try.prog 57 #[.slice A l.length c, .slice B m.length d, .int .u64 q] w (NewTwo (tVal l m q) (tErr l m q) w) := by
  by_cases hlm : l.length = m.length
  · have hln : ((l.length : Int) != (m.length : Int)) = false := by simp [hlm]
    have hln2 : (l.length != m.length) = false := by simp [hlm]
    have hte : tErr l m q = eAll l q := by unfold tErr; rw [if_pos hlm]
    by_cases he : eAll l q = 0
    · obtain ⟨hk, hap⟩ := eAll_apart he
      have htv : tVal l m q = rOut l m q l.length := by rw [tVal_ok (by rw [hte, he]), through_same hk m hap]
      rw [he] at hte
      have HE := hid (⟨he, hte, htv, hlm⟩ : _ ∧ _ ∧ _ ∧ _)
      have hnb : ((0 : Int) != 0) = false := by decide
      have hp0 := hid (pAll_zero hk)
      clear he hte htv hap hlm
      go_enter Try.func57, Try.ntmps57
      go_wp2_with (first | (go_at_call 103; refine (rmay3_c _ hq _).mono ?_; rintro e w' ⟨rfl, rfl⟩; rw [hk]) | (go_at_call 98; refine (rwrong_c A l c q _ hA (by omega) hu hq).mono ?_; rintro e w2 ⟨rfl, hw2⟩; rw [HE.out.1]) | (go_at_call 80; refine (radd_c 1 0 q ⟨by decide, by decide⟩ ⟨by decide, by decide⟩ hq _).mono ?_; rintro e w3 ⟨rfl, hw3⟩))
      have hb3 : Below w.heap.size w w3 := below_dr (below_of_dr hw2) hw3
      have hr4 := row1_new w3 [.int .u64 (mAdd 1 0 q)] 23
      have hb4 := below_next hb3 hb3.size (below_alloc w3 (.cells #[.int .u64 (mAdd 1 0 q)] 23))
      simp only [List.toArray] at hr4
      go_loopw [9, 10, 11, 12, 13, 14] (fun o v i _ _ _ wr => ∃ k : Nat, i = .int .i64 k ∧ k ≤ l.length ∧ Own wr w.heap.size 23 o ((rOut l m q k).map (.int .u64)) ∧ (∃ C cc, v = .slice C (pAll (l.take k) q).length cc ∧ Cells wr C ((pAll (l.take k) q).map (.int .u64))) ∧ Below w.heap.size w wr) (fun _ _ i _ _ _ _ => l.length - (intOf i).toNat)
      case atStart => exact ⟨0, rfl, by omega, by simpa [rOut] using Own.nil _ _ _, ⟨_, _, by rw [List.take_zero, hp0.out]; rfl, by rw [List.take_zero, hp0.out]; exact hr4.cells⟩, hb4⟩
      case round =>
        obtain ⟨k, rfl, hk1, hown, ⟨C, cc, rfl, hC⟩, hb⟩ := hrel
        clear hr4 hw2 hw3 hb3 hb4
        have hpu := pAll_u64 hk (l.take k)
        by_cases hlt : k < l.length
        · obtain ⟨x, hx⟩ := get_of_lt hlt
          have hkm : k < m.length := by have := HE.out.2.2.2; omega
          obtain ⟨y, hy⟩ := get_of_lt hkm
          have hux := hu.at_ hx
          have huy := hu'.at_ hy
          obtain ⟨o1, off1, rfl, hcx⟩ := (hA.keep fun p hp => hb.cell hp).at_map hx
          obtain ⟨o2, off2, rfl, hcy⟩ := (hB.keep fun p hp => hb.cell hp).at_map hy
          have hpl : (pAll (l.take k) q).length = k + 1 := by rw [(pAll_is hk _).1, List.length_take]; omega
          have hst := pAll_step hx q
          have hsr := rOut_step hx hy q
          have hol := rOut_len hk l m k hk1
          have hou := rOut_u64 l m q k
          have hue := mEval_u64 (pAll (l.take k) q) x q
          have hui := iVal_u64 (mEval (pAll (l.take k) q) x q) q
          have hueo := mEval_u64 (rOut l m q k) x q
          generalize pAll (l.take k) q = P at *
          obtain ⟨O, hO⟩ : ∃ O, rOut l m q k = O := ⟨_, rfl⟩
          rw [hO] at hown hol hou hueo hsr
          obtain ⟨A6, c6, rfl, hA6⟩ := hown.form
          rw [List.length_map]
          have HS := hid (⟨hst, hsr, hpl, hol⟩ : _ ∧ _ ∧ _ ∧ _)
          clear hst hsr hpl hol hx hy hO hown
          go_wp2_with (first | (go_at_call 68; refine (reval_c C P cc x q _ hC (by rw [HS.out.2.2.1]; omega) hpu hux hq).mono ?_; rintro e w5 ⟨rfl, hw5⟩) | (go_at_call 99; refine (rinv_c _ _ hue hq _).mono ?_; rintro e w6 ⟨rfl, hw6⟩))
          have hw56 := hw5.trans hw6
          have hcy6 := (hw56.cell _).trans hcy
          have hcx6 := (hw56.cell _).trans hcx
          have hA66 := hA6.dr hw56
          have hC6 := hC.dr hw56
          clear hcx hcy hA6 hC hw5 hw6
          generalize iVal (mEval P x q) q = v at *
          go_quiet (first | (go_at_call 68; exact quiet_dr (reval_c A6 O c6 x q _ (hA66.drewN _) (by rw [HS.out.2.2.2]; omega) hou hux hq)) | (go_at_call 100; exact quiet_dr (rsub_c _ _ _ huy hueo hq _)) | (go_at_call 78; exact quiet_dr (rmul_c _ _ _ (mSub_u64 _ _ _) hui hq _)))
          obtain ⟨K, hK⟩ : ∃ K, mMul (mSub y (mEval O x q) q) v q = K := ⟨_, rfl⟩
          have hsl : (pScale P K q).length = k + 1 := by rw [scale_len hk, HS.out.2.2.1]
          have hsu := pScale_u64 P K q
          have huK : U64 K := by rw [← hK]; exact mMul_u64 _ _ _
          have hsr := HS.out.2.1
          rw [hK] at hsr ⊢
          obtain ⟨S, hS⟩ : ∃ S, pScale P K q = S := ⟨_, rfl⟩
          rw [hS] at hsl hsu hsr
          have HT := hid (⟨hS, hsl, hsr⟩ : _ ∧ _ ∧ _)
          clear hK hsl hsr hS
          go_wp2_with (fail)
          refine (rscale_c C P cc K q _ (hC6.drewN _) (by rw [HS.out.2.2.1]; omega) hpu huK hq).mono ?_
          rintro e w7 ⟨v7, rfl, hown7, hb7⟩
          rw [HT.out.1] at hown7
          obtain ⟨A7, c7, rfl, hA7⟩ := hown7.form
          rw [List.length_map]
          go_wp2_with (fail)
          refine (rsum_c A6 A7 O S c6 c7 q _ ((hA66.drewN _).keep fun p hp => hb7.cell hp) hA7 (by rw [HS.out.2.2.2]; omega) (by rw [HT.out.2.1]; omega) hou hsu hq).mono ?_
          rintro e w8 ⟨v8, rfl, hown8, hb8⟩
          rw [← HT.out.2.2] at hown8
          have hbq : Below w.heap.size w _ := below_next (below_dr (below_dr hb hw56) ⟨_, rfl⟩) (below_dr hb hw56).size hb7
          have hb8w := below_next hbq hbq.size hb8
          have hcx7 := (hb7.cell (lt_of_cell hcx6)).trans hcx6
          have hcx8 := (hb8.cell (lt_of_cell hcx7)).trans hcx7
          have hC7 := (hC6.drewN _).keep fun p hp => hb7.cell hp
          have hC8 := hC7.keep fun p hp => hb8.cell hp
          have hown8w := hown8.from_ hbq.size
          clear hcx7 hC7 hb7 hown7 hA7 hA66 hcy6 hcx6 hC6 hb8 hown8 hbq hw56
          go_wp2_with (go_at_call 100; refine (rsub_c 0 _ _ ⟨by decide, by decide⟩ hux hq _).mono ?_; rintro e w9 ⟨rfl, hw9⟩)
          have hb9 := below_dr hb8w hw9
          have hr9 := row1_new w9 [.int .u64 (mSub 0 x q), .int .u64 1] 23
          have hC9 := (hC8.dr hw9).keep fun p hp => (below_alloc w9 (.cells #[.int .u64 (mSub 0 x q), .int .u64 1] 23)).cell hp
          have hown9 := (hown8w.dr hw9).alloc (.cells #[.int .u64 (mSub 0 x q), .int .u64 1] 23)
          have hb10 := below_next hb9 hb9.size (below_alloc w9 (.cells #[.int .u64 (mSub 0 x q), .int .u64 1] 23))
          refine (rtimes_c C _ P [mSub 0 x q, 1] cc 2 q _ hC9 hr9.cells (by rw [HS.out.2.2.1]; omega) (by simp) hpu (u64_pair x q) hq).mono ?_
          rintro e w11 ⟨v11, rfl, hown11, hb11⟩
          obtain ⟨A11, c11, rfl, hA11⟩ := hown11.form
          rw [List.length_map, ← HS.out.1]
          rw [← HS.out.1] at hA11
          have hown12 := hown9.below hb11
          have hb12 := below_next hb10 hb10.size hb11
          clear hown11 hr9 hC9 hC8 hown9 hb10 hb11 hb9 hw9 hown8w hcx8
          go_wp2
          go_roundw
          case rel => exact ⟨k + 1, by go_num, by omega, hown12, ⟨_, _, rfl, hA11⟩, hb12⟩
          case measure => simp [intOf]; omega
        · obtain rfl : k = l.length := by omega
          clear hC hpu
          go_wp2
          go_ret2
          rw [HE.out.2.1, HE.out.2.2.1]
          exact ⟨_, rfl, hown, hb⟩
    · have hbn : (eAll l q != 0) = true := bne_iff_ne.2 he
      have hw0 : tVal l m q = [] := tVal_bad (by rw [hte]; exact he)
      have HE := hid (⟨hte, hw0⟩ : _ ∧ _)
      cases hk : okm q with
      | true =>
        clear hte hw0 he hlm
        go_enter Try.func57, Try.ntmps57
        go_wp2_with (first | (go_at_call 103; refine (rmay3_c _ hq _).mono ?_; rintro e w' ⟨rfl, rfl⟩; rw [hk]) | (go_at_call 98; refine (rwrong_c A l c q _ hA (by omega) hu hq).mono ?_; rintro e w2 ⟨rfl, hw2⟩))
        go_ret2
        rw [HE.out.1, HE.out.2]
        exact ⟨_, rfl, Own.nil _ _ _, below_of_dr hw2⟩
      | false =>
        have hu1 : eUnlike l q = 1 := by unfold eUnlike; rw [if_neg (by rw [hk]; decide)]
        have he1 : eAll l q = 1 := by rw [eAll_bad (by rw [hu1]; decide), hu1]
        rw [he1] at hte
        have HE := hid (⟨hte, hw0⟩ : _ ∧ _)
        clear hte hw0 he hlm hu1 hbn he1
        go_enter Try.func57, Try.ntmps57
        go_wp2_with (go_at_call 103; refine (rmay3_c _ hq _).mono ?_; rintro e w' ⟨rfl, rfl⟩; rw [hk])
        go_ret2
        rw [HE.out.1, HE.out.2]
        exact ⟨_, rfl, Own.nil _ _ _, Below.refl _ _⟩
  · have hln : ((l.length : Int) != (m.length : Int)) = true := by simp; omega
    have hln2 : (l.length != m.length) = true := by simp; omega
    have hea : tErr l m q = 1 := by unfold tErr; rw [if_neg hlm]
    have hw0 : tVal l m q = [] := tVal_bad (by rw [hea]; decide)
    have HE := hid (⟨hea, hw0⟩ : _ ∧ _)
    clear hea hw0 hlm
    cases hk : okm q with
    | true =>
      go_enter Try.func57, Try.ntmps57
      go_wp2_with (go_at_call 103; refine (rmay3_c _ hq _).mono ?_; rintro e w' ⟨rfl, rfl⟩; rw [hk])
      go_ret2
      rw [HE.out.1, HE.out.2]
      exact ⟨_, rfl, Own.nil _ _ _, Below.refl _ _⟩
    | false =>
      go_enter Try.func57, Try.ntmps57
      go_wp2_with (go_at_call 103; refine (rmay3_c _ hq _).mono ?_; rintro e w' ⟨rfl, rfl⟩; rw [hk])
      go_ret2
      rw [HE.out.1, HE.out.2]
      exact ⟨_, rfl, Own.nil _ _ _, Below.refl _ _⟩

end Go.Proofs.Ytnmadmcegdpecaa
end
