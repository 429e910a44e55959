/-
  RankWays: what the program does (the walk).
-/
import Derived.Test.YtcojnjhffmhbiaaDoorRnkQ1
import Derived.Test.YtcojnjhffmhbiaaDoorRnkQ2
import Derived.Test.YtcojnjhffmhbiaaDoorRnkQ3
import Derived.Test.YtcojnjhffmhbiaaDoorRnkQ4
import Derived.Test.YtcojnjhffmhbiaaDoorRnkQ5
import Derived.Test.YtcojnjhffmhbiaaDoorRnkQ6
import Derived.Test.YtcojnjhffmhbiaaDoorRnkQ7
import Derived.Deep.Cut
import Derived.Deep.DeepCutAuto
namespace Go.Proofs.YtcojnjhffmhbiaaDoor
open Go Go.RowKit Go.Maps Go.Shelf Go.Proofs

set_option maxRecDepth 100000 in
set_option maxHeartbeats 2000000 in
theorem rankWays_c (A : Option Addr) (a : List (List Int)) (ca : Nat) (i k x q : Int) (w : World)
    (hA : Grid w A a) (la : a.length ≤ 9223372036854775807) (ua : ∀ l ∈ a, U64s l) (_hi : I64 i) (_hk : I64 k) (hx : U64 x)
    (hq : U64 q) (hT : Tabs w) (hp : primeV q = true → Go.Psi.Pr q.toNat) [DecidableEq Lit] :
    Calls Tryd.prog 5 #[.slice A a.length ca, .int .i64 i, .int .i64 k, .int .u64 x, .int .u64 q] w fun e w' => e = .returned (.bool true) ∧ Below w.heap.size w w' := by
  go_enter Tryd.func5, Tryd.ntmps5
  go_wp2_with (fail)
  refine (works_c w hT).mono ?_
  rintro e w1 ⟨rfl, hb1⟩
  go_wp2_with (fail)
  have hr0 := row1_new w1 [.slice A a.length ca] 22
  simp only [List.toArray] at hr0
  have hb0 := below_next hb1 hb1.size (below_alloc w1 (.cells #[.slice A a.length ca] 22))
  have hG : Grids (w1.alloc (.cells #[.slice A a.length ca] 22)) (some ⟨w1.heap.size, 0, none⟩) [a] := by
    refine ⟨_, hr0.cells, rfl, fun i f hf => ?_⟩
    match i, hf with
    | 0, hf => obtain rfl := Option.some.inj hf; exact ⟨_, _, rfl, hA.below hb0, la⟩
    | i + 1, hf => simp at hf
  refine (large04_c _ [a] 1 _ hG (by simp)).mono ?_
  rintro e w2 ⟨⟨bl, rfl, hfew⟩, hd⟩
  have hb2 := below_dr hb0 hd
  clear hr0 hb0 hd hb1 hG
  cases bl with
  | true =>
    clear hfew
    go_wp2_with (fail)
    refine (works_c w2 (hT.below hb2)).mono ?_
    rintro e wz ⟨rfl, hbz⟩
    go_wp2
    go_ret
    exact ⟨rfl, below_next hb2 hb2.size hbz⟩
  | false =>
    have fa := hfew rfl a (by simp)
    have oa := fa.ok ua
    have la' := fa.1
    have la2 : ∀ l ∈ a, l.length ≤ 20 := fa.2
    clear hfew
    by_cases hl2 : 2 ≤ a.length
    case neg =>
      go_wp2_with (fail)
      refine (works_c w2 (hT.below hb2)).mono ?_
      rintro e wz ⟨rfl, hbz⟩
      go_wp2
      go_ret
      exact ⟨rfl, below_next hb2 hb2.size hbz⟩
    go_wp2_with (fail)
    refine (prime04_c q hq (fun h => rank_prime h (hp h)) w2 (hT.below hb2)).mono ?_
    rintro e w3 ⟨rfl, hb⟩
    replace hb2 := below_next hb2 hb2.size hb
    clear hb
    cases hv : primeV q with
    | false =>
      go_wp2_with (fail)
      refine (works_c w3 (hT.below hb2)).mono ?_
      rintro e wz ⟨rfl, hbz⟩
      go_wp2
      go_ret
      exact ⟨rfl, below_next hb2 hb2.size hbz⟩
    | true =>
      have hpr := hp hv
      have hq2 := (okm_prime hv).2
      go_wp2_with (fail)
      refine (rank_c A a ca q w3 (hA.below hb2) oa hq (hT.below hb2)).mono ?_
      rintro e w4 ⟨rfl, hb⟩
      replace hb2 := below_next hb2 hb2.size hb
      clear hb
      obtain ⟨i', hi', hie⟩ := idx_mod i (n := a.length) (by omega) (by omega)
      obtain ⟨k', hk', hke⟩ := idx_mod k (n := a.length) (by omega) (by omega)
      have ht : x.tmod q = x % q := Int.tmod_eq_emod_of_nonneg hx.1
      have hrv := rank_rev hv hpr a
      have HP := hid (⟨hv, hpr⟩ : _ ∧ _)
      clear hv hpr hp
      generalize hn : rankV a q = n at *
      go_wp2
      rw [hie, hke]
      clear hie hke _hi _hk
      go_loopw [12, 13] (fun o m wr => ∃ t : Nat, m = .int .i64 ((a.length : Int) - 1 - t) ∧ t ≤ a.length ∧ (∃ vs, Rwo w4.heap.size o vs (a.reverse.take t) wr) ∧ Below w4.heap.size w4 wr) (fun _ m _ => (intOf m + 1).toNat)
      case atStart => exact ⟨0, by simp, by omega, ⟨[], by simpa using Rwo.nil w4 w4.heap.size⟩, Below.refl _ _⟩
      case round =>
        obtain ⟨t, rfl, htl, ⟨vs, hR⟩, hb⟩ := hrel
        by_cases hlt : t < a.length
        · obtain ⟨r, hr⟩ : ∃ r : Nat, r + t + 1 = a.length := ⟨a.length - 1 - t, by omega⟩
          have er : (a.length : Int) - 1 - t = (r : Int) := by omega
          rw [er]
          obtain ⟨l, hl⟩ := get_of_lt (l := a) (k := r) (by omega)
          have hlr : a.reverse[t]? = some l := by rw [List.getElem?_reverse hlt, ← hl]; congr 1; omega
          obtain ⟨b1, o1, A8, c8, e2, hcl, hcs, hln⟩ := ((hA.below hb2).below hb).at_ hl
          subst e2
          have hl20 := la2 l (List.mem_of_getElem? hl)
          have hra : r < a.length := by omega
          have hvl : vs.length = t := by rw [hR.len, List.length_take, List.length_reverse]; omega
          have HT := hid (take_snocR hlr)
          have HL := hid (⟨hvl, fun (l : List Int) => (show (u64v l).length = l.length by simp [u64v]), fun u (hu : u ∈ u64v l) => (show u.oneCell' = true by obtain ⟨y, _, rfl⟩ := List.mem_map.1 hu; rfl)⟩ : _ ∧ _ ∧ _)
          clear hlr hl hvl er
          have ho0 := (row1_new wr [] 24).own (Nat.le_refl _) (by decide)
          have hb1 := below_alloc wr (.cells [].toArray 24)
          simp only [List.toArray, List.length_nil] at ho0 hb1
          have hcl1 := (hb1.cell (lt_of_cell hcl)).trans hcl
          have hwsz := hb.size
          go_wp2_with (first
            | (at_builtin; refine wpList_more elt_u64 (wr.alloc (.cells #[] 24)) (by rfl) _ _ rfl wr.heap.size ho0 rfl (hcs.below hb1) (by rw [HL.out.2.1]; rfl) HL.out.2.2 (by rw [HL.out.2.1]; simp; omega) (by rw [HL.out.2.1]; simp; omega) hb1.size ?_; intro v1 w7 ho1 hb5; replace hb5 := hb1.trans hb5; obtain ⟨A7, c7, rfl, _⟩ := ho1.form; clear hb1 ho0 hcl1)
            | (at_builtin; refine wpList_push elt_rows w7 rfl _ _ rfl w4.heap.size (hR.O.below hb5) rfl (.slice A7 _ c7) rfl rfl (by rw [HL.out.1]; omega) (by rw [HL.out.1]; omega) (Nat.le_trans hwsz hb5.size) ?_; intro v2 w8 ho2 hk8 hb8))
          have hR8 := hR.push (l := l) hb5 hwsz (by simpa using ho1) ho2 hk8
          rw [← HT.out] at hR8
          have hb9 := (below_next hb hwsz hb5).trans hb8
          have hdn : (r : Int) - 1 = (a.length : Int) - 1 - (t + 1 : Nat) := by omega
          clear hcl hcs ho1 ho2 hk8 hb8 hb5 hR
          go_wp2
          go_roundw
          case rel => exact ⟨t + 1, by first | go_num | (rw [hdn]), by omega, ⟨_, hR8⟩, hb9⟩
          case measure => simp [intOf]
        · obtain rfl : t = a.length := by omega
          have er : (a.length : Int) - 1 - a.length = -1 := by omega
          rw [er]
          rw [List.take_of_length_le (by rw [List.length_reverse]; exact Nat.le_refl _)] at hR
          have hFl : a.reverse.length = a.length := List.length_reverse
          have hFr : ∀ l ∈ a.reverse, l.length ≤ 20 ∧ U64s l := fun l hl => ⟨la2 l (List.mem_reverse.1 hl), ua l (List.mem_reverse.1 hl)⟩
          generalize a.reverse = F at *
          have okF := rows_ok (by rw [hFl]; exact la') hFr
          obtain ⟨go, cap, rfl, _, _, _, _, hg⟩ := hR.form (by omega)
          generalize wr = w5 at *
          have hrc := rank_c (some ⟨go, 0, none⟩) F cap q w5 hg okF hq (hT.below (below_next hb2 hb2.size hb))
          rw [hrv, hFl] at hrc
          have HRC := hid hrc
          have HFL := hid hFl
          rw [hFl] at hR ⊢
          have HR := hid hR
          clear hR er htl hlt hFl hrc
          go_wp2_with (fail)
          refine HRC.out.mono ?_
          rintro e w6 ⟨rfl, hb6⟩
          clear HRC
          have hR := HR.out.below hb6
          replace hb := below_next hb hb.size hb6
          clear HR hb6 hg okF
          have HRK := hid hrv
          clear hrv
          obtain ⟨bx, hbx⟩ : ∃ b, (x % q != 0) = b := ⟨_, rfl⟩
          have HBX := hid hbx
          go_upto_if 75 with (fail)
          clear hbx
          go_cut [14] from 76 to 105 (fun _ wx => Hid (∃ vs F2, F2.length = a.length ∧ (∀ l ∈ F2, l.length ≤ 20 ∧ U64s l) ∧ rankV F2 q = n ∧ Rwo w4.heap.size (.slice (some ⟨go, 0, none⟩) a.length cap) vs F2 wx ∧ Below w4.heap.size w4 wx))
          case first =>
           cases bx with
           | false =>
             have HEND := hid (⟨_, _, HFL.out, hFr, HRK.out, hR, hb⟩ : ∃ vs F2, F2.length = a.length ∧ (∀ l ∈ F2, l.length ≤ 20 ∧ U64s l) ∧ rankV F2 q = n ∧ Rwo w4.heap.size (.slice (some ⟨go, 0, none⟩) a.length cap) vs F2 w6 ∧ Below w4.heap.size w4 w6)
             clear hR hb
             go_wp2
             go_meet
             case rel => exact HEND
           | true =>
             have HX := hid (show x % q ≠ 0 by have := HBX.out; simpa using this)
             clear HBX
             obtain ⟨ri, hri⟩ := get_of_lt (l := F) (k := i') (by rw [HFL.out]; exact hi')
             have hru := hFr ri (List.mem_of_getElem? hri)
             have hset : ∀ m, (F.set i' (tmsMid ri x q m))[i']? = some (tmsMid ri x q m) := fun m => List.getElem?_set_self (by rw [HFL.out]; exact hi')
             have htl := tmsMid_len ri x q
             have HS := hid (⟨hri, hset, htl⟩ : _ ∧ _ ∧ _)
             have hset0 : F.set i' (tmsMid ri x q 0) = F := by rw [tmsMid_zero]; exact set_same hri
             have hR0 : Rwo w4.heap.size (.slice (some ⟨go, 0, none⟩) a.length cap) vs (F.set i' (tmsMid ri x q 0)) w6 := by rw [hset0]; exact hR
             clear hri hset htl hset0 hR
             go_wp2
             go_loopw [14] (fun j wr => ∃ m : Nat, j = .int .i64 m ∧ m ≤ ri.length ∧ Rwo w4.heap.size (.slice (some ⟨go, 0, none⟩) a.length cap) vs (F.set i' (tmsMid ri x q m)) wr ∧ Below w4.heap.size w4 wr) (fun j _ => ri.length - (intOf j).toNat)
             case atStart => exact ⟨0, rfl, by omega, hR0, hb⟩
             case round =>
               clear hR0 hb
               obtain ⟨m, rfl, hm, hR, hbw⟩ := hrel
               obtain ⟨v, Ai, ci, hv, rfl, hca, _⟩ := hR.rowAt (HS.out.2.1 m)
               rw [HS.out.2.2 m] at hv
               obtain ⟨go1, cap1, eV, hg1, hg2, hcO, _, _⟩ := hR.form (by rw [List.length_set, HFL.out]; omega)
               rw [List.length_set, HFL.out] at eV
               simp only [Value.slice.injEq, Option.some.injEq, Addr.mk.injEq, and_true, true_and] at eV
               obtain ⟨rfl, rfl⟩ := eV
               have hci := hcO i' _ hv
               by_cases hlt : m < ri.length
               · obtain ⟨g, c, hvg, hgb, hcz, hfz⟩ := hR.rowIn (HS.out.2.1 m) (by rw [HS.out.2.2 m]; omega)
                 rw [HS.out.2.2 m] at hvg
                 rw [hv] at hvg
                 simp only [Option.some.injEq, Value.slice.injEq, true_and] at hvg
                 obtain ⟨rfl, rfl⟩ := hvg
                 have hz := hcz m _ (tmsMid_at hlt)
                 have hzu := getD_u64R hru.2 m
                 have hput := fun w (h : Rwo w4.heap.size (.slice (some ⟨go, 0, none⟩) a.length cap) vs (F.set i' (tmsMid ri x q m)) w) => h.put (z := mMul (ri.getD m 0) x q) hv (HS.out.2.1 m) (j := m) (by rw [HS.out.2.2 m]; exact hlt)
                 rw [tmsMid_set, List.set_set] at hput
                 have HPUT := hid hput
                 have hatv := fun w (h : Rwo w4.heap.size (.slice (some ⟨go, 0, none⟩) a.length cap) vs (F.set i' (tmsMid ri x q m)) w) => h.at_ hv (HS.out.2.1 m) (by rw [HS.out.2.2 m]; omega)
                 have HAT := hid (⟨hatv, tmsMid_at hlt (x := x) (q := q)⟩ : _ ∧ _)
                 clear hv hcz hcO hput hca hfz hatv
                 generalize ri.getD m 0 = z at *
                 go_wp2
                 refine Rg.wp_region (l := [_, _, _, _, _, _, _, _, _, _, _, _, _, _, _]) (tail := [_, _]) (Rg.grows _ 17) [some 85, some 86, some 87, some 88, some 89, some 90, some 91, some 92, some 93, some 94, some 95, some 96, some 97, some 98, some 99, some 100, none] 164 (by kernel_rfl) (by kernel_rfl) (by kernel_rfl) rfl (Rg.grows_fair _ _) (Rg.keep_drew _) (trivial) ?_
                 refine' Rg.op_is _ [] rfl rfl (by kernel_rfl) ?_ ?_
                 rotate_left
                 · intro wx hb
                   refine Rg.from_nil fun T hT => ?_
                   go_wp2
                   refine hT _ _ rfl (by first | exact Rg.Keep.refl _ | exact below_of_dr hw2 | exact hw2 | exact (Below.refl _ _).alloc (Nat.le_refl _) _) ?_
                   simp only [Rg.last, List.getElem?_toArray, List.getElem?_cons_succ, List.getElem?_cons_zero, Option.getD_some]
                   rfl
                 refine' Rg.op_is _ [] rfl rfl (by kernel_rfl) ?_ ?_
                 rotate_left
                 · intro wx hb
                   refine Rg.from_nil fun T hT => ?_
                   go_wp2
                   refine hT _ _ rfl (by first | exact Rg.Keep.refl _ | exact below_of_dr hw2 | exact hw2 | exact (Below.refl _ _).alloc (Nat.le_refl _) _) ?_
                   simp only [Rg.last, List.getElem?_toArray, List.getElem?_cons_succ, List.getElem?_cons_zero, Option.getD_some]
                   rfl
                 refine' Rg.op_is _ [0, 1] rfl rfl (by kernel_rfl) ?_ ?_
                 rotate_left
                 · intro wx hb
                   refine Rg.from_is (some 85) rfl rfl ?_
                   refine Rg.from_is (some 86) rfl rfl ?_
                   refine Rg.from_nil fun T hT => ?_
                   go_wp2
                   refine hT _ _ rfl (by first | exact Rg.Keep.refl _ | exact below_of_dr hw2 | exact hw2 | exact (Below.refl _ _).alloc (Nat.le_refl _) _) ?_
                   simp only [Rg.last, List.getElem?_toArray, List.getElem?_cons_succ, List.getElem?_cons_zero, Option.getD_some]
                   rfl
                 refine Rg.op_is (.slice (some ⟨g, 0, none⟩) ri.length ci) [2] rfl rfl (by kernel_rfl) ?_ ?_
                 · intro wx hb
                   refine Rg.from_is (some 87) rfl rfl ?_
                   refine Rg.from_nil fun T hT => ?_
                   have hci2 := (hb.cell (lt_of_cell hci)).trans hci
                   go_wp2
                   exact hT _ _ rfl (by first | exact Rg.Keep.refl _ | exact below_of_dr hw2 | exact hw2 | exact (Below.refl _ _).alloc (Nat.le_refl _) _) (by first | rfl | exact congrArg _ (by decide))
                 refine' Rg.op_is _ [] rfl rfl (by kernel_rfl) ?_ ?_
                 rotate_left
                 · intro wx hb
                   refine Rg.from_nil fun T hT => ?_
                   go_wp2
                   refine hT _ _ rfl (by first | exact Rg.Keep.refl _ | exact below_of_dr hw2 | exact hw2 | exact (Below.refl _ _).alloc (Nat.le_refl _) _) ?_
                   simp only [Rg.last, List.getElem?_toArray, List.getElem?_cons_succ, List.getElem?_cons_zero, Option.getD_some]
                   rfl
                 refine' Rg.op_is _ [] rfl rfl (by kernel_rfl) ?_ ?_
                 rotate_left
                 · intro wx hb
                   refine Rg.from_nil fun T hT => ?_
                   go_wp2
                   refine hT _ _ rfl (by first | exact Rg.Keep.refl _ | exact below_of_dr hw2 | exact hw2 | exact (Below.refl _ _).alloc (Nat.le_refl _) _) ?_
                   simp only [Rg.last, List.getElem?_toArray, List.getElem?_cons_succ, List.getElem?_cons_zero, Option.getD_some]
                   rfl
                 refine' Rg.op_is _ [] rfl rfl (by kernel_rfl) ?_ ?_
                 rotate_left
                 · intro wx hb
                   refine Rg.from_nil fun T hT => ?_
                   go_wp2
                   refine hT _ _ rfl (by first | exact Rg.Keep.refl _ | exact below_of_dr hw2 | exact hw2 | exact (Below.refl _ _).alloc (Nat.le_refl _) _) ?_
                   simp only [Rg.last, List.getElem?_toArray, List.getElem?_cons_succ, List.getElem?_cons_zero, Option.getD_some]
                   rfl
                 refine' Rg.op_is _ [5, 6] rfl rfl (by kernel_rfl) ?_ ?_
                 rotate_left
                 · intro wx hb
                   refine Rg.from_is (some 90) rfl rfl ?_
                   refine Rg.from_is (some 91) rfl rfl ?_
                   refine Rg.from_nil fun T hT => ?_
                   go_wp2
                   refine hT _ _ rfl (by first | exact Rg.Keep.refl _ | exact below_of_dr hw2 | exact hw2 | exact (Below.refl _ _).alloc (Nat.le_refl _) _) ?_
                   simp only [Rg.last, List.getElem?_toArray, List.getElem?_cons_succ, List.getElem?_cons_zero, Option.getD_some]
                   rfl
                 refine Rg.op_is (.slice (some ⟨g, 0, none⟩) ri.length ci) [7] rfl rfl (by kernel_rfl) ?_ ?_
                 · intro wx hb
                   refine Rg.from_is (some 92) rfl rfl ?_
                   refine Rg.from_nil fun T hT => ?_
                   have hci2 := (hb.cell (lt_of_cell hci)).trans hci
                   go_wp2
                   exact hT _ _ rfl (by first | exact Rg.Keep.refl _ | exact below_of_dr hw2 | exact hw2 | exact (Below.refl _ _).alloc (Nat.le_refl _) _) (by first | rfl | exact congrArg _ (by decide))
                 refine' Rg.op_is _ [] rfl rfl (by kernel_rfl) ?_ ?_
                 rotate_left
                 · intro wx hb
                   refine Rg.from_nil fun T hT => ?_
                   go_wp2
                   refine hT _ _ rfl (by first | exact Rg.Keep.refl _ | exact below_of_dr hw2 | exact hw2 | exact (Below.refl _ _).alloc (Nat.le_refl _) _) ?_
                   simp only [Rg.last, List.getElem?_toArray, List.getElem?_cons_succ, List.getElem?_cons_zero, Option.getD_some]
                   rfl
                 refine' Rg.op_is _ [8, 9] rfl rfl (by kernel_rfl) ?_ ?_
                 rotate_left
                 · intro wx hb
                   refine Rg.from_is (some 93) rfl rfl ?_
                   refine Rg.from_is (some 94) rfl rfl ?_
                   refine Rg.from_nil fun T hT => ?_
                   go_wp2
                   refine hT _ _ rfl (by first | exact Rg.Keep.refl _ | exact below_of_dr hw2 | exact hw2 | exact (Below.refl _ _).alloc (Nat.le_refl _) _) ?_
                   simp only [Rg.last, List.getElem?_toArray, List.getElem?_cons_succ, List.getElem?_cons_zero, Option.getD_some]
                   rfl
                 refine Rg.op_is (.int .u64 z) [10] rfl rfl (by kernel_rfl) ?_ ?_
                 · intro wx hb
                   refine Rg.from_is (some 95) rfl rfl ?_
                   refine Rg.from_nil fun T hT => ?_
                   have hz2 := (hb.cell (lt_of_cell hz)).trans hz
                   go_wp2
                   exact hT _ _ rfl (by first | exact Rg.Keep.refl _ | exact below_of_dr hw2 | exact hw2 | exact (Below.refl _ _).alloc (Nat.le_refl _) _) (by first | rfl | exact congrArg _ (by decide))
                 refine' Rg.op_is _ [] rfl rfl (by kernel_rfl) ?_ ?_
                 rotate_left
                 · intro wx hb
                   refine Rg.from_nil fun T hT => ?_
                   go_wp2
                   refine hT _ _ rfl (by first | exact Rg.Keep.refl _ | exact below_of_dr hw2 | exact hw2 | exact (Below.refl _ _).alloc (Nat.le_refl _) _) ?_
                   simp only [Rg.last, List.getElem?_toArray, List.getElem?_cons_succ, List.getElem?_cons_zero, Option.getD_some]
                   rfl
                 refine' Rg.op_is _ [] rfl rfl (by kernel_rfl) ?_ ?_
                 rotate_left
                 · intro wx hb
                   refine Rg.from_nil fun T hT => ?_
                   go_wp2
                   refine hT _ _ rfl (by first | exact Rg.Keep.refl _ | exact below_of_dr hw2 | exact hw2 | exact (Below.refl _ _).alloc (Nat.le_refl _) _) ?_
                   simp only [Rg.last, List.getElem?_toArray, List.getElem?_cons_succ, List.getElem?_cons_zero, Option.getD_some]
                   rfl
                 refine Rg.op_is (.int .u64 (mMul z x q)) [11, 12, 13] rfl rfl (by kernel_rfl) ?_ ?_
                 · intro wx hb
                   refine Rg.from_is (some 96) rfl rfl ?_
                   refine Rg.from_is (some 97) rfl rfl ?_
                   refine Rg.from_is (some 98) rfl rfl ?_
                   refine Rg.from_nil fun T hT => ?_
                   go_wp2_with (go_at_call 29; refine (mul_c _ _ _ hzu hx hq _).mono ?_; rintro e w5 ⟨rfl, hw5⟩)
                   exact hT _ _ rfl (below_of_dr hw5) rfl
                 refine Rg.walk_nil [0, 1, 2, 3, 4, 5, 6, 7, 8, 9, 10, 11, 12, 13, 14] (by kernel_rfl) ?_
                 intro wx hb
                 refine Rg.from_is (some 85) rfl rfl ?_
                 refine Rg.from_is (some 86) rfl rfl ?_
                 refine Rg.from_is (some 87) rfl rfl ?_
                 refine Rg.from_is (some 88) rfl rfl ?_
                 refine Rg.from_is (some 89) rfl rfl ?_
                 refine Rg.from_is (some 90) rfl rfl ?_
                 refine Rg.from_is (some 91) rfl rfl ?_
                 refine Rg.from_is (some 92) rfl rfl ?_
                 refine Rg.from_is (some 93) rfl rfl ?_
                 refine Rg.from_is (some 94) rfl rfl ?_
                 refine Rg.from_is (some 95) rfl rfl ?_
                 refine Rg.from_is (some 96) rfl rfl ?_
                 refine Rg.from_is (some 97) rfl rfl ?_
                 refine Rg.from_is (some 98) rfl rfl ?_
                 refine Rg.from_is (some 99) rfl rfl ?_
                 refine Rg.from_nil ?_
                 simp only [List.map, Act.put, List.setIfInBounds_toArray, List.set_cons_zero, List.set_cons_succ]
                 have hRx := hR.below hb
                 have hR9 := HPUT.out wx hRx
                 obtain ⟨_, hcx, hfx⟩ := HAT.out.1 wx hRx
                 have hc9 := hcx m _ HAT.out.2
                 have hf9 := hfx m
                 have hb9 := (below_next hbw hbw.size hb).setCell (p := ⟨g, m, none⟩) hgb (.int .u64 (mMul z x q))
                 clear hb hRx hcx hfx hci hR hz
                 go_wp2
                 go_roundw
                 case rel => exact ⟨m + 1, by go_num, by omega, hR9, hb9⟩
                 case measure => simp [intOf]; omega
               · obtain rfl : m = ri.length := by omega
                 have hFl2 : (F.set i' (tmsMid ri x q ri.length)).length = a.length := by rw [List.length_set, HFL.out]
                 have hFr2 := rows_set hFr (i := i') (l := tmsMid ri x q ri.length) (by rw [HS.out.2.2]; exact hru.1) (tmsMid_u64 hru.2 x q _)
                 have hrk2 := (rank_times HP.out.1 HP.out.2 HS.out.1 HX.out).trans HRK.out
                 have HR := hid hR
                 have HFL2 := hid hFl2
                 have HRK2 := hid hrk2
                 clear hR hFl2 hrk2 hcO hca hv
                 go_upto_region 18 with (fail)
                 have hR := HR.out
                 have hFl2 := HFL2.out
                 have hrk2 := HRK2.out
                 have hb := hbw
                 clear hbw HX HS HRK hFr HFL HR HFL2 HRK2
                 generalize F.set i' (tmsMid ri x q ri.length) = F2 at *
                 clear hru
                 have HFL := hid hFl2
                 have HRK := hid hrk2
                 have hFr := hFr2
                 have okF := rows_ok (by rw [hFl2]; exact la') hFr2
                 obtain ⟨_, _, eV, _, _, _, _, hg⟩ := hR.form (by omega)
                 simp only [Value.slice.injEq, Option.some.injEq, Addr.mk.injEq, and_true] at eV
                 obtain ⟨rfl, hx9, rfl⟩ := eV
                 clear hx9
                 generalize wr = w5 at *
                 have hrc := rank_c (some ⟨go, 0, none⟩) F2 cap q w5 hg okF hq (hT.below (below_next hb2 hb2.size hb))
                 rw [hrk2, hFl2] at hrc
                 have HRC := hid hrc
                 have HR := hid hR
                 clear hR hFl2 hrc hrk2 okF hg hFr2
                 go_wp2_with (fail)
                 refine HRC.out.mono ?_
                 rintro e w6 ⟨rfl, hb6⟩
                 clear HRC
                 have hR := HR.out.below hb6
                 replace hb := below_next hb hb.size hb6
                 have HEND := hid (⟨_, _, HFL.out, hFr, HRK.out, hR, hb⟩ : ∃ vs F2, F2.length = a.length ∧ (∀ l ∈ F2, l.length ≤ 20 ∧ U64s l) ∧ rankV F2 q = n ∧ Rwo w4.heap.size (.slice (some ⟨go, 0, none⟩) a.length cap) vs F2 w6 ∧ Below w4.heap.size w4 w6)
                 clear HR hb6 hR hb
                 go_wp2
                 go_meet
                 case rel => exact HEND
          case rest =>
            obtain ⟨vs, F, hFl, hFr, hrk, hR, hb⟩ := hcut.out
            have HFL := hid hFl
            have HRK := hid hrk
            clear hcut hFl hrk
            generalize wc = w6 at *
            by_cases hik : i' = k'
            case pos =>
              subst hik
              have he : ((i' : Int) == (i' : Int)) = true := by simp
              go_wp2
              go_ret
              exact ⟨rfl, below_next hb2 hb2.size hb⟩
            have he : ((i' : Int) == (k' : Int)) = false := by simp; omega
            obtain ⟨o, ho⟩ := get_of_lt (l := F) (k := i') (by rw [HFL.out]; exact hi')
            obtain ⟨r, hr⟩ := get_of_lt (l := F) (k := k') (by rw [HFL.out]; exact hk')
            have hou := hFr o (List.mem_of_getElem? ho)
            have hru := hFr r (List.mem_of_getElem? hr)
            have hlo := hou.1
            have hlr := hru.1
            have hseti : ∀ l : List Int, (F.set k' l)[i']? = some o := fun l => by rw [List.getElem?_set_ne (Ne.symm hik)]; exact ho
            have hsetk : ∀ l : List Int, (F.set k' l)[k']? = some l := fun l => List.getElem?_set_self (by rw [HFL.out]; exact hk')
            have hset0 : F.set k' (addMid r o x q 0) = F := by rw [addMid_zero]; exact set_same hr
            have hrk2 := (rank_added HP.out.1 HP.out.2 hr ho (Ne.symm hik) x).trans HRK.out
            have HSET := hid (⟨hseti, hsetk, hrk2⟩ : _ ∧ _ ∧ _)
            rw [← hset0] at hR
            have HIK := hid hik
            clear hseti hsetk hset0 hrk2 ho hr hik
            go_wp2
            go_loopw [15] (fun j wr => ∃ (m : Nat) (vs : List Value), j = .int .i64 m ∧ m ≤ o.length ∧ Hid (Rwo w4.heap.size (.slice (some ⟨go, 0, none⟩) a.length cap) vs (F.set k' (addMid r o x q m)) wr ∧ Below w4.heap.size w4 wr)) (fun j _ => o.length - (intOf j).toNat)
            case atStart => exact ⟨0, _, rfl, by omega, hid ⟨hR, hb⟩⟩
            case round =>
              clear hR hb
              obtain ⟨m, vs, rfl, hm, HI⟩ := hrel
              have hR := HI.out.1
              have hbw := HI.out.2
              have hseti := HSET.out.1
              have hsetk := HSET.out.2.1
              obtain ⟨vo, Ao, co, hvo, rfl, _, _⟩ := hR.rowAt (hseti _)
              obtain ⟨_, _, eV, hg1, _, hcO, _, hgrid⟩ := hR.form (by rw [List.length_set, HFL.out]; omega)
              rw [List.length_set, HFL.out] at eV
              simp only [Value.slice.injEq, Option.some.injEq, Addr.mk.injEq, and_true, true_and] at eV
              obtain ⟨rfl, rfl⟩ := eV
              have hcio := hcO i' _ hvo
              by_cases hlt : m < o.length
              · have hlti : (m : Int) < (o.length : Int) := by omega
                obtain ⟨g2, co2, hvi, _, _, _⟩ := hR.rowIn (hseti _) (by omega)
                rw [hvo] at hvi
                simp only [Option.some.injEq, Value.slice.injEq, true_and] at hvi
                obtain ⟨rfl, rfl⟩ := hvi
                obtain ⟨y, hy⟩ := get_of_lt hlt
                have hyu := hou.2 y (List.mem_of_getElem? hy)
                have hyd : o.getD m 0 = y := by rw [List.getD_eq_getElem?_getD, hy]; rfl
                obtain ⟨vk, Ak, ck, hvk, ek, _, hownk⟩ := hR.rowAt (hsetk _)
                rw [addMid_len] at ek
                have hcik := hcO k' _ hvk
                rw [ek] at hcik
                have HF := hid (⟨hy, hyd, hvk, ek, hownk, hvo⟩ : _ ∧ _ ∧ _ ∧ _ ∧ _ ∧ _)
                clear hy hyd hvk ek hownk hvo hseti hsetk hcO hgrid hR hbw hg1
                go_upto_if 124 with (fail)
                go_cut [] from 109 to 158 (fun wx => Hid (∃ vs lk g c1, Rwo w4.heap.size (.slice (some ⟨go, 0, none⟩) a.length cap) vs (F.set k' lk) wx ∧ vs[k']? = some (.slice (some ⟨g, 0, none⟩) lk.length c1) ∧ Below w4.heap.size w4 wx ∧ m < lk.length ∧ lk[m]? = some (r.getD m 0) ∧ lk.set m (mAdd (r.getD m 0) (mMul y x q) q) = addMid r o x q (m + 1)))
                case first =>
                  by_cases hrm : r.length ≤ m
                  · have hmx : max r.length m = m := Nat.max_eq_right hrm
                    rw [hmx] at hcik
                    obtain ⟨hy, hyd, hvk, ek, hownk, hvo⟩ := HF.out
                    rw [hmx] at ek
                    have hmore := addMid_more (l := r) (o := o) (x := x) (q := q) hrm
                    have hml : (u64v (addMid r o x q m)).length = m := by simp [u64v, addMid_len, hmx]
                    have hal : (addMid r o x q m).length = m := by rw [addMid_len, hmx]
                    have HM := hid (⟨hmore, hml, hal⟩ : _ ∧ _ ∧ _)
                    have hr0 := row1_new wr [.int .u64 0] 24
                    have hb0 := below_alloc wr (.cells [.int .u64 0].toArray 24)
                    simp only [List.toArray] at hr0 hb0
                    have hRa := HI.out.1.below hb0
                    have hown0 := hownk.below hb0
                    rw [ek] at hown0
                    have hvk0 := hvk
                    rw [ek] at hvk0
                    have hwsz := HI.out.2.size
                    have hbwr := below_next HI.out.2 hwsz hb0
                    have hle : ((m : Nat) : Int) ≤ m := Int.le_refl _
                    have HY := hid (⟨hy, hyd⟩ : _ ∧ _)
                    clear hmore hml hal hb0 hvk ek hownk hvo hy hyd HF
                    (try rw [hmx])
                    go_wp2_with (at_builtin; refine wpList_push_own elt_u64 (wr.alloc (.cells #[.int .u64 0] 24)) rfl _ _ rfl w4.heap.size hown0 rfl (.int .u64 0) wr.heap.size rfl hr0 rfl (by rw [HM.out.2.1]; omega) (by rw [HM.out.2.1]; omega) hbwr.size ?_; intro v1 w7 ho1 hgr hbl; obtain ⟨hO1, hO2, hO3, hO4⟩ := hRa.outer (n := a.length) (cap := cap) rfl hvk0 hgr; obtain ⟨g, c1, e1, hgb, _, _, _, _⟩ := ho1.row (by simp); rw [List.length_append, HM.out.2.1, List.length_singleton] at e1; subst e1; have HG := hid (⟨ho1, hgr, hbl⟩ : _ ∧ _ ∧ _); clear ho1 hgr hbl)
                    go_meet
                    case rel =>
                      obtain ⟨ho1, hgr, hbl⟩ := HG.out
                      have hsetk := HSET.out.2.1
                      have hkv : k' < vs.length := (List.getElem?_eq_some_iff.1 hvk0).1
                      have hgw := hRa.grow (l' := addMid r o x q m ++ [0]) (by rw [hRa.len, List.length_set, HFL.out]) hvk0 (hsetk _) hgr (by rw [List.map_append]; exact ho1) (hbl.imp (fun h => h) fun h => ⟨_, h, Nat.le_refl _⟩)
                      rw [List.set_set] at hgw
                      have hll : (addMid r o x q m ++ [0]).length = m + 1 := by rw [List.length_append, HM.out.2.2]; rfl
                      have hr00 : r.getD m 0 = 0 := by rw [List.getD_eq_getElem?_getD, List.getElem?_eq_none hrm]; rfl
                      refine hid ⟨_, addMid r o x q m ++ [0], g, c1, hgw, ?_, (hbwr.grown hgr hbwr.size fun g e => (hown0.block g e).1).setCell (p := ⟨go, k', none⟩) hO3 _, by omega, ?_, ?_⟩
                      · rw [List.getElem?_set_self hkv, hll]
                      · rw [List.getElem?_append_right (by rw [HM.out.2.2]; exact Nat.le_refl _), HM.out.2.2, Nat.sub_self, hr00]; rfl
                      · rw [← HY.out.2]; exact HM.out.1
                  · have hmx : max r.length m = r.length := by omega
                    rw [hmx] at hcik
                    have hle : ¬ ((r.length : Nat) : Int) ≤ m := by omega
                    (try rw [hmx])
                    go_wp2
                    go_meet
                    case rel =>
                      obtain ⟨g, c1, hvk2, _, _, _⟩ := HI.out.1.rowIn (HSET.out.2.1 _) (by rw [addMid_len]; omega)
                      exact hid ⟨_, _, g, c1, HI.out.1, hvk2, HI.out.2, by rw [addMid_len]; omega, addMid_at (by omega), by rw [← HF.out.2.1]; exact addMid_set (by omega)⟩
                case rest =>
                  obtain ⟨vt, lk, g, c1, hR, hvk, hbw, hml, hlm, hfin⟩ := hcut.out
                  generalize wc = w8 at *
                  clear hcut
                  have hsk := HSET.out.2.1 lk
                  have hso := HSET.out.1 lk
                  obtain ⟨g2, co2, hvi, _, hci2, _⟩ := hR.rowIn hso (by omega)
                  obtain ⟨hgb, hcx, _⟩ := hR.at_ hvk hsk (by omega)
                  obtain ⟨_, _, eV, _, _, hcO, _, _⟩ := hR.form (by rw [List.length_set, HFL.out]; omega)
                  rw [List.length_set, HFL.out] at eV
                  simp only [Value.slice.injEq, Option.some.injEq, Addr.mk.injEq, and_true, true_and] at eV
                  obtain ⟨rfl, rfl⟩ := eV
                  have hck := hcO k' _ hvk
                  have hci := hcO i' _ hvi
                  have hcy := hci2 m y HF.out.1
                  have hcc := hcx m _ hlm
                  have hput := fun w (h : Rwo w4.heap.size (.slice (some ⟨go, 0, none⟩) a.length cap) vt (F.set k' lk) w) => h.put (z := mAdd (r.getD m 0) (mMul y x q) q) hvk hsk (j := m) hml
                  have hatk := fun w (h : Rwo w4.heap.size (.slice (some ⟨go, 0, none⟩) a.length cap) vt (F.set k' lk) w) => h.at_ hvk hsk (by omega)
                  have hcu := getD_u64R hru.2 m
                  rw [List.set_set, hfin] at hput
                  have HPUT := hid hput
                  have HATK := hid hatk
                  have HLM := hid hlm
                  have hmlI : (m : Int) < (lk.length : Int) := by omega
                  have HR8 := hid (⟨hR, hbw⟩ : _ ∧ _)
                  clear hput hatk hcO hci2 hcx hvk hvi hsk hso hlm hfin hR hbw HF HI hml hcik
                  generalize r.getD m 0 = c at *
                  generalize lk.length = ln at *
                  go_wp2
                  refine Rg.wp_region (l := [_, _, _, _, _, _, _, _, _, _, _, _, _, _, _, _, _, _, _, _, _, _, _, _]) (tail := [_, _]) (Rg.grows _ 26) [some 134, some 135, some 136, some 137, some 138, some 139, some 140, some 141, some 142, some 143, some 144, some 145, some 146, some 147, some 148, some 149, some 150, some 151, some 152, some 153, some 154, some 155, some 156, some 157, some 158, none] 164 (by kernel_rfl) (by kernel_rfl) (by kernel_rfl) rfl (Rg.grows_fair _ _) (Rg.keep_drew _) (trivial) ?_
                  refine' Rg.op_is _ [] rfl rfl (by kernel_rfl) ?_ ?_
                  rotate_left
                  · intro wx hb
                    refine Rg.from_nil fun T hT => ?_
                    go_wp2
                    refine hT _ _ rfl (by first | exact Rg.Keep.refl _ | exact below_of_dr hw2 | exact hw2 | exact (Below.refl _ _).alloc (Nat.le_refl _) _) ?_
                    simp only [Rg.last, List.getElem?_toArray, List.getElem?_cons_succ, List.getElem?_cons_zero, Option.getD_some]
                    rfl
                  refine' Rg.op_is _ [] rfl rfl (by kernel_rfl) ?_ ?_
                  rotate_left
                  · intro wx hb
                    refine Rg.from_nil fun T hT => ?_
                    go_wp2
                    refine hT _ _ rfl (by first | exact Rg.Keep.refl _ | exact below_of_dr hw2 | exact hw2 | exact (Below.refl _ _).alloc (Nat.le_refl _) _) ?_
                    simp only [Rg.last, List.getElem?_toArray, List.getElem?_cons_succ, List.getElem?_cons_zero, Option.getD_some]
                    rfl
                  refine' Rg.op_is _ [0, 1] rfl rfl (by kernel_rfl) ?_ ?_
                  rotate_left
                  · intro wx hb
                    refine Rg.from_is (some 134) rfl rfl ?_
                    refine Rg.from_is (some 135) rfl rfl ?_
                    refine Rg.from_nil fun T hT => ?_
                    go_wp2
                    refine hT _ _ rfl (by first | exact Rg.Keep.refl _ | exact below_of_dr hw2 | exact hw2 | exact (Below.refl _ _).alloc (Nat.le_refl _) _) ?_
                    simp only [Rg.last, List.getElem?_toArray, List.getElem?_cons_succ, List.getElem?_cons_zero, Option.getD_some]
                    rfl
                  refine Rg.op_is (.slice (some ⟨g, 0, none⟩) ln c1) [2] rfl rfl (by kernel_rfl) ?_ ?_
                  · intro wx hb
                    refine Rg.from_is (some 136) rfl rfl ?_
                    refine Rg.from_nil fun T hT => ?_
                    have h3 := (hb.cell (lt_of_cell hck)).trans hck
                    go_wp2
                    exact hT _ _ rfl (by first | exact Rg.Keep.refl _ | exact below_of_dr hw2 | exact hw2 | exact (Below.refl _ _).alloc (Nat.le_refl _) _) (by first | rfl | exact congrArg _ (by decide))
                  refine' Rg.op_is _ [] rfl rfl (by kernel_rfl) ?_ ?_
                  rotate_left
                  · intro wx hb
                    refine Rg.from_nil fun T hT => ?_
                    go_wp2
                    refine hT _ _ rfl (by first | exact Rg.Keep.refl _ | exact below_of_dr hw2 | exact hw2 | exact (Below.refl _ _).alloc (Nat.le_refl _) _) ?_
                    simp only [Rg.last, List.getElem?_toArray, List.getElem?_cons_succ, List.getElem?_cons_zero, Option.getD_some]
                    rfl
                  refine' Rg.op_is _ [] rfl rfl (by kernel_rfl) ?_ ?_
                  rotate_left
                  · intro wx hb
                    refine Rg.from_nil fun T hT => ?_
                    go_wp2
                    refine hT _ _ rfl (by first | exact Rg.Keep.refl _ | exact below_of_dr hw2 | exact hw2 | exact (Below.refl _ _).alloc (Nat.le_refl _) _) ?_
                    simp only [Rg.last, List.getElem?_toArray, List.getElem?_cons_succ, List.getElem?_cons_zero, Option.getD_some]
                    rfl
                  refine' Rg.op_is _ [] rfl rfl (by kernel_rfl) ?_ ?_
                  rotate_left
                  · intro wx hb
                    refine Rg.from_nil fun T hT => ?_
                    go_wp2
                    refine hT _ _ rfl (by first | exact Rg.Keep.refl _ | exact below_of_dr hw2 | exact hw2 | exact (Below.refl _ _).alloc (Nat.le_refl _) _) ?_
                    simp only [Rg.last, List.getElem?_toArray, List.getElem?_cons_succ, List.getElem?_cons_zero, Option.getD_some]
                    rfl
                  refine' Rg.op_is _ [5, 6] rfl rfl (by kernel_rfl) ?_ ?_
                  rotate_left
                  · intro wx hb
                    refine Rg.from_is (some 139) rfl rfl ?_
                    refine Rg.from_is (some 140) rfl rfl ?_
                    refine Rg.from_nil fun T hT => ?_
                    go_wp2
                    refine hT _ _ rfl (by first | exact Rg.Keep.refl _ | exact below_of_dr hw2 | exact hw2 | exact (Below.refl _ _).alloc (Nat.le_refl _) _) ?_
                    simp only [Rg.last, List.getElem?_toArray, List.getElem?_cons_succ, List.getElem?_cons_zero, Option.getD_some]
                    rfl
                  refine Rg.op_is (.slice (some ⟨g, 0, none⟩) ln c1) [7] rfl rfl (by kernel_rfl) ?_ ?_
                  · intro wx hb
                    refine Rg.from_is (some 141) rfl rfl ?_
                    refine Rg.from_nil fun T hT => ?_
                    have h3 := (hb.cell (lt_of_cell hck)).trans hck
                    go_wp2
                    exact hT _ _ rfl (by first | exact Rg.Keep.refl _ | exact below_of_dr hw2 | exact hw2 | exact (Below.refl _ _).alloc (Nat.le_refl _) _) (by first | rfl | exact congrArg _ (by decide))
                  refine' Rg.op_is _ [] rfl rfl (by kernel_rfl) ?_ ?_
                  rotate_left
                  · intro wx hb
                    refine Rg.from_nil fun T hT => ?_
                    go_wp2
                    refine hT _ _ rfl (by first | exact Rg.Keep.refl _ | exact below_of_dr hw2 | exact hw2 | exact (Below.refl _ _).alloc (Nat.le_refl _) _) ?_
                    simp only [Rg.last, List.getElem?_toArray, List.getElem?_cons_succ, List.getElem?_cons_zero, Option.getD_some]
                    rfl
                  refine' Rg.op_is _ [8, 9] rfl rfl (by kernel_rfl) ?_ ?_
                  rotate_left
                  · intro wx hb
                    refine Rg.from_is (some 142) rfl rfl ?_
                    refine Rg.from_is (some 143) rfl rfl ?_
                    refine Rg.from_nil fun T hT => ?_
                    go_wp2
                    refine hT _ _ rfl (by first | exact Rg.Keep.refl _ | exact below_of_dr hw2 | exact hw2 | exact (Below.refl _ _).alloc (Nat.le_refl _) _) ?_
                    simp only [Rg.last, List.getElem?_toArray, List.getElem?_cons_succ, List.getElem?_cons_zero, Option.getD_some]
                    rfl
                  refine Rg.op_is (.int .u64 c) [10] rfl rfl (by kernel_rfl) ?_ ?_
                  · intro wx hb
                    refine Rg.from_is (some 144) rfl rfl ?_
                    refine Rg.from_nil fun T hT => ?_
                    have h3 := (hb.cell (lt_of_cell hcc)).trans hcc
                    go_wp2
                    exact hT _ _ rfl (by first | exact Rg.Keep.refl _ | exact below_of_dr hw2 | exact hw2 | exact (Below.refl _ _).alloc (Nat.le_refl _) _) (by first | rfl | exact congrArg _ (by decide))
                  refine' Rg.op_is _ [] rfl rfl (by kernel_rfl) ?_ ?_
                  rotate_left
                  · intro wx hb
                    refine Rg.from_nil fun T hT => ?_
                    go_wp2
                    refine hT _ _ rfl (by first | exact Rg.Keep.refl _ | exact below_of_dr hw2 | exact hw2 | exact (Below.refl _ _).alloc (Nat.le_refl _) _) ?_
                    simp only [Rg.last, List.getElem?_toArray, List.getElem?_cons_succ, List.getElem?_cons_zero, Option.getD_some]
                    rfl
                  refine' Rg.op_is _ [] rfl rfl (by kernel_rfl) ?_ ?_
                  rotate_left
                  · intro wx hb
                    refine Rg.from_nil fun T hT => ?_
                    go_wp2
                    refine hT _ _ rfl (by first | exact Rg.Keep.refl _ | exact below_of_dr hw2 | exact hw2 | exact (Below.refl _ _).alloc (Nat.le_refl _) _) ?_
                    simp only [Rg.last, List.getElem?_toArray, List.getElem?_cons_succ, List.getElem?_cons_zero, Option.getD_some]
                    rfl
                  refine' Rg.op_is _ [12, 13] rfl rfl (by kernel_rfl) ?_ ?_
                  rotate_left
                  · intro wx hb
                    refine Rg.from_is (some 146) rfl rfl ?_
                    refine Rg.from_is (some 147) rfl rfl ?_
                    refine Rg.from_nil fun T hT => ?_
                    go_wp2
                    refine hT _ _ rfl (by first | exact Rg.Keep.refl _ | exact below_of_dr hw2 | exact hw2 | exact (Below.refl _ _).alloc (Nat.le_refl _) _) ?_
                    simp only [Rg.last, List.getElem?_toArray, List.getElem?_cons_succ, List.getElem?_cons_zero, Option.getD_some]
                    rfl
                  refine Rg.op_is (.slice (some ⟨g2, 0, none⟩) o.length co2) [14] rfl rfl (by kernel_rfl) ?_ ?_
                  · intro wx hb
                    refine Rg.from_is (some 148) rfl rfl ?_
                    refine Rg.from_nil fun T hT => ?_
                    have h3 := (hb.cell (lt_of_cell hci)).trans hci
                    go_wp2
                    exact hT _ _ rfl (by first | exact Rg.Keep.refl _ | exact below_of_dr hw2 | exact hw2 | exact (Below.refl _ _).alloc (Nat.le_refl _) _) (by first | rfl | exact congrArg _ (by decide))
                  refine' Rg.op_is _ [] rfl rfl (by kernel_rfl) ?_ ?_
                  rotate_left
                  · intro wx hb
                    refine Rg.from_nil fun T hT => ?_
                    go_wp2
                    refine hT _ _ rfl (by first | exact Rg.Keep.refl _ | exact below_of_dr hw2 | exact hw2 | exact (Below.refl _ _).alloc (Nat.le_refl _) _) ?_
                    simp only [Rg.last, List.getElem?_toArray, List.getElem?_cons_succ, List.getElem?_cons_zero, Option.getD_some]
                    rfl
                  refine' Rg.op_is _ [15, 16] rfl rfl (by kernel_rfl) ?_ ?_
                  rotate_left
                  · intro wx hb
                    refine Rg.from_is (some 149) rfl rfl ?_
                    refine Rg.from_is (some 150) rfl rfl ?_
                    refine Rg.from_nil fun T hT => ?_
                    go_wp2
                    refine hT _ _ rfl (by first | exact Rg.Keep.refl _ | exact below_of_dr hw2 | exact hw2 | exact (Below.refl _ _).alloc (Nat.le_refl _) _) ?_
                    simp only [Rg.last, List.getElem?_toArray, List.getElem?_cons_succ, List.getElem?_cons_zero, Option.getD_some]
                    rfl
                  refine Rg.op_is (.int .u64 y) [17] rfl rfl (by kernel_rfl) ?_ ?_
                  · intro wx hb
                    refine Rg.from_is (some 151) rfl rfl ?_
                    refine Rg.from_nil fun T hT => ?_
                    have h3 := (hb.cell (lt_of_cell hcy)).trans hcy
                    go_wp2
                    exact hT _ _ rfl (by first | exact Rg.Keep.refl _ | exact below_of_dr hw2 | exact hw2 | exact (Below.refl _ _).alloc (Nat.le_refl _) _) (by first | rfl | exact congrArg _ (by decide))
                  refine' Rg.op_is _ [] rfl rfl (by kernel_rfl) ?_ ?_
                  rotate_left
                  · intro wx hb
                    refine Rg.from_nil fun T hT => ?_
                    go_wp2
                    refine hT _ _ rfl (by first | exact Rg.Keep.refl _ | exact below_of_dr hw2 | exact hw2 | exact (Below.refl _ _).alloc (Nat.le_refl _) _) ?_
                    simp only [Rg.last, List.getElem?_toArray, List.getElem?_cons_succ, List.getElem?_cons_zero, Option.getD_some]
                    rfl
                  refine' Rg.op_is _ [] rfl rfl (by kernel_rfl) ?_ ?_
                  rotate_left
                  · intro wx hb
                    refine Rg.from_nil fun T hT => ?_
                    go_wp2
                    refine hT _ _ rfl (by first | exact Rg.Keep.refl _ | exact below_of_dr hw2 | exact hw2 | exact (Below.refl _ _).alloc (Nat.le_refl _) _) ?_
                    simp only [Rg.last, List.getElem?_toArray, List.getElem?_cons_succ, List.getElem?_cons_zero, Option.getD_some]
                    rfl
                  refine Rg.op_is (.int .u64 (mMul y x q)) [18, 19, 20] rfl rfl (by kernel_rfl) ?_ ?_
                  · intro wx hb
                    refine Rg.from_is (some 152) rfl rfl ?_
                    refine Rg.from_is (some 153) rfl rfl ?_
                    refine Rg.from_is (some 154) rfl rfl ?_
                    refine Rg.from_nil fun T hT => ?_
                    go_wp2_with (go_at_call 29; refine (mul_c _ _ _ hyu hx hq _).mono ?_; rintro e w5 ⟨rfl, hw5⟩)
                    exact hT _ _ rfl (below_of_dr hw5) rfl
                  refine' Rg.op_is _ [] rfl rfl (by kernel_rfl) ?_ ?_
                  rotate_left
                  · intro wx hb
                    refine Rg.from_nil fun T hT => ?_
                    go_wp2
                    refine hT _ _ rfl (by first | exact Rg.Keep.refl _ | exact below_of_dr hw2 | exact hw2 | exact (Below.refl _ _).alloc (Nat.le_refl _) _) ?_
                    simp only [Rg.last, List.getElem?_toArray, List.getElem?_cons_succ, List.getElem?_cons_zero, Option.getD_some]
                    rfl
                  refine Rg.op_is (.int .u64 (mAdd c (mMul y x q) q)) [11, 21, 22] rfl rfl (by kernel_rfl) ?_ ?_
                  · intro wx hb
                    refine Rg.from_is (some 145) rfl rfl ?_
                    refine Rg.from_is (some 155) rfl rfl ?_
                    refine Rg.from_is (some 156) rfl rfl ?_
                    refine Rg.from_nil fun T hT => ?_
                    go_wp2_with (go_at_call 30; refine (add_c _ _ _ hcu (mMul_u64 _ _ _) hq _).mono ?_; rintro e w5 ⟨rfl, hw5⟩)
                    exact hT _ _ rfl (below_of_dr hw5) rfl
                  refine Rg.walk_nil [0, 1, 2, 3, 4, 5, 6, 7, 8, 9, 10, 11, 12, 13, 14, 15, 16, 17, 18, 19, 20, 21, 22, 23] (by kernel_rfl) ?_
                  intro wx hb
                  refine Rg.from_is (some 134) rfl rfl ?_
                  refine Rg.from_is (some 135) rfl rfl ?_
                  refine Rg.from_is (some 136) rfl rfl ?_
                  refine Rg.from_is (some 137) rfl rfl ?_
                  refine Rg.from_is (some 138) rfl rfl ?_
                  refine Rg.from_is (some 139) rfl rfl ?_
                  refine Rg.from_is (some 140) rfl rfl ?_
                  refine Rg.from_is (some 141) rfl rfl ?_
                  refine Rg.from_is (some 142) rfl rfl ?_
                  refine Rg.from_is (some 143) rfl rfl ?_
                  refine Rg.from_is (some 144) rfl rfl ?_
                  refine Rg.from_is (some 145) rfl rfl ?_
                  refine Rg.from_is (some 146) rfl rfl ?_
                  refine Rg.from_is (some 147) rfl rfl ?_
                  refine Rg.from_is (some 148) rfl rfl ?_
                  refine Rg.from_is (some 149) rfl rfl ?_
                  refine Rg.from_is (some 150) rfl rfl ?_
                  refine Rg.from_is (some 151) rfl rfl ?_
                  refine Rg.from_is (some 152) rfl rfl ?_
                  refine Rg.from_is (some 153) rfl rfl ?_
                  refine Rg.from_is (some 154) rfl rfl ?_
                  refine Rg.from_is (some 155) rfl rfl ?_
                  refine Rg.from_is (some 156) rfl rfl ?_
                  refine Rg.from_is (some 157) rfl rfl ?_
                  refine Rg.from_nil ?_
                  simp only [List.map, Act.put, List.setIfInBounds_toArray, List.set_cons_zero, List.set_cons_succ]
                  have hRx := HR8.out.1.below hb
                  have hR9 := HPUT.out wx hRx
                  obtain ⟨hgb, hcx, hfx⟩ := HATK.out wx hRx
                  have hc9 := hcx m _ HLM.out
                  have hf9 := hfx m
                  have hb9 := (below_next HR8.out.2 HR8.out.2.size hb).setCell (p := ⟨g, m, none⟩) hgb (.int .u64 (mAdd c (mMul y x q) q))
                  have HN := hid (⟨hR9, hb9⟩ : _ ∧ _)
                  clear hb hRx hcx hfx hck hci hcy hcc hR9 hb9 HPUT
                  go_wp2
                  go_roundw
                  case rel => exact ⟨m + 1, _, by go_num, by omega, HN⟩
                  case measure => simp [intOf]; omega
              · obtain rfl : m = o.length := by omega
                have hlti : ¬ ((o.length : Int) < (o.length : Int)) := by omega
                have hFl2 : (F.set k' (addMid r o x q o.length)).length = a.length := by rw [List.length_set, HFL.out]
                have okF2 := rows_ok (by rw [hFl2]; exact la') (rows_set hFr (i := k') (l := addMid r o x q o.length) (by rw [addMid_len]; omega) (addMid_u64 hru.2 o x q _))
                have hrc := rank_c (some ⟨go, 0, none⟩) (F.set k' (addMid r o x q o.length)) cap q wr hgrid okF2 hq (hT.below (below_next hb2 hb2.size hbw))
                rw [HSET.out.2.2, hFl2] at hrc
                have HRC := hid hrc
                have HBW := hid hbw
                clear hrc okF2 hFl2 hgrid hcO hR hbw HI hg1 hseti hsetk
                go_wp2_with (fail)
                refine HRC.out.mono ?_
                rintro e w9 ⟨rfl, hb9⟩
                have HE := hid (below_next hb2 hb2.size (below_next HBW.out HBW.out.size hb9))
                have he9 : ((n : Int) == (n : Int)) = true := by simp
                clear hb9
                go_wp2
                go_ret
                exact ⟨rfl, HE.out⟩
end Go.Proofs.YtcojnjhffmhbiaaDoor
